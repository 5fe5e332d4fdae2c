/- The walks of the pool package: what the three closures do with a buffer. -/
import Derived.Test.YtfpmdacpmcdleaaPool3
import Derived.Test.YtfpmdacpmcdleaaCopy8
namespace Go.Proofs.Ytfpmdacpmcdleaa
open Go Go.RowKit Go.Lib

theorem infoInt : (Try.prog.info? 3).map (fun i => (i.zero, i.size, i.bytes)) = some (some (.int .i64 0), 1, 8) := by kernel_rfl
/-- append of one number. -/
theorem wpl_appI {w : World} {ops : Array Oper} {rest : List Oper} {a : Act} {Q : Exit → Act → World → Prop} {dst : Option Tmp} {ty : TypeId} {pos : String} {after : Array Edge} (s x : Operand)
    (ao : Option Addr) (n cap : Nat) (xs : List Nat) (hs : a.eval s = .slice ao n cap) (hn : xs.length = n) (hown : OwnI w ao cap xs)
    (so : Option Addr) (m c : Nat) (ys : List Nat) (hx : a.eval x = .slice so m c) (hm : ys.length = m) (hsh : Shows w so (ys.map intV)) (hb : n + m ≤ 1000000000)
    (h : ∀ ao' cap' w', OwnI w' ao' cap' (xs ++ ys) → Mod (blk ao) w w' → SameOrNew w w' ao ao' → wpList Try.prog ops Q rest (a.put dst (.slice ao' (n + m) cap')) w') :
    wpList Try.prog ops Q (⟨dst, .call { callee := .builtin .append, args := #[s, x], argTypes := #[47, 47] }, ty, pos, after, none⟩ :: rest) a w := by
  obtain ⟨i0, hi, hz0, hz1, hz2⟩ := info_parts infoInt
  subst hn hm
  refine wpl_append w rfl s x 47 rfl 3 i0 _ 1 8 Try.underlying47 hi hz0 hz1 hz2 rfl (by decide) ao _ cap _ hs hown so _ c (ys.map intV) hx (by simp) hsh ?_ (by unfold maxLen; omega) (by omega) ?_
  · intro u hu
    obtain ⟨x, _, rfl⟩ := List.mem_map.1 hu
    rfl
  · intro ao' cap' w' h1 h2 h3
    refine h ao' cap' w' ?_ h2 h3
    unfold OwnI
    rw [List.length_append, List.map_append]
    exact h1
theorem showsI1 {w : World} {g : Nat} {x : Nat} {t : TypeId} {z : Nat × Nat} (h : w.heap[g]? = some (.cells #[.int .i64 (x : Int)] t z)) : Shows w (some ⟨g, 0, none⟩) ([x].map intV) := by
  intro j u hj
  refine ⟨_, rfl, ?_⟩
  rw [Addr.add_lit, cell_of_block h, Nat.zero_add]
  rw [← hj]
  simp [intV]

theorem nodup4 {g b ab : Nat} {fa : Option Addr} (h1 : g ≠ b) (h2 : g ≠ ab) (h3 : b ≠ ab) (h4 : ∀ j, j ∈ blk fa → j ≠ g ∧ j ≠ b ∧ j ≠ ab) : (g :: (blk (some ⟨b, 0, none⟩) ++ (blk fa ++ [ab]))).Nodup := by
  cases fa with
  | none => simp [blk]; exact ⟨⟨h1, h2⟩, h3⟩
  | some a =>
    have := h4 a.block (by simp [blk])
    simp [blk]
    exact ⟨⟨h1, Ne.symm this.1, h2⟩, ⟨Ne.symm this.2.1, h3⟩, this.2.2⟩
theorem PoolF.apart {w : World} {g b lc : Nat} {fa : Option Addr} {fc ab sz : Nat} {bufs : List Bf} {fr : List Nat} {arr : List UInt8} (h : PoolF w g (some ⟨b, 0, none⟩) lc fa fc ab sz bufs fr arr) :
    g ≠ b ∧ g ≠ ab ∧ b ≠ ab ∧ g ∉ blk fa ∧ b ∉ blk fa ∧ ab ∉ blk fa := by
  have hnd := h.2.2.2.2
  cases fa with
  | none => simp [blk] at hnd ⊢; exact ⟨hnd.1.1, hnd.1.2, hnd.2⟩
  | some a => simp [blk] at hnd ⊢; exact ⟨hnd.1.1, hnd.1.2.2, hnd.2.1.2, hnd.1.2.1, hnd.2.1.1, fun h => hnd.2.2 h.symm⟩
theorem PoolF.lts {w : World} {g b lc : Nat} {fa : Option Addr} {fc ab sz : Nat} {bufs : List Bf} {fr : List Nat} {arr : List UInt8} (h : PoolF w g (some ⟨b, 0, none⟩) lc fa fc ab sz bufs fr arr) :
    g < w.heap.size ∧ b < w.heap.size ∧ ab < w.heap.size := ⟨h.lt g (by simp), h.lt b (by simp [blk]), h.lt ab (by simp)⟩

set_option maxRecDepth 100000 in
set_option maxHeartbeats 2000000 in
theorem back1_any (g b lc : Nat) (fa : Option Addr) (fc ab sz : Nat) (bufs : List Bf) (fr : List Nat) (arr : List UInt8) (k bp bh : Nat) (w : World) (h : PoolF w g (some ⟨b, 0, none⟩) lc fa fc ab sz bufs fr arr) (hk : k < bufs.length) (hfr : fr.length ≤ 100000)
    (hp : w.cell? ⟨bp, 0, none⟩ = some (.pointer (some ⟨g, 0, none⟩))) (hh : w.cell? ⟨bh, 0, none⟩ = some (.int .i64 (k : Int))) (dp : bp ∉ g :: b :: blk fa) (dh : bh ∉ g :: b :: blk fa) :
    Calls Try.prog 19 #[.pointer (some ⟨b, k * 4, none⟩), .pointer (some ⟨bp, 0, none⟩), .pointer (some ⟨bh, 0, none⟩)] w fun e w' => ∃ v, e = .returned (.int .i64 v) ∧ (v = 0 ∧ ∃ fa' fc', PoolF w' g (some ⟨b, 0, none⟩) lc fa' fc' ab sz (bufs.set k (bufs[k].1, bufs[k].2.1, bufs[k].2.2.1, false)) (fr ++ [k]) arr ∧ SameOrNew w w' fa fa') ∧ Mod (g :: b :: blk fa) w w' := by
  obtain ⟨b', hbb, p0, p1, p2, p3, q1, q2, q3⟩ := OwnBf.at' h.2.1 hk
  cases hbb
  obtain ⟨hgb, hga, hba, ngf, nbf, naf⟩ := h.apart
  have hla := h.lts
  have B1 := OwnBf.set3 h.2.1 k hk false
  have m1 := Mod.setCell (S := [b]) w ⟨b, k * 4 + 3, none⟩ (.bool false) (by simp)
  have HB1 := Lib.hid B1
  have H := Lib.hid h
  have HL := Lib.hid hla
  have HP := Lib.hid hp
  have HH := Lib.hid hh
  have HND := Lib.hid (And.intro ngf (And.intro nbf naf))
  have DP := Lib.hid dp
  have DH := Lib.hid dh
  clear h p0 p1 p2 q1 q2 ngf nbf naf hla B1 hp hh dp dh
  have hblt := World.block_lt_of_cell? w _ p3
  go_enter Try.func19, Try.ntmps19
  go_upto_region 2 with (fail)
  have C1 := Lib.hid (m1.cell HP.out (by simp; rintro rfl; exact DP.out (by simp)))
  have C2 := Lib.hid (m1.cell HH.out (by simp; rintro rfl; exact DH.out (by simp)))
  have G1 := Lib.hid (m1.get H.out.1 (by simp; exact hgb))
  have M1 := Lib.hid m1
  have I1 := Lib.hid (Own.mod H.out.2.2.1 m1 (fun j hj => by simp; rintro rfl; exact HND.out.2.1 hj))
  have A1 := Lib.hid (H.out.2.2.2.1.mod m1 (fun j hj => by simp [blk] at hj ⊢; subst hj; exact Ne.symm hba))
  generalize w.setCell ⟨b, k * 4 + 3, none⟩ (.bool false) = w1 at *
  clear m1 p3 q3
  refine restu_start 8 [] (g :: blk fa) 12 #[false, false, false, false, false, false, false, false, false, false, false, false] rfl (by kernel_rfl) (by kernel_rfl) ?_
  intro w2 m2
  have C1' := Lib.hid (m2.cell C1.out (by simp))
  have C2' := Lib.hid (m2.cell C2.out (by simp))
  have G2 := Lib.hid (m2.get G1.out (by simp))
  have c0 := Lib.hid (cell_of_block (i := 1) G2.out)
  have I2 := Lib.hid (Own.mod0 I1.out m2)
  have A2 := Lib.hid (A1.out.mod0 m2)
  have M2 := Lib.hid (M1.out.trans0 m2)
  have B2 := Lib.hid (Own.mod0 HB1.out m2)
  clear m2 C1 C2 G1 I1 A1 M1 HB1
  have K1 : Hid (bp ∉ g :: blk fa) := fun h => DP.out (by rcases List.mem_cons.1 h with h | h; simp [h]; simp [h])
  have K2 : Hid (bh ∉ g :: blk fa) := fun h => DH.out (by rcases List.mem_cons.1 h with h | h; simp [h]; simp [h])
  refine restu_got (i := 0) (v := ?v1) rfl (by kernel_rfl) (by kernel_rfl) (by kernel_rfl) (by rfl) (fun _ _ _ h => h) (by rfl) ?y1 ?r1
  case y1 => ((intro w9' hm9'; have hc9' := Mod.cell hm9' C1'.out K1.out; clear hm9'; go_simp; with_reducible rfl))
  try simp only [Act.put, List.setIfInBounds_toArray, List.set_cons_zero, List.set_cons_succ]
  refine restu_early (i := 1) [2, 3, 4, 8, 9, 10, 11] (v := ?v2) rfl (by kernel_rfl) (by kernel_rfl) (by kernel_rfl) (by rfl) (by kernel_rfl) (by rfl) (by kernel_rfl) (fun _ _ _ h => h) (by rfl) ?y2 ?r2
  case y2 => ((intro w9' hm9'; have hc9' := Mod.cell hm9' C1'.out (by first | exact List.not_mem_nil | (simp; done) | (simp; omega)); clear hm9'; go_simp; with_reducible rfl))
  try simp only [Act.put, List.setIfInBounds_toArray, List.set_cons_zero, List.set_cons_succ]
  refine restu_got (i := 2) (v := ?v3) rfl (by kernel_rfl) (by kernel_rfl) (by kernel_rfl) (by rfl) (fun _ _ _ h => h) (by rfl) ?y3 ?r3
  case y3 => (intro w9q hSwq; clear hSwq; go_simp; with_reducible rfl)
  try simp only [Act.put, List.setIfInBounds_toArray, List.set_cons_zero, List.set_cons_succ]
  refine restu_got (i := 3) (v := ?v4) rfl (by kernel_rfl) (by kernel_rfl) (by kernel_rfl) (by rfl) (fun _ _ _ h => h) (by rfl) ?y4 ?r4
  case y4 => (intro w9q hSwq; clear hSwq; go_simp; with_reducible rfl)
  try simp only [Act.put, List.setIfInBounds_toArray, List.set_cons_zero, List.set_cons_succ]
  refine restu_early (i := 4) [8, 9, 10, 11] (v := ?v5) rfl (by kernel_rfl) (by kernel_rfl) (by kernel_rfl) (by rfl) (by kernel_rfl) (by rfl) (by kernel_rfl) (fun _ _ _ h => h) (by rfl) ?y5 ?r5
  case y5 => ((intro w9' hm9'; have hc9' := Mod.cell hm9' c0.out (by first | exact List.not_mem_nil | (simp; done) | (simp; omega)); clear hm9'; go_simp; with_reducible rfl))
  try simp only [Act.put, List.setIfInBounds_toArray, List.set_cons_zero, List.set_cons_succ]
  refine restu_got (i := 5) (v := ?v6) rfl (by kernel_rfl) (by kernel_rfl) (by kernel_rfl) (by rfl) (fun _ _ _ h => h) (by rfl) ?y6 ?r6
  case y6 => (intro w9q hSwq; clear hSwq; go_simp; with_reducible rfl)
  try simp only [Act.put, List.setIfInBounds_toArray, List.set_cons_zero, List.set_cons_succ]
  refine restu_early (i := 6) [7, 8, 9, 10, 11] (v := ?v7) rfl (by kernel_rfl) (by kernel_rfl) (by kernel_rfl) (by rfl) (by kernel_rfl) (by rfl) (by kernel_rfl) (fun _ _ _ h => h) (by rfl) ?y7 ?r7
  case y7 => ((intro w9' hm9'; have hc9' := Mod.cell hm9' C2'.out (by first | exact List.not_mem_nil | (simp; done) | (simp; omega)); clear hm9'; go_simp; with_reducible rfl))
  try simp only [Act.put, List.setIfInBounds_toArray, List.set_cons_zero, List.set_cons_succ]
  refine restu_one (i := 7) (by kernel_rfl) rfl (by rfl) ?_
  go_wp2_with fail
  have ma := Mod.alloc [] w2 (.cells #[.int .i64 (k : Int)] 3)
  have HSH := Lib.hid (showsI1 (heap_alloc_new w2 (.cells #[.int .i64 (k : Int)] 3)))
  refine backu_to (K' := []) (K2' := g :: blk fa) ma (by simp) (by simp) (fun _ h _ => h) ?_
  have I3 := Lib.hid (Own.mod0 I2.out ma)
  have G3 := Lib.hid (ma.get G2.out (by simp))
  have M3 := Lib.hid (M2.out.trans0 ma)
  have A3 := Lib.hid (A2.out.mod0 ma)
  have B3 := Lib.hid (Own.mod0 B2.out ma)
  clear ma c0 C1' C2' I2 G2 M2 A2 B2
  
  refine restu_one (i := 8) (by kernel_rfl) rfl (by rfl) ?_
  go_wp2_with (first | (at_builtin; refine wpl_appI (dst := some 16) _ _ fa fr.length fc fr rfl rfl I3.out _ 1 1 [k] rfl rfl HSH.out (by omega) ?_) | fail)
  intro a4 c4 w4 o4 m4 s4
  have HO4 := Lib.hid o4
  have hga4 : g ∉ blk a4 := fun hm => by
    rcases s4.blk g hm with h | h
    · exact HND.out.1 h
    · have := HL.out.1; have := M3.out.size; omega
  have G4 := Lib.hid (m4.get G3.out HND.out.1)
  have B4 := Lib.hid (Own.mod B3.out m4 (fun j hj => by simp [blk] at hj; subst hj; exact HND.out.2.1))
  have A4 := Lib.hid (A3.out.mod m4 (fun j hj => by simp [blk] at hj; subst hj; exact HND.out.2.2))
  have M4 : Hid (Mod (g :: b :: blk fa) w w4) := (M3.out.weaken (fun j hj => by simp at hj; simp [hj])).trans m4 (fun j hj _ => by simp [hj])
  have S4 : Hid (SameOrNew w w4 fa a4) := s4.imp id (fun ⟨g, h1, h2, h3⟩ => ⟨g, h1, Nat.le_trans M3.out.size h2, h3⟩)
  have N4 : Hid (∀ j, j ∈ blk a4 → j ≠ g ∧ j ≠ b ∧ j ≠ ab) := fun j hj => by
    have h1 := HL.out
    have h2 := HND.out
    rcases S4.out.blk j hj with h | h
    · exact ⟨fun e => h2.1 (e ▸ h), fun e => h2.2.1 (e ▸ h), fun e => h2.2.2 (e ▸ h)⟩
    · omega
  go_wp2_with fail
  refine backm_to (K1 := [g]) (by kernel_rfl) (m4.weaken (fun j hj => by simp [hj])) (fun j hj _ => by simp at hj; simp [hj]) ?_
  clear o4 m4 s4 HSH I3 G3 M3 A3 B3
  refine rest_got (i := 9) (v := ?v8) rfl (by kernel_rfl) (by kernel_rfl) (by kernel_rfl) (fun _ _ _ h => h) (by rfl) ?y8 ?r8
  case y8 => (intro w9q hSwq; clear hSwq; go_simp; with_reducible rfl)
  try simp only [Act.put, List.setIfInBounds_toArray, List.set_cons_zero, List.set_cons_succ]
  refine rest_got (i := 10) (v := ?v9) rfl (by kernel_rfl) (by kernel_rfl) (by kernel_rfl) (fun _ _ _ h => h) (by rfl) ?y9 ?r9
  case y9 => (intro w9q hSwq; clear hSwq; go_simp; with_reducible rfl)
  try simp only [Act.put, List.setIfInBounds_toArray, List.set_cons_zero, List.set_cons_succ]
  have g4 := cell_of_block (i := 1) G4.out
  have f4 := free_of_block (i := 1) G4.out
  refine rest_one (i := 11) (by kernel_rfl) rfl (by rfl) ?_
  go_wp2_with fail
  have m5 := Mod.setCell (S := [g]) w4 ⟨g, 1, none⟩ (.slice a4 (fr.length + 1) c4) (by simp)
  refine back_to (K1 := []) m5 (by simp) ?_
  clear g4 f4
  refine rest_done (by kernel_rfl) ?_ _
  go_wp2
  go_ret
  have G5 := heap_setCell_same (i := 1) G4.out (.slice a4 (fr.length + 1) c4)
  refine ⟨0, rfl, ⟨rfl, a4, c4, ⟨?_, Own.mod B4.out m5 (fun j hj => by simp [blk] at hj; subst hj; simp; exact Ne.symm hgb), Own.mod HO4.out m5 (fun j hj => by simp; exact (N4.out j hj).1), A4.out.mod m5 (fun j hj => by simp [blk] at hj; subst hj; simp; exact Ne.symm hga), nodup4 hgb hga hba N4.out⟩, ?_⟩, ?_⟩
  · rw [G5]; simp
  · exact S4.out.imp id (fun ⟨g, h1, h2, h3⟩ => ⟨g, h1, h2, Nat.lt_of_lt_of_le h3 m5.size⟩)
  · exact M4.out.trans m5 (fun j hj _ => by simp at hj; simp [hj])
end Go.Proofs.Ytfpmdacpmcdleaa
