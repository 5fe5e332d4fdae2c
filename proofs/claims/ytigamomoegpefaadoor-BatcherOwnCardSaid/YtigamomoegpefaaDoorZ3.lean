/- Texts put together (3 of 7): Copy8, Pool4, Pool5, Pool6, Pool7, Cmd, Cmd2, Enc. -/
import Derived.Test.YtigamomoegpefaaDoorZ1
import Derived.Laws.CopyRow
import Derived.Laws.IdiomCopy
import Derived.Test.YtigamomoegpefaaDoorZ2
import Derived.BigQuiet
/- copy of bytes into a row of the call's own. -/
namespace Go.Proofs.YtigamomoegpefaaDoor
open Go Go.RowKit

theorem run_copy_fz {P : Program} (w : World) (dT sT ty elem : TypeId) (g o dLen dCap : Nat) (a : Addr) (sLen sCap : Nat) (cur : Array Value) (t : TypeId) (fz : Nat × Nat) (cs : List Value)
    (hu : P.underlying dT = some (.slice elem)) (hs : (P.info? elem).map (·.size) = some 1)
    (hg : w.heap[g]? = some (.cells cur t fz)) (hz : fz = (0, 0) ∨ cur.size ≤ fz.1) (hn : cs.length = Nat.min sLen dLen)
    (hsrc : ∀ j v, cs[j]? = some v → w.cell? (a.add j) = some v) (hfit : o + cs.length ≤ cur.size) (h1 : ∀ v ∈ cs, v.oneCell' = true) :
    (Builtin.copy_ #[dT, sT] ty #[.slice (some ⟨g, o, none⟩) dLen dCap, .slice (some a) sLen sCap]).run P w =
      .ok (goInt cs.length) (w.setRow g (cur.toList.take o ++ cs ++ cur.toList.drop (o + cs.length)).toArray) := by
  have hl := run_loadCells_list (P := P) w a cs hsrc
  have hst := run_storeCells_fz (P := P) g o t fz cs 0 cur w hg hz (by simpa using hfit) h1
  cases hq : P.info? elem with
  | none => simp [hq] at hs
  | some i =>
    have hi : i.size = 1 := by simpa [hq] using hs
    simp [Builtin.copy_, run_underlying hu, Builtin.lenOf, Builtin.firstCells, sizeOf, typeInfo, hq, hi, ← hn, hl, hst]

theorem take_over (L : List Value) (tl l : List Value) (off : Nat) (h : off + l.length ≤ L.length) :
    ((L ++ tl).take off ++ l ++ (L ++ tl).drop (off + l.length)).take L.length = L.take off ++ l ++ L.drop (off + l.length) := by
  rw [List.take_append_of_le_length (l₁ := L) (i := off) (by omega), List.drop_append_of_le_length (l₁ := L) (by omega), ← List.append_assoc]
  exact List.take_left' (by simp; omega)

/-- copy of bytes l into a row of bytes of the call's own, from 'off' on. -/
theorem wpl_copy8 {w : World} {ops : Array Oper} {rest : List Oper} {a : Act} {Q : Exit → Act → World → Prop} {dst : Option Tmp} {ty : TypeId} {pos : String} {after : Array Edge} (d s : Operand)
    (g off dLen dCap : Nat) (so : Option Addr) (m c : Nat) (hd : a.eval d = .slice (some ⟨g, off, none⟩) dLen dCap) (hs : a.eval s = .slice so m c)
    (l : List UInt8) (hl : l.length = m) (hsees : Sees w so l) (cap : Nat) (L : List UInt8) (hown : OwnB w (some ⟨g, 0, none⟩) cap L) (hle : m ≤ dLen) (hfit : off + m ≤ L.length)
    (h : ∀ w', OwnB w' (some ⟨g, 0, none⟩) cap (L.take off ++ l ++ L.drop (off + m)) → Mod [g] w w' → wpList Tryd.prog ops Q rest (a.put dst (.int .i64 (m : Int))) w') :
    wpList Tryd.prog ops Q (⟨dst, .call { callee := .builtin .copy, args := #[d, s], argTypes := #[74, 74] }, ty, pos, after, none⟩ :: rest) a w := by
  have hinfo : (Tryd.prog.info? 5).map (·.size) = some 1 := by kernel_rfl
  refine wpList_plain rfl fun K hK => ?_
  subst hl
  by_cases h0 : l.length = 0
  · have hl0 : l = [] := List.eq_nil_of_length_eq_zero h0
    subst hl0
    have hrun := run_copy_none (P := Tryd.prog) w 74 74 ty 5 (some ⟨g, off, none⟩) so dLen dCap 0 c Tryd.underlying74 hinfo (by simp)
    have hk := h w (by simpa using hown) (Mod.refl _ _)
    simp only [List.length_nil] at hs hk
    unfold Oper.wp
    simp [execOp, resolve, invoke, builtin, hd, hs, hrun, Result.andThen, goInt]
    exact hK _ _ (by simpa using hk)
  · obtain ⟨ad, rfl⟩ : ∃ ad, so = some ad := by
      obtain ⟨b, o, hb, _⟩ := hsees 0 (by omega)
      exact ⟨_, hb⟩
    rcases hown.2 with ⟨hx, _⟩ | ⟨g', cur, fz, hg', hg, hz, hn, hm, hcs, ht⟩
    · cases hx
    · cases hg'
      have hsrc : ∀ j v, (l.map u8v)[j]? = some v → w.cell? (ad.add j) = some v := fun j v hj => by
        obtain ⟨ad', e, h2⟩ := hsees.shows j v hj
        cases e; exact h2
      have hrun := run_copy_fz (P := Tryd.prog) w 74 74 ty 5 g off dLen dCap ad l.length c cur 5 fz (l.map u8v) Tryd.underlying74 hinfo hg hz (by rw [List.length_map]; exact (Nat.min_eq_left hle).symm) hsrc (by rw [List.length_map]; simp at hcs; omega) (one_u8 _)
      unfold Oper.wp
      simp only [List.length_map] at hrun
      simp [execOp, resolve, invoke, builtin, hd, hs, hrun, Result.andThen, goInt]
      refine hK _ _ (h _ ⟨by simp, .inr ⟨g, _, fz, rfl, setRow_heap w g cur _ 5 _ hg, hz.imp id (fun h => by simp; omega), by simp; omega, hm, by simp; omega, ?_⟩⟩ ⟨rfl, rfl, rfl, by simp, fun k _ hk => setRow_other w g k _ (fun e => hk (by simp [e]))⟩)
      have e1 : cur.toList = L.map u8v ++ cur.toList.drop L.length := by rw [← List.take_append_drop L.length cur.toList]; simp only [Nat.mul_one] at ht; rw [ht]; simp
      have e2 := take_over (L.map u8v) (cur.toList.drop L.length) (l.map u8v) off (by simpa using hfit)
      rw [← e1] at e2
      simp only [List.length_map] at e2
      simp only [Nat.mul_one, List.map_append, List.map_take, List.map_drop]
      have e3 : (L.take off ++ l ++ L.drop (off + l.length)).length = L.length := by simp; omega
      rw [e3]
      simpa using e2
end Go.Proofs.YtigamomoegpefaaDoor
/- The walks of the pool package: what the three closures do with a buffer. -/
namespace Go.Proofs.YtigamomoegpefaaDoor
open Go Go.RowKit Go.Lib

theorem infoInt : (Tryd.prog.info? 3).map (fun i => (i.zero, i.size, i.bytes)) = some (some (.int .i64 0), 1, 8) := by kernel_rfl
/-- append of one number. -/
theorem wpl_appI {w : World} {ops : Array Oper} {rest : List Oper} {a : Act} {Q : Exit → Act → World → Prop} {dst : Option Tmp} {ty : TypeId} {pos : String} {after : Array Edge} (s x : Operand)
    (ao : Option Addr) (n cap : Nat) (xs : List Nat) (hs : a.eval s = .slice ao n cap) (hn : xs.length = n) (hown : OwnI w ao cap xs)
    (so : Option Addr) (m c : Nat) (ys : List Nat) (hx : a.eval x = .slice so m c) (hm : ys.length = m) (hsh : Shows w so (ys.map intV)) (hb : n + m ≤ 1000000000)
    (h : ∀ ao' cap' w', OwnI w' ao' cap' (xs ++ ys) → Mod (blk ao) w w' → SameOrNew w w' ao ao' → wpList Tryd.prog ops Q rest (a.put dst (.slice ao' (n + m) cap')) w') :
    wpList Tryd.prog ops Q (⟨dst, .call { callee := .builtin .append, args := #[s, x], argTypes := #[32, 32] }, ty, pos, after, none⟩ :: rest) a w := by
  obtain ⟨i0, hi, hz0, hz1, hz2⟩ := info_parts infoInt
  subst hn hm
  refine wpl_append w rfl s x 32 rfl 3 i0 _ 1 8 Tryd.underlying32 hi hz0 hz1 hz2 rfl (by decide) ao _ cap _ hs hown so _ c (ys.map intV) hx (by simp) hsh ?_ (by unfold maxLen; omega) (by omega) ?_
  · intro u hu
    obtain ⟨x, _, rfl⟩ := List.mem_map.1 hu
    rfl
  · intro ao' cap' w' h1 h2 h3
    refine h ao' cap' w' ?_ h2 h3
    unfold OwnI
    rw [List.length_append, List.map_append]
    exact h1
theorem showsI1 {w : World} {g : Nat} {x : Nat} {t : TypeId} {z : Nat × Nat} (h : w.heap[g]? = some (.cells #[.int .i64 (x : Int)] t z)) : Shows w (some ⟨g, 0, none⟩) ([x].map intV) := by
  intro j u hj
  refine ⟨_, rfl, ?_⟩
  rw [Addr.add_lit, cell_of_block h, Nat.zero_add]
  rw [← hj]
  simp [intV]

theorem nodup4 {g b ab : Nat} {fa : Option Addr} (h1 : g ≠ b) (h2 : g ≠ ab) (h3 : b ≠ ab) (h4 : ∀ j, j ∈ blk fa → j ≠ g ∧ j ≠ b ∧ j ≠ ab) : (g :: (blk (some ⟨b, 0, none⟩) ++ (blk fa ++ [ab]))).Nodup := by
  cases fa with
  | none => simp [blk]; exact ⟨⟨h1, h2⟩, h3⟩
  | some a =>
    have := h4 a.block (by simp [blk])
    simp [blk]
    exact ⟨⟨h1, Ne.symm this.1, h2⟩, ⟨Ne.symm this.2.1, h3⟩, this.2.2⟩
theorem PoolF.apart {w : World} {g b lc : Nat} {fa : Option Addr} {fc ab sz : Nat} {bufs : List Bf} {fr : List Nat} {arr : List UInt8} (h : PoolF w g (some ⟨b, 0, none⟩) lc fa fc ab sz bufs fr arr) :
    g ≠ b ∧ g ≠ ab ∧ b ≠ ab ∧ g ∉ blk fa ∧ b ∉ blk fa ∧ ab ∉ blk fa := by
  have hnd := h.2.2.2.2
  cases fa with
  | none => simp [blk] at hnd ⊢; exact ⟨hnd.1.1, hnd.1.2, hnd.2⟩
  | some a => simp [blk] at hnd ⊢; exact ⟨hnd.1.1, hnd.1.2.2, hnd.2.1.2, hnd.1.2.1, hnd.2.1.1, fun h => hnd.2.2 h.symm⟩
theorem PoolF.lts {w : World} {g b lc : Nat} {fa : Option Addr} {fc ab sz : Nat} {bufs : List Bf} {fr : List Nat} {arr : List UInt8} (h : PoolF w g (some ⟨b, 0, none⟩) lc fa fc ab sz bufs fr arr) :
    g < w.heap.size ∧ b < w.heap.size ∧ ab < w.heap.size := ⟨h.lt g (by simp), h.lt b (by simp [blk]), h.lt ab (by simp)⟩

set_option maxRecDepth 100000 in
set_option maxHeartbeats 2000000 in
theorem back1_any (g b lc : Nat) (fa : Option Addr) (fc ab sz : Nat) (bufs : List Bf) (fr : List Nat) (arr : List UInt8) (k bp bh : Nat) (w : World) (h : PoolF w g (some ⟨b, 0, none⟩) lc fa fc ab sz bufs fr arr) (hk : k < bufs.length) (hfr : fr.length ≤ 100000)
    (hp : w.cell? ⟨bp, 0, none⟩ = some (.pointer (some ⟨g, 0, none⟩))) (hh : w.cell? ⟨bh, 0, none⟩ = some (.int .i64 (k : Int))) (dp : bp ∉ g :: b :: blk fa) (dh : bh ∉ g :: b :: blk fa) :
    Calls Tryd.prog 49 #[.pointer (some ⟨b, k * 4, none⟩), .pointer (some ⟨bp, 0, none⟩), .pointer (some ⟨bh, 0, none⟩)] w fun e w' => ∃ v, e = .returned (.int .i64 v) ∧ (v = 0 ∧ ∃ fa' fc', PoolF w' g (some ⟨b, 0, none⟩) lc fa' fc' ab sz (bufs.set k (bufs[k].1, bufs[k].2.1, bufs[k].2.2.1, false)) (fr ++ [k]) arr ∧ SameOrNew w w' fa fa') ∧ Mod (g :: b :: blk fa) w w' := by
  obtain ⟨b', hbb, p0, p1, p2, p3, q1, q2, q3⟩ := OwnBf.at' h.2.1 hk
  cases hbb
  obtain ⟨hgb, hga, hba, ngf, nbf, naf⟩ := h.apart
  have hla := h.lts
  have B1 := OwnBf.set3 h.2.1 k hk false
  have m1 := Mod.setCell (S := [b]) w ⟨b, k * 4 + 3, none⟩ (.bool false) (by simp)
  have HB1 := Lib.hid B1
  have H := Lib.hid h
  have HL := Lib.hid hla
  have HP := Lib.hid hp
  have HH := Lib.hid hh
  have HND := Lib.hid (And.intro ngf (And.intro nbf naf))
  have DP := Lib.hid dp
  have DH := Lib.hid dh
  clear h p0 p1 p2 q1 q2 ngf nbf naf hla B1 hp hh dp dh
  have hblt := World.block_lt_of_cell? w _ p3
  go_enter Tryd.func49, Tryd.ntmps49
  go_upto_region 2 with (fail)
  have C1 := Lib.hid (m1.cell HP.out (by simp; rintro rfl; exact DP.out (by simp)))
  have C2 := Lib.hid (m1.cell HH.out (by simp; rintro rfl; exact DH.out (by simp)))
  have G1 := Lib.hid (m1.get H.out.1 (by simp; exact hgb))
  have M1 := Lib.hid m1
  have I1 := Lib.hid (Own.mod H.out.2.2.1 m1 (fun j hj => by simp; rintro rfl; exact HND.out.2.1 hj))
  have A1 := Lib.hid (H.out.2.2.2.1.mod m1 (fun j hj => by simp [blk] at hj ⊢; subst hj; exact Ne.symm hba))
  generalize w.setCell ⟨b, k * 4 + 3, none⟩ (.bool false) = w1 at *
  clear m1 p3 q3
  refine restu_start 8 [] (g :: blk fa) 12 #[false, false, false, false, false, false, false, false, false, false, false, false] rfl (by kernel_rfl) (by kernel_rfl) ?_
  intro w2 m2
  have C1' := Lib.hid (m2.cell C1.out (by simp))
  have C2' := Lib.hid (m2.cell C2.out (by simp))
  have G2 := Lib.hid (m2.get G1.out (by simp))
  have c0 := Lib.hid (cell_of_block (i := 1) G2.out)
  have I2 := Lib.hid (Own.mod0 I1.out m2)
  have A2 := Lib.hid (A1.out.mod0 m2)
  have M2 := Lib.hid (M1.out.trans0 m2)
  have B2 := Lib.hid (Own.mod0 HB1.out m2)
  clear m2 C1 C2 G1 I1 A1 M1 HB1
  have K1 : Hid (bp ∉ g :: blk fa) := fun h => DP.out (by rcases List.mem_cons.1 h with h | h; simp [h]; simp [h])
  have K2 : Hid (bh ∉ g :: blk fa) := fun h => DH.out (by rcases List.mem_cons.1 h with h | h; simp [h]; simp [h])
  refine restu_got (i := 0) (v := ?v1) rfl (by kernel_rfl) (by kernel_rfl) (by kernel_rfl) (by rfl) (fun _ _ _ h => h) (by rfl) ?y1 ?r1
  case y1 => ((intro w9' hm9'; have hc9' := Mod.cell hm9' C1'.out K1.out; clear hm9'; go_simp; with_reducible rfl))
  try simp only [Act.put, List.setIfInBounds_toArray, List.set_cons_zero, List.set_cons_succ]
  refine restu_early (i := 1) [2, 3, 4, 8, 9, 10, 11] (v := ?v2) rfl (by kernel_rfl) (by kernel_rfl) (by kernel_rfl) (by rfl) (by kernel_rfl) (by rfl) (by kernel_rfl) (fun _ _ _ h => h) (by rfl) ?y2 ?r2
  case y2 => ((intro w9' hm9'; have hc9' := Mod.cell hm9' C1'.out (by first | exact List.not_mem_nil | (simp; done) | (simp; omega)); clear hm9'; go_simp; with_reducible rfl))
  try simp only [Act.put, List.setIfInBounds_toArray, List.set_cons_zero, List.set_cons_succ]
  refine restu_got (i := 2) (v := ?v3) rfl (by kernel_rfl) (by kernel_rfl) (by kernel_rfl) (by rfl) (fun _ _ _ h => h) (by rfl) ?y3 ?r3
  case y3 => (intro w9q hSwq; clear hSwq; go_simp; with_reducible rfl)
  try simp only [Act.put, List.setIfInBounds_toArray, List.set_cons_zero, List.set_cons_succ]
  refine restu_got (i := 3) (v := ?v4) rfl (by kernel_rfl) (by kernel_rfl) (by kernel_rfl) (by rfl) (fun _ _ _ h => h) (by rfl) ?y4 ?r4
  case y4 => (intro w9q hSwq; clear hSwq; go_simp; with_reducible rfl)
  try simp only [Act.put, List.setIfInBounds_toArray, List.set_cons_zero, List.set_cons_succ]
  refine restu_early (i := 4) [8, 9, 10, 11] (v := ?v5) rfl (by kernel_rfl) (by kernel_rfl) (by kernel_rfl) (by rfl) (by kernel_rfl) (by rfl) (by kernel_rfl) (fun _ _ _ h => h) (by rfl) ?y5 ?r5
  case y5 => ((intro w9' hm9'; have hc9' := Mod.cell hm9' c0.out (by first | exact List.not_mem_nil | (simp; done) | (simp; omega)); clear hm9'; go_simp; with_reducible rfl))
  try simp only [Act.put, List.setIfInBounds_toArray, List.set_cons_zero, List.set_cons_succ]
  refine restu_got (i := 5) (v := ?v6) rfl (by kernel_rfl) (by kernel_rfl) (by kernel_rfl) (by rfl) (fun _ _ _ h => h) (by rfl) ?y6 ?r6
  case y6 => (intro w9q hSwq; clear hSwq; go_simp; with_reducible rfl)
  try simp only [Act.put, List.setIfInBounds_toArray, List.set_cons_zero, List.set_cons_succ]
  refine restu_early (i := 6) [7, 8, 9, 10, 11] (v := ?v7) rfl (by kernel_rfl) (by kernel_rfl) (by kernel_rfl) (by rfl) (by kernel_rfl) (by rfl) (by kernel_rfl) (fun _ _ _ h => h) (by rfl) ?y7 ?r7
  case y7 => ((intro w9' hm9'; have hc9' := Mod.cell hm9' C2'.out (by first | exact List.not_mem_nil | (simp; done) | (simp; omega)); clear hm9'; go_simp; with_reducible rfl))
  try simp only [Act.put, List.setIfInBounds_toArray, List.set_cons_zero, List.set_cons_succ]
  refine restu_one (i := 7) (by kernel_rfl) rfl (by rfl) ?_
  go_wp2_with fail
  have ma := Mod.alloc [] w2 (.cells #[.int .i64 (k : Int)] 3)
  have HSH := Lib.hid (showsI1 (heap_alloc_new w2 (.cells #[.int .i64 (k : Int)] 3)))
  refine backu_to (K' := []) (K2' := g :: blk fa) ma (by simp) (by simp) (fun _ h _ => h) ?_
  have I3 := Lib.hid (Own.mod0 I2.out ma)
  have G3 := Lib.hid (ma.get G2.out (by simp))
  have M3 := Lib.hid (M2.out.trans0 ma)
  have A3 := Lib.hid (A2.out.mod0 ma)
  have B3 := Lib.hid (Own.mod0 B2.out ma)
  clear ma c0 C1' C2' I2 G2 M2 A2 B2
  
  refine restu_one (i := 8) (by kernel_rfl) rfl (by rfl) ?_
  go_wp2_with (first | (at_builtin; refine wpl_appI (dst := some 16) _ _ fa fr.length fc fr rfl rfl I3.out _ 1 1 [k] rfl rfl HSH.out (by omega) ?_) | fail)
  intro a4 c4 w4 o4 m4 s4
  have HO4 := Lib.hid o4
  have hga4 : g ∉ blk a4 := fun hm => by
    rcases s4.blk g hm with h | h
    · exact HND.out.1 h
    · have := HL.out.1; have := M3.out.size; omega
  have G4 := Lib.hid (m4.get G3.out HND.out.1)
  have B4 := Lib.hid (Own.mod B3.out m4 (fun j hj => by simp [blk] at hj; subst hj; exact HND.out.2.1))
  have A4 := Lib.hid (A3.out.mod m4 (fun j hj => by simp [blk] at hj; subst hj; exact HND.out.2.2))
  have M4 : Hid (Mod (g :: b :: blk fa) w w4) := (M3.out.weaken (fun j hj => by simp at hj; simp [hj])).trans m4 (fun j hj _ => by simp [hj])
  have S4 : Hid (SameOrNew w w4 fa a4) := s4.imp id (fun ⟨g, h1, h2, h3⟩ => ⟨g, h1, Nat.le_trans M3.out.size h2, h3⟩)
  have N4 : Hid (∀ j, j ∈ blk a4 → j ≠ g ∧ j ≠ b ∧ j ≠ ab) := fun j hj => by
    have h1 := HL.out
    have h2 := HND.out
    rcases S4.out.blk j hj with h | h
    · exact ⟨fun e => h2.1 (e ▸ h), fun e => h2.2.1 (e ▸ h), fun e => h2.2.2 (e ▸ h)⟩
    · omega
  go_wp2_with fail
  refine backm_to (K1 := [g]) (by kernel_rfl) (m4.weaken (fun j hj => by simp [hj])) (fun j hj _ => by simp at hj; simp [hj]) ?_
  clear o4 m4 s4 HSH I3 G3 M3 A3 B3
  refine rest_got (i := 9) (v := ?v8) rfl (by kernel_rfl) (by kernel_rfl) (by kernel_rfl) (fun _ _ _ h => h) (by rfl) ?y8 ?r8
  case y8 => (intro w9q hSwq; clear hSwq; go_simp; with_reducible rfl)
  try simp only [Act.put, List.setIfInBounds_toArray, List.set_cons_zero, List.set_cons_succ]
  refine rest_got (i := 10) (v := ?v9) rfl (by kernel_rfl) (by kernel_rfl) (by kernel_rfl) (fun _ _ _ h => h) (by rfl) ?y9 ?r9
  case y9 => (intro w9q hSwq; clear hSwq; go_simp; with_reducible rfl)
  try simp only [Act.put, List.setIfInBounds_toArray, List.set_cons_zero, List.set_cons_succ]
  have g4 := cell_of_block (i := 1) G4.out
  have f4 := free_of_block (i := 1) G4.out
  refine rest_one (i := 11) (by kernel_rfl) rfl (by rfl) ?_
  go_wp2_with fail
  have m5 := Mod.setCell (S := [g]) w4 ⟨g, 1, none⟩ (.slice a4 (fr.length + 1) c4) (by simp)
  refine back_to (K1 := []) m5 (by simp) ?_
  clear g4 f4
  refine rest_done (by kernel_rfl) ?_ _
  go_wp2
  go_ret
  have G5 := heap_setCell_same (i := 1) G4.out (.slice a4 (fr.length + 1) c4)
  refine ⟨0, rfl, ⟨rfl, a4, c4, ⟨?_, Own.mod B4.out m5 (fun j hj => by simp [blk] at hj; subst hj; simp; exact Ne.symm hgb), Own.mod HO4.out m5 (fun j hj => by simp; exact (N4.out j hj).1), A4.out.mod m5 (fun j hj => by simp [blk] at hj; subst hj; simp; exact Ne.symm hga), nodup4 hgb hga hba N4.out⟩, ?_⟩, ?_⟩
  · rw [G5]; simp
  · exact S4.out.imp id (fun ⟨g, h1, h2, h3⟩ => ⟨g, h1, h2, Nat.lt_of_lt_of_le h3 m5.size⟩)
  · exact M4.out.trans m5 (fun j hj _ => by simp at hj; simp [hj])
end Go.Proofs.YtigamomoegpefaaDoor
/- The walks of the pool package: a buffer is filled, told. -/
namespace Go.Proofs.YtigamomoegpefaaDoor
open Go Go.RowKit Go.Lib

set_option maxRecDepth 100000 in
set_option maxHeartbeats 2000000 in
theorem set1_long (g b lc : Nat) (fa : Option Addr) (fc ab sz : Nat) (bufs : List Bf) (fr : List Nat) (arr : List UInt8) (k bb : Nat) (so : Option Addr) (n c : Nat) (w : World) (h : PoolF w g (some ⟨b, 0, none⟩) lc fa fc ab sz bufs fr arr) (hk : k < bufs.length)
    (hb : w.cell? ⟨bb, 0, none⟩ = some (.slice so n c)) (hn : sz < n) :
    Calls Tryd.prog 42 #[.pointer (some ⟨b, k * 4, none⟩), .pointer (some ⟨bb, 0, none⟩)] w fun e w' => ∃ v, e = .returned (.int .i64 v) ∧ v = 3 ∧ Mod [] w w' := by
  obtain ⟨b', hbb, p0, p1, p2, p3, q1, q2, q3⟩ := OwnBf.at' h.2.1 hk
  cases hbb
  have hd : decide (sz < n) = true := by simpa using hn
  clear h p1 p2 p3 q1 q2 q3
  go_enter Tryd.func42, Tryd.ntmps42
  go_upto_region 1 with (fail)
  refine rest_start [] 8 #[false, false, false, false, false, false, false, false] rfl (by kernel_rfl) (by kernel_rfl) ?_
  intro w1 m1
  have c0 := m1.cell hb (by simp)
  have p0 := m1.cell p0 (by simp)
  have M1 := Lib.hid m1
  clear m1
  refine rest_got (i := 0) (v := ?v1) rfl (by kernel_rfl) (by kernel_rfl) (by kernel_rfl) (fun _ _ _ h => h) (by rfl) ?y1 ?r1
  case y1 => ((intro w9' hm9'; have hc9' := Mod.cell hm9' c0 (by first | exact List.not_mem_nil | (simp; done) | (simp; omega)); clear hm9'; go_simp; with_reducible rfl))
  try simp only [Act.put, List.setIfInBounds_toArray, List.set_cons_zero, List.set_cons_succ]
  refine rest_got (i := 1) (v := ?v2) rfl (by kernel_rfl) (by kernel_rfl) (by kernel_rfl) (fun _ _ _ h => h) (by rfl) ?y2 ?r2
  case y2 => (intro w9q hSwq; clear hSwq; go_simp; with_reducible rfl)
  try simp only [Act.put, List.setIfInBounds_toArray, List.set_cons_zero, List.set_cons_succ]
  refine rest_got (i := 2) (v := ?v3) rfl (by kernel_rfl) (by kernel_rfl) (by kernel_rfl) (fun _ _ _ h => h) (by rfl) ?y3 ?r3
  case y3 => (intro w9q hSwq; clear hSwq; go_simp; with_reducible rfl)
  try simp only [Act.put, List.setIfInBounds_toArray, List.set_cons_zero, List.set_cons_succ]
  refine rest_got (i := 3) (v := ?v4) rfl (by kernel_rfl) (by kernel_rfl) (by kernel_rfl) (fun _ _ _ h => h) (by rfl) ?y4 ?r4
  case y4 => (intro w9q hSwq; clear hSwq; go_simp; with_reducible rfl)
  try simp only [Act.put, List.setIfInBounds_toArray, List.set_cons_zero, List.set_cons_succ]
  refine rest_got (i := 4) (v := ?v5) rfl (by kernel_rfl) (by kernel_rfl) (by kernel_rfl) (fun _ _ _ h => h) (by rfl) ?y5 ?r5
  case y5 => (intro w9q hSwq; clear hSwq; go_simp; with_reducible rfl)
  try simp only [Act.put, List.setIfInBounds_toArray, List.set_cons_zero, List.set_cons_succ]
  refine rest_got (i := 5) (v := ?v6) rfl (by kernel_rfl) (by kernel_rfl) (by kernel_rfl) (fun _ _ _ h => h) (by rfl) ?y6 ?r6
  case y6 => ((intro w9' hm9'; have hc9' := Mod.cell hm9' p0 (by first | exact List.not_mem_nil | (simp; done) | (simp; omega)); clear hm9'; go_simp; with_reducible rfl))
  try simp only [Act.put, List.setIfInBounds_toArray, List.set_cons_zero, List.set_cons_succ]
  refine rest_got (i := 6) (v := ?v7) rfl (by kernel_rfl) (by kernel_rfl) (by kernel_rfl) (fun _ _ _ h => h) (by rfl) ?y7 ?r7
  case y7 => (intro w9q hSwq; clear hSwq; go_simp; with_reducible rfl)
  try simp only [Act.put, List.setIfInBounds_toArray, List.set_cons_zero, List.set_cons_succ]
  refine rest_got (i := 7) (v := ?v8) rfl (by kernel_rfl) (by kernel_rfl) (by kernel_rfl) (fun _ _ _ h => h) (by rfl) ?y8 ?r8
  case y8 => (intro w9q hSwq; clear hSwq; go_simp; with_reducible rfl)
  try simp only [Act.put, List.setIfInBounds_toArray, List.set_cons_zero, List.set_cons_succ]
  refine rest_done (by kernel_rfl) ?_ _
  go_wp2
  go_ret
  exact ⟨3, rfl, rfl, M1.out⟩

set_option maxRecDepth 100000 in
set_option maxHeartbeats 2000000 in
theorem set1_ok (g b lc : Nat) (fa : Option Addr) (fc ab sz : Nat) (bufs : List Bf) (fr : List Nat) (arr : List UInt8) (k bb : Nat) (so : Option Addr) (n c : Nat) (l : List UInt8) (w : World) (h : PoolF w g (some ⟨b, 0, none⟩) lc fa fc ab sz bufs fr arr) (hk : k < bufs.length)
    (hb : w.cell? ⟨bb, 0, none⟩ = some (.slice so n c)) (hl : l.length = n) (hs : Sees w so l) (hn : n ≤ sz) (ho : bufs[k].1 + sz ≤ arr.length) (d1 : bb ≠ ab) (d2 : bb ≠ b) :
    Calls Tryd.prog 42 #[.pointer (some ⟨b, k * 4, none⟩), .pointer (some ⟨bb, 0, none⟩)] w fun e w' => ∃ v, e = .returned (.int .i64 v) ∧ (v = 0 ∧
      PoolF w' g (some ⟨b, 0, none⟩) lc fa fc ab sz (bufs.set k (bufs[k].1, n, bufs[k].2.2.1, bufs[k].2.2.2)) fr (arr.take bufs[k].1 ++ l ++ arr.drop (bufs[k].1 + n))) ∧ Mod [ab, b] w w' := by
  obtain ⟨b', hbb, p0, p1, p2, p3, q1, q2, q3⟩ := OwnBf.at' h.2.1 hk
  cases hbb
  have hd : decide (sz < n) = false := by simpa using hn
  obtain ⟨hgb, hga, hba, ngf, nbf, naf⟩ := h.apart
  obtain ⟨of, hof⟩ : ∃ of, bufs[k].1 = of := ⟨_, rfl⟩
  rw [hof] at p0 ho ⊢
  have HOF := Lib.hid hof
  have H := Lib.hid h
  have HS := Lib.hid hs
  have HL := Lib.hid hl
  have HN := Lib.hid (And.intro ngf (And.intro nbf naf))
  clear hs h p1 p2 p3 q1 q2 q3 hl hof ngf nbf naf
  go_enter Tryd.func42, Tryd.ntmps42
  go_upto_region 1 with (fail)
  refine rest_start [] 8 #[false, false, false, false, false, false, false, false] rfl (by kernel_rfl) (by kernel_rfl) ?_
  intro w1 m1
  have C0 := Lib.hid (m1.cell hb (by simp))
  have P0 := Lib.hid (m1.cell p0 (by simp))
  have M1 := Lib.hid m1
  clear m1 hb p0
  refine rest_got (i := 0) (v := ?v9) rfl (by kernel_rfl) (by kernel_rfl) (by kernel_rfl) (fun _ _ _ h => h) (by rfl) ?y9 ?r9
  case y9 => ((intro w9' hm9'; have hc9' := Mod.cell hm9' C0.out (by first | exact List.not_mem_nil | (simp; done) | (simp; omega)); clear hm9'; go_simp; with_reducible rfl))
  try simp only [Act.put, List.setIfInBounds_toArray, List.set_cons_zero, List.set_cons_succ]
  refine rest_got (i := 1) (v := ?v10) rfl (by kernel_rfl) (by kernel_rfl) (by kernel_rfl) (fun _ _ _ h => h) (by rfl) ?y10 ?r10
  case y10 => (intro w9q hSwq; clear hSwq; go_simp; with_reducible rfl)
  try simp only [Act.put, List.setIfInBounds_toArray, List.set_cons_zero, List.set_cons_succ]
  refine rest_got (i := 2) (v := ?v11) rfl (by kernel_rfl) (by kernel_rfl) (by kernel_rfl) (fun _ _ _ h => h) (by rfl) ?y11 ?r11
  case y11 => (intro w9q hSwq; clear hSwq; go_simp; with_reducible rfl)
  try simp only [Act.put, List.setIfInBounds_toArray, List.set_cons_zero, List.set_cons_succ]
  refine rest_got (i := 3) (v := ?v12) rfl (by kernel_rfl) (by kernel_rfl) (by kernel_rfl) (fun _ _ _ h => h) (by rfl) ?y12 ?r12
  case y12 => (intro w9q hSwq; clear hSwq; go_simp; with_reducible rfl)
  try simp only [Act.put, List.setIfInBounds_toArray, List.set_cons_zero, List.set_cons_succ]
  refine rest_got (i := 4) (v := ?v13) rfl (by kernel_rfl) (by kernel_rfl) (by kernel_rfl) (fun _ _ _ h => h) (by rfl) ?y13 ?r13
  case y13 => (intro w9q hSwq; clear hSwq; go_simp; with_reducible rfl)
  try simp only [Act.put, List.setIfInBounds_toArray, List.set_cons_zero, List.set_cons_succ]
  refine rest_got (i := 5) (v := ?v14) rfl (by kernel_rfl) (by kernel_rfl) (by kernel_rfl) (fun _ _ _ h => h) (by rfl) ?y14 ?r14
  case y14 => ((intro w9' hm9'; have hc9' := Mod.cell hm9' P0.out (by first | exact List.not_mem_nil | (simp; done) | (simp; omega)); clear hm9'; go_simp; with_reducible rfl))
  try simp only [Act.put, List.setIfInBounds_toArray, List.set_cons_zero, List.set_cons_succ]
  refine rest_got (i := 6) (v := ?v15) rfl (by kernel_rfl) (by kernel_rfl) (by kernel_rfl) (fun _ _ _ h => h) (by rfl) ?y15 ?r15
  case y15 => (intro w9q hSwq; clear hSwq; go_simp; with_reducible rfl)
  try simp only [Act.put, List.setIfInBounds_toArray, List.set_cons_zero, List.set_cons_succ]
  refine rest_got (i := 7) (v := ?v16) rfl (by kernel_rfl) (by kernel_rfl) (by kernel_rfl) (fun _ _ _ h => h) (by rfl) ?y16 ?r16
  case y16 => (intro w9q hSwq; clear hSwq; go_simp; with_reducible rfl)
  try simp only [Act.put, List.setIfInBounds_toArray, List.set_cons_zero, List.set_cons_succ]
  refine rest_done (by kernel_rfl) ?_ _
  clear hd
  go_upto_region 3 with (fail)
  refine restu_start 6 [] [ab, b] 10 #[false, false, false, false, false, false, false, false, false, false] rfl (by kernel_rfl) (by kernel_rfl) ?_
  intro w2 m2
  have C1 := Lib.hid (m2.cell C0.out (by simp))
  have P1 := Lib.hid (m2.cell P0.out (by simp))
  have M2 := Lib.hid (M1.out.trans' m2)
  have H2 := Lib.hid (H.out.mod0 M2.out)
  have S2 := Lib.hid (HS.out.mod0 M2.out)
  clear m2 C0 P0 M1
  refine restu_got (i := 0) (v := ?v17) rfl (by kernel_rfl) (by kernel_rfl) (by kernel_rfl) (by rfl) (fun _ _ _ h => h) (by rfl) ?y17 ?r17
  case y17 => (intro w9q hSwq; clear hSwq; go_simp; with_reducible rfl)
  try simp only [Act.put, List.setIfInBounds_toArray, List.set_cons_zero, List.set_cons_succ]
  refine restu_got (i := 1) (v := ?v18) rfl (by kernel_rfl) (by kernel_rfl) (by kernel_rfl) (by rfl) (fun _ _ _ h => h) (by rfl) ?y18 ?r18
  case y18 => (intro w9q hSwq; clear hSwq; go_simp; with_reducible rfl)
  try simp only [Act.put, List.setIfInBounds_toArray, List.set_cons_zero, List.set_cons_succ]
  refine restu_got (i := 2) (v := ?v19) rfl (by kernel_rfl) (by kernel_rfl) (by kernel_rfl) (by rfl) (fun _ _ _ h => h) (by rfl) ?y19 ?r19
  case y19 => (intro w9q hSwq; clear hSwq; go_simp; with_reducible rfl)
  try simp only [Act.put, List.setIfInBounds_toArray, List.set_cons_zero, List.set_cons_succ]
  refine restu_got (i := 3) (v := ?v20) rfl (by kernel_rfl) (by kernel_rfl) (by kernel_rfl) (by rfl) (fun _ _ _ h => h) (by rfl) ?y20 ?r20
  case y20 => (intro w9q hSwq; clear hSwq; go_simp; with_reducible rfl)
  try simp only [Act.put, List.setIfInBounds_toArray, List.set_cons_zero, List.set_cons_succ]
  refine restu_early (i := 4) [6, 7, 8, 9] (v := ?v21) rfl (by kernel_rfl) (by kernel_rfl) (by kernel_rfl) (by rfl) (by kernel_rfl) (by rfl) (by kernel_rfl) (fun _ _ _ h => h) (by rfl) ?y21 ?r21
  case y21 => ((intro w9' hm9'; have hc9' := Mod.cell hm9' P1.out (by first | exact List.not_mem_nil | (simp; done) | (simp; omega)); clear hm9'; go_simp; with_reducible rfl))
  try simp only [Act.put, List.setIfInBounds_toArray, List.set_cons_zero, List.set_cons_succ]
  refine restu_early (i := 5) [6, 7, 8, 9] (v := ?v22) rfl (by kernel_rfl) (by kernel_rfl) (by kernel_rfl) (by rfl) (by kernel_rfl) (by rfl) (by kernel_rfl) (fun _ _ _ h => h) (by rfl) ?y22 ?r22
  case y22 => ((intro w9' hm9'; have hc9' := Mod.cell hm9' C1.out (by first | exact List.not_mem_nil | (simp; done) | (simp; omega)); clear hm9'; go_simp; with_reducible rfl))
  try simp only [Act.put, List.setIfInBounds_toArray, List.set_cons_zero, List.set_cons_succ]
  refine restu_one (i := 6) (by kernel_rfl) rfl (by rfl) ?_
  go_wp2_with (first | (refine wpl_copy8 (dst := some 18) _ _ ab of sz sz so n c rfl rfl l HL.out S2.out arr.length arr H2.out.2.2.2.1 hn (by omega) ?_) | fail)
  intro w3 o3 m3
  have A3 := Lib.hid o3
  have G3 := Lib.hid (m3.get H2.out.1 (by simp; exact hga))
  have B3 := Lib.hid (Own.mod H2.out.2.1 m3 (fun j hj => by simp [blk] at hj; subst hj; simp; exact hba))
  have I3 := Lib.hid (Own.mod H2.out.2.2.1 m3 (fun j hj => by simp; rintro rfl; exact HN.out.2.2 hj))
  have M3 : Hid (Mod [ab, b] w w3) := M2.out.nil.trans m3 (fun j hj _ => by simp at hj; simp [hj])
  go_wp2_with fail
  refine backm_to (K1 := [b]) (by kernel_rfl) (m3.weaken (fun j hj => by simp at hj; simp [hj])) (fun j hj _ => by simp at hj; simp [hj]) ?_
  clear o3 m3 C1 P1
  refine rest_got (i := 7) (v := ?v23) rfl (by kernel_rfl) (by kernel_rfl) (by kernel_rfl) (fun _ _ _ h => h) (by rfl) ?y23 ?r23
  case y23 => (intro w9q hSwq; clear hSwq; go_simp; with_reducible rfl)
  try simp only [Act.put, List.setIfInBounds_toArray, List.set_cons_zero, List.set_cons_succ]
  refine rest_got (i := 8) (v := ?v24) rfl (by kernel_rfl) (by kernel_rfl) (by kernel_rfl) (fun _ _ _ h => h) (by rfl) ?y24 ?r24
  case y24 => (intro w9q hSwq; clear hSwq; go_simp; with_reducible rfl)
  try simp only [Act.put, List.setIfInBounds_toArray, List.set_cons_zero, List.set_cons_succ]
  obtain ⟨b', hbb, r0, r1, r2, r3, s1, s2, s3⟩ := OwnBf.at' B3.out hk
  cases hbb
  refine rest_one (i := 9) (by kernel_rfl) rfl (by rfl) ?_
  go_wp2_with fail
  have m5 := Mod.setCell (S := [b]) w3 ⟨b, k * 4 + 1, none⟩ (.int .i64 (n : Int)) (by simp)
  refine back_to (K1 := []) m5 (by simp) ?_
  clear r0 r1 r2 r3 s1 s2 s3
  refine rest_done (by kernel_rfl) ?_ _
  go_wp2
  go_ret
  have B5 := OwnBf.set1 B3.out k hk n
  rw [HOF.out] at B5
  have hlen : (arr.take of ++ l ++ arr.drop (of + n)).length = arr.length := by
    have := HL.out
    simp only [List.length_append, List.length_take, List.length_drop]
    omega
  refine ⟨0, rfl, ⟨rfl, ?_, B5, Own.mod I3.out m5 (fun j hj => by simp; rintro rfl; exact HN.out.2.1 hj), ?_, H.out.2.2.2.2⟩, M3.out.trans m5 (fun j hj _ => by simp at hj; simp [hj])⟩
  · rw [List.length_set]
    exact m5.get G3.out (by simp; exact hgb)
  · rw [hlen]
    exact A3.out.mod m5 (fun j hj => by simp [blk] at hj; subst hj; simp; exact Ne.symm hba)

theorem Sees.part {w : World} {ab : Nat} {arr : List UInt8} (h : Sees w (some ⟨ab, 0, none⟩) arr) (of n : Nat) : Sees w (some ⟨ab, of, none⟩) ((arr.drop of).take n) := by
  intro j hj
  have hj' : of + j < arr.length := by simp at hj; omega
  obtain ⟨b, off, e1, e2⟩ := h (of + j) hj'
  cases e1
  refine ⟨ab, of, rfl, ?_⟩
  rw [Nat.zero_add] at e2
  rw [e2]
  simp

set_option maxRecDepth 100000 in
set_option maxHeartbeats 2000000 in
theorem bytes1_any (g b lc : Nat) (fa : Option Addr) (fc ab sz : Nat) (bufs : List Bf) (fr : List Nat) (arr : List UInt8) (k bo of us : Nat) (w : World) (h : PoolF w g (some ⟨b, 0, none⟩) lc fa fc ab sz bufs fr arr) (hk : k < bufs.length) (hsz : sz ≤ 1000000)
    (hb : w.heap[bo]? = some (.cells #[.slice none 0 0] 74 (0, 0))) (hof : bufs[k].1 = of) (hus : bufs[k].2.1 = us) (hn : us ≤ sz) (ho : of + sz ≤ arr.length) (_ : bo ≠ b) :
    Calls Tryd.prog 48 #[.pointer (some ⟨b, k * 4, none⟩), .pointer (some ⟨bo, 0, none⟩)] w fun e w' => ∃ v, e = .returned (.int .i64 v) ∧ (v = 0 ∧
      ∃ ao c, w'.heap[bo]? = some (.cells #[.slice ao us c] 74 (0, 0)) ∧ OwnB w' ao c ((arr.drop of).take us) ∧ ∀ j, j ∈ blk ao → w.heap.size ≤ j) ∧ Mod [bo] w w' := by
  obtain ⟨b', hbb, p0, p1, p2, p3, q1, q2, q3⟩ := OwnBf.at' h.2.1 hk
  cases hbb
  rw [hof] at p0
  rw [hus] at p1
  have HS := Lib.hid (h.2.2.2.1.sees.part of us)
  have HL : Hid (((arr.drop of).take us).length = us) := by show _ = _; simp; omega
  have HB := Lib.hid hb
  clear h p2 p3 q1 q2 q3 hof hus hb
  have hlo := lt_of_block HB.out
  have hui : (us : Int) ≤ (sz : Int) := by omega
  go_enter Tryd.func48, Tryd.ntmps48
  go_upto_region 1 with (fail)
  refine restu_start 10 [] [bo] 12 #[false, false, false, false, false, false, false, false, false, false, false, false] rfl (by kernel_rfl) (by kernel_rfl) ?_
  intro w1 m1
  have C0 := Lib.hid (cell_of_block (i := 0) (m1.get HB.out (by simp)))
  have P0 := Lib.hid (m1.cell p0 (by simp))
  have P1 := Lib.hid (m1.cell p1 (by simp))
  have S1 := Lib.hid (HS.out.mod0 m1)
  have G1 := Lib.hid (m1.get HB.out (by simp))
  have M1 := Lib.hid m1
  clear m1 p0 p1
  refine restu_early (i := 0) [10, 11] (v := ?v25) rfl (by kernel_rfl) (by kernel_rfl) (by kernel_rfl) (by rfl) (by kernel_rfl) (by rfl) (by kernel_rfl) (fun _ _ _ h => h) (by rfl) ?y25 ?r25
  case y25 => ((intro w9' hm9'; have hc9' := Mod.cell hm9' C0.out (by first | exact List.not_mem_nil | (simp; done) | (simp; omega)); clear hm9'; go_simp; with_reducible rfl))
  try simp only [Act.put, List.setIfInBounds_toArray, List.set_cons_zero, List.set_cons_succ]
  refine restu_got (i := 1) (v := ?v26) rfl (by kernel_rfl) (by kernel_rfl) (by kernel_rfl) (by rfl) (fun _ _ _ h => h) (by rfl) ?y26 ?r26
  case y26 => (intro w9q hSwq; clear hSwq; go_simp; with_reducible rfl)
  try simp only [Act.put, List.setIfInBounds_toArray, List.set_cons_zero, List.set_cons_succ]
  refine restu_got (i := 2) (v := ?v27) rfl (by kernel_rfl) (by kernel_rfl) (by kernel_rfl) (by rfl) (fun _ _ _ h => h) (by rfl) ?y27 ?r27
  case y27 => (intro w9q hSwq; clear hSwq; go_simp; with_reducible rfl)
  try simp only [Act.put, List.setIfInBounds_toArray, List.set_cons_zero, List.set_cons_succ]
  refine restu_got (i := 3) (v := ?v28) rfl (by kernel_rfl) (by kernel_rfl) (by kernel_rfl) (by rfl) (fun _ _ _ h => h) (by rfl) ?y28 ?r28
  case y28 => (intro w9q hSwq; clear hSwq; go_simp; with_reducible rfl)
  try simp only [Act.put, List.setIfInBounds_toArray, List.set_cons_zero, List.set_cons_succ]
  refine restu_early (i := 4) [9, 10, 11] (v := ?v29) rfl (by kernel_rfl) (by kernel_rfl) (by kernel_rfl) (by rfl) (by kernel_rfl) (by rfl) (by kernel_rfl) (fun _ _ _ h => h) (by rfl) ?y29 ?r29
  case y29 => ((intro w9' hm9'; have hc9' := Mod.cell hm9' P0.out (by first | exact List.not_mem_nil | (simp; done) | (simp; omega)); clear hm9'; go_simp; with_reducible rfl))
  try simp only [Act.put, List.setIfInBounds_toArray, List.set_cons_zero, List.set_cons_succ]
  refine restu_got (i := 5) (v := ?v30) rfl (by kernel_rfl) (by kernel_rfl) (by kernel_rfl) (by rfl) (fun _ _ _ h => h) (by rfl) ?y30 ?r30
  case y30 => (intro w9q hSwq; clear hSwq; go_simp; with_reducible rfl)
  try simp only [Act.put, List.setIfInBounds_toArray, List.set_cons_zero, List.set_cons_succ]
  refine restu_got (i := 6) (v := ?v31) rfl (by kernel_rfl) (by kernel_rfl) (by kernel_rfl) (by rfl) (fun _ _ _ h => h) (by rfl) ?y31 ?r31
  case y31 => (intro w9q hSwq; clear hSwq; go_simp; with_reducible rfl)
  try simp only [Act.put, List.setIfInBounds_toArray, List.set_cons_zero, List.set_cons_succ]
  refine restu_got (i := 7) (v := ?v32) rfl (by kernel_rfl) (by kernel_rfl) (by kernel_rfl) (by rfl) (fun _ _ _ h => h) (by rfl) ?y32 ?r32
  case y32 => (intro w9q hSwq; clear hSwq; go_simp; with_reducible rfl)
  try simp only [Act.put, List.setIfInBounds_toArray, List.set_cons_zero, List.set_cons_succ]
  refine restu_early (i := 8) [9, 10, 11] (v := ?v33) rfl (by kernel_rfl) (by kernel_rfl) (by kernel_rfl) (by rfl) (by kernel_rfl) (by rfl) (by kernel_rfl) (fun _ _ _ h => h) (by rfl) ?y33 ?r33
  case y33 => ((intro w9' hm9'; have hc9' := Mod.cell hm9' P1.out (by first | exact List.not_mem_nil | (simp; done) | (simp; omega)); clear hm9'; go_simp; with_reducible rfl))
  try simp only [Act.put, List.setIfInBounds_toArray, List.set_cons_zero, List.set_cons_succ]
  refine restu_got (i := 9) (v := ?v34) rfl (by kernel_rfl) (by kernel_rfl) (by kernel_rfl) (by rfl) (fun _ _ _ h => h) (by rfl) ?y34 ?r34
  case y34 => (intro w9q hSwq; clear hSwq; go_simp; with_reducible rfl)
  try simp only [Act.put, List.setIfInBounds_toArray, List.set_cons_zero, List.set_cons_succ]
  refine restu_one (i := 10) (by kernel_rfl) rfl (by rfl) ?_
  go_wp2_with (first | (at_builtin; refine wpl_app8 (dst := some 14) _ _ none 0 0 [] rfl rfl (OwnB.nil _) (some ⟨ab, of, none⟩) us sz ((arr.drop of).take us) rfl HL.out S1.out (by omega) ?_) | fail)
  intro a2 c2 w2 o2 m2 s2
  have O2 := Lib.hid o2
  have G2 := Lib.hid (m2.get G1.out (by simp [blk]))
  have M2 : Hid (Mod [] w w2) := M1.out.trans' m2
  have F2 : Hid (∀ j, j ∈ blk a2 → w.heap.size ≤ j) := fun j hj => by
    rcases s2.blk j hj with h | h
    · simp [blk] at h
    · exact Nat.le_trans M1.out.size h
  go_wp2_with fail
  refine backm_to (K1 := [bo]) (by kernel_rfl) (m2.weaken (fun j hj => by simp [blk] at hj)) (fun j hj _ => hj) ?_
  clear o2 m2 s2 C0 P0 P1
  
  have g2 := cell_of_block (i := 0) G2.out
  have f2 := free_of_block (i := 0) G2.out
  refine rest_one (i := 11) (by kernel_rfl) rfl (by rfl) ?_
  go_wp2_with fail
  have m5 := Mod.setCell (S := [bo]) w2 ⟨bo, 0, none⟩ (.slice a2 us c2) (by simp)
  have G5 := heap_setCell_same (i := 0) G2.out (.slice a2 us c2)
  trace_state
  refine back_to (K1 := []) (by simpa using m5) (by simp) ?_
  clear g2 f2
  refine rest_done (by kernel_rfl) ?_ _
  go_wp2
  go_ret
  refine ⟨0, rfl, ⟨rfl, a2, c2, ?_, ?_, F2.out⟩, ?_⟩
  · simpa using G5
  · refine Own.mod O2.out (by simpa using m5) (fun j hj => ?_)
    have := F2.out j hj
    simp; omega
  · exact M2.out.nil.trans (by simpa using m5) (fun j hj _ => hj)
end Go.Proofs.YtigamomoegpefaaDoor
/- The methods of a pool, a pool as its texts, generations and what is lent. -/
namespace Go.Proofs.YtigamomoegpefaaDoor
open Go Go.RowKit Go.Lib

theorem over_get (arr l : List UInt8) (of x : Nat) (h : of + l.length ≤ arr.length) : (arr.take of ++ l ++ arr.drop (of + l.length))[x]? = if x < of then arr[x]? else if x < of + l.length then l[x - of]? else arr[x]? := by
  have e1 : (arr.take of).length = of := by simp; omega
  by_cases h1 : x < of
  · rw [if_pos h1, List.append_assoc, List.getElem?_append_left (by omega), List.getElem?_take, if_pos h1]
  · rw [if_neg h1, List.append_assoc, List.getElem?_append_right (by omega), e1]
    by_cases h2 : x < of + l.length
    · rw [if_pos h2, List.getElem?_append_left (by omega)]
    · rw [if_neg h2, List.getElem?_append_right (by omega), List.getElem?_drop]
      congr 1
      omega
theorem over_at (arr l : List UInt8) (of : Nat) (h : of + l.length ≤ arr.length) : ((arr.take of ++ l ++ arr.drop (of + l.length)).drop of).take l.length = l := by
  apply List.ext_getElem?
  intro j
  rw [List.getElem?_take, List.getElem?_drop, over_get arr l of _ h]
  by_cases hj : j < l.length
  · rw [if_pos hj, if_neg (by omega), if_pos (by omega), Nat.add_sub_cancel_left]
  · rw [if_neg hj, List.getElem?_eq_none (by omega)]
theorem over_far (arr l : List UInt8) (of p m : Nat) (h : of + l.length ≤ arr.length) (hd : p + m ≤ of ∨ of + l.length ≤ p) : ((arr.take of ++ l ++ arr.drop (of + l.length)).drop p).take m = (arr.drop p).take m := by
  apply List.ext_getElem?
  intro j
  rw [List.getElem?_take, List.getElem?_drop, List.getElem?_take, List.getElem?_drop, over_get arr l of _ h]
  by_cases hj : j < m
  · rw [if_pos hj, if_pos hj]
    rcases hd with hd | hd
    · rw [if_pos (by omega)]
    · rw [if_neg (by omega), if_neg (by omega)]
  · rw [if_neg hj, if_neg hj]

/-- A buffer: its text, its generation, whether it is lent. -/
abbrev Bm := List UInt8 × Int × Bool
/-- The buffers show these. -/
def Fits (sz : Nat) (bufs : List Bf) (arr : List UInt8) (L : List Bm) : Prop :=
  bufs.length = L.length ∧ arr.length = L.length * sz ∧ ∀ j (h1 : j < bufs.length) (h2 : j < L.length), bufs[j] = (j * sz, L[j].1.length, L[j].2.1, L[j].2.2) ∧ L[j].1.length ≤ sz ∧ (arr.drop (j * sz)).take L[j].1.length = L[j].1
theorem slot_in {sz k n : Nat} (h : k < n) : k * sz + sz ≤ n * sz := by
  have := Nat.mul_le_mul_right sz (show k + 1 ≤ n by omega)
  rw [Nat.add_mul, Nat.one_mul] at this
  exact this
theorem Fits.put {sz : Nat} {bufs : List Bf} {arr : List UInt8} {L : List Bm} (h : Fits sz bufs arr L) (k : Nat) (hk : k < L.length) (l : List UInt8) (gn : Int) (t : Bool) (hl : l.length ≤ sz) :
    Fits sz (bufs.set k (k * sz, l.length, gn, t)) (arr.take (k * sz) ++ l ++ arr.drop (k * sz + l.length)) (L.set k (l, gn, t)) := by
  obtain ⟨h1, h2, h3⟩ := h
  have h4 := slot_in (sz := sz) hk
  refine ⟨by simpa using h1, ?_, ?_⟩
  · simp only [List.length_append, List.length_take, List.length_drop, List.length_set]
    omega
  · intro j hj1 hj2
    have hj1' : j < bufs.length := by simpa using hj1
    have hj2' : j < L.length := by simpa using hj2
    rw [List.getElem_set, List.getElem_set]
    by_cases hkj : k = j
    · subst hkj
      rw [if_pos rfl, if_pos rfl]
      exact ⟨rfl, hl, over_at arr l _ (by omega)⟩
    · rw [if_neg hkj, if_neg hkj]
      obtain ⟨e1, e2, e3⟩ := h3 j hj1' hj2'
      refine ⟨e1, e2, ?_⟩
      rw [over_far arr l _ _ _ (by omega) ?_]
      · exact e3
      · rcases Nat.lt_or_gt_of_ne hkj with h | h
        · right
          have := slot_in (sz := sz) h
          omega
        · left
          have := slot_in (sz := sz) h
          omega
theorem Fits.mark {sz : Nat} {bufs : List Bf} {arr : List UInt8} {L : List Bm} (h : Fits sz bufs arr L) (k : Nat) (hk : k < L.length) (gn : Int) (t : Bool) :
    Fits sz (bufs.set k (k * sz, L[k].1.length, gn, t)) arr (L.set k (L[k].1, gn, t)) := by
  obtain ⟨h1, h2, h3⟩ := h
  refine ⟨by simpa using h1, by simpa using h2, ?_⟩
  intro j hj1 hj2
  have hj1' : j < bufs.length := by simpa using hj1
  have hj2' : j < L.length := by simpa using hj2
  rw [List.getElem_set, List.getElem_set]
  obtain ⟨e1, e2, e3⟩ := h3 j hj1' hj2'
  by_cases hkj : k = j
  · subst hkj
    rw [if_pos rfl, if_pos rfl]
    exact ⟨rfl, e2, e3⟩
  · rw [if_neg hkj, if_neg hkj]
    exact ⟨e1, e2, e3⟩
theorem Fits.clear {sz : Nat} {bufs : List Bf} {arr : List UInt8} {L : List Bm} (h : Fits sz bufs arr L) (k : Nat) (hk : k < L.length) (gn : Int) (t : Bool) :
    Fits sz (bufs.set k (k * sz, 0, gn, t)) arr (L.set k ([], gn, t)) := by
  have := h.put k hk [] gn t (by simp)
  simpa using this

/-- A pool; F: all its blocks. -/
def PoolW (w : World) (g : Nat) (F : List Nat) (sz : Nat) (L : List Bm) (fr : List Nat) : Prop :=
  ∃ b lc fa fc ab bufs arr, PoolF w g (some ⟨b, 0, none⟩) lc fa fc ab sz bufs fr arr ∧ F = g :: b :: ab :: blk fa ∧ Fits sz bufs arr L ∧ sz ≤ 65536 ∧ (∀ i, i ∈ fr → i < L.length)
theorem PoolW.mod {S : List Nat} {w w' : World} {g : Nat} {F : List Nat} {sz : Nat} {L : List Bm} {fr : List Nat} (h : PoolW w g F sz L fr) (hm : Mod S w w') (hs : ∀ k, k ∈ F → k ∉ S) : PoolW w' g F sz L fr := by
  obtain ⟨b, lc, fa, fc, ab, bufs, arr, h1, rfl, h2⟩ := h
  exact ⟨b, lc, fa, fc, ab, bufs, arr, h1.mod hm (fun k hk => hs k (by simp [blk] at hk ⊢; rcases hk with h | h | h | h; simp [h]; simp [h]; exact .inr (.inr (.inr h)); simp [h])), rfl, h2⟩
theorem PoolW.mod0 {w w' : World} {g : Nat} {F : List Nat} {sz : Nat} {L : List Bm} {fr : List Nat} (h : PoolW w g F sz L fr) (hm : Mod [] w w') : PoolW w' g F sz L fr := h.mod hm (by simp)
theorem PoolW.lt {w : World} {g : Nat} {F : List Nat} {sz : Nat} {L : List Bm} {fr : List Nat} (h : PoolW w g F sz L fr) : ∀ k, k ∈ F → k < w.heap.size := by
  obtain ⟨b, lc, fa, fc, ab, bufs, arr, h1, rfl, h2⟩ := h
  intro k hk
  refine h1.lt k ?_
  simp [blk] at hk ⊢
  rcases hk with h | h | h | h
  · simp [h]
  · simp [h]
  · simp [h]
  · exact .inr (.inr (.inl h))
/-- What a method leaves. -/
def PMoved (w w' : World) (g : Nat) (F : List Nat) (sz : Nat) (L : List Bm) (fr : List Nat) : Prop :=
  ∃ F', PoolW w' g F' sz L fr ∧ Mod F w w' ∧ ∀ k, k ∈ F' → k ∈ F ∨ w.heap.size ≤ k
theorem PMoved.same {w w' : World} {g : Nat} {F : List Nat} {sz : Nat} {L : List Bm} {fr : List Nat} (h : PoolW w g F sz L fr) (hm : Mod [] w w') : PMoved w w' g F sz L fr :=
  ⟨F, h.mod0 hm, hm.nil, fun _ hk => .inl hk⟩
theorem PMoved.later {a b c : World} {g : Nat} {F : List Nat} {sz : Nat} {L : List Bm} {fr : List Nat} (hm : Mod [] a b) (h : PMoved b c g F sz L fr) : PMoved a c g F sz L fr := by
  obtain ⟨F', h1, h2, h3⟩ := h
  exact ⟨F', h1, hm.nil.trans' h2, fun k hk => (h3 k hk).imp id (fun h => Nat.le_trans hm.size h)⟩

theorem get_fullw (g : Nat) (F : List Nat) (sz : Nat) (L : List Bm) (w : World) (h : PoolW w g F sz L []) :
    Calls Tryd.prog 26 #[.pointer (some ⟨g, 0, none⟩)] w fun e w' => e = .returned (.tuple #[.agg #[.int .i64 0, .int .u32 0], .int .i64 30]) ∧ Mod [] w w' := by
  obtain ⟨b, lc, fa, fc, ab, bufs, arr, h1, rfl, h2⟩ := h
  exact get_full g _ lc fa fc ab sz bufs arr w h1
theorem get_w (g : Nat) (F : List Nat) (sz : Nat) (L : List Bm) (fr : List Nat) (i : Nat) (hi : i < L.length) (w : World) (h : PoolW w g F sz L (fr ++ [i])) :
    Calls Tryd.prog 26 #[.pointer (some ⟨g, 0, none⟩)] w fun e w' => e = .returned (.tuple #[.agg #[.int .i64 (i : Int), .int .u32 (IntKind.u32.wrap (L[i].2.1 + 1))], .int .i64 0]) ∧
      PMoved w w' g F sz (L.set i ([], IntKind.u32.wrap (L[i].2.1 + 1), true)) fr := by
  obtain ⟨b, lc, fa, fc, ab, bufs, arr, h1, rfl, h2, h3, h4⟩ := h
  have hi' : i < bufs.length := by rw [h2.1]; exact hi
  obtain ⟨e1, e2, e3⟩ := h2.2.2 i hi' hi
  refine (get_ok g _ lc fa fc ab sz bufs fr i arr w h1 hi').mono ?_
  rintro e w' ⟨rfl, h5, h6⟩
  rw [e1] at h5 ⊢
  refine ⟨rfl, _, ⟨b, lc, fa, fc, ab, _, arr, h5, rfl, h2.clear i hi _ _, h3, fun j hj => by rw [List.length_set]; exact h4 j (by simp [hj])⟩, h6.weaken (fun k hk => by simp [blk] at hk; rcases hk with h | h <;> simp [h]), fun k hk => .inl hk⟩

set_option maxRecDepth 100000 in
set_option maxHeartbeats 2000000 in
theorem back_w (g : Nat) (F : List Nat) (sz : Nat) (L : List Bm) (fr : List Nat) (k : Nat) (gn : Int) (hk : k < L.length) (w : World) (h : PoolW w g F sz L fr) (hl : L[k].2.2 = true) (hg : L[k].2.1 = gn) (hfr : fr.length ≤ 100000) :
    Calls Tryd.prog 35 #[.pointer (some ⟨g, 0, none⟩), .agg #[.int .i64 (k : Int), .int .u32 gn]] w fun e w' => e = .returned (.int .i64 0) ∧ PMoved w w' g F sz (L.set k (L[k].1, gn, false)) (fr ++ [k]) := by
  have HL := Lib.hid h.lt
  obtain ⟨b, lc, fa, fc, ab, bufs, arr, h1, rfl, h2, h3, h4⟩ := h
  have hk' : k < bufs.length := by rw [h2.1]; exact hk
  obtain ⟨e1, e2, e3⟩ := h2.2.2 k hk' hk
  have H := Lib.hid h1
  have h12 : bufs[k].2.2.2 = true := by rw [e1]; exact hl
  have h13 : bufs[k].2.2.1 = gn := by rw [e1]; exact hg
  have HX := Lib.hid (And.intro h12 h13)
  have HE := Lib.hid e1
  have HF := Lib.hid (And.intro h2 (And.intro h3 h4))
  have HG := Lib.hid hg
  clear h1 e1 e2 e3 h12 h13 h2 h3 h4 hl hg
  go_enter Tryd.func35, Tryd.ntmps35
  go_wp2_with fail
  have ma := Mod.alloc [] w (.cells #[.pointer (some ⟨g, 0, none⟩)] 56)
  have mb := Mod.alloc [] (w.alloc (.cells #[.pointer (some ⟨g, 0, none⟩)] 56)) (.cells #[.int .i64 (k : Int), .int .u32 gn] 64)
  have z1 : (w.alloc (.cells #[.pointer (some ⟨g, 0, none⟩)] 56)).heap.size = w.heap.size + 1 := by simp
  have ea := mb.get (heap_alloc_new w (.cells #[.pointer (some ⟨g, 0, none⟩)] 56)) (by simp)
  have eb := heap_alloc_new (w.alloc (.cells #[.pointer (some ⟨g, 0, none⟩)] 56)) (.cells #[.int .i64 (k : Int), .int .u32 gn] 64)
  rw [z1] at eb
  refine (with_back g b lc fa fc ab sz bufs fr arr k gn _ (g :: b :: blk fa) (fun v w' => v = 0 ∧ PMoved w w' g (g :: b :: ab :: blk fa) sz (L.set k (L[k].1, gn, false)) (fr ++ [k])) _ (H.out.mod0 (ma.trans' mb)) hk' HX.out.1 HX.out.2 ?_).mono ?_
  · intro w1 m1
    have mm := (ma.trans' mb).trans' m1
    have h1 := H.out.mod0 mm
    have hlt := HL.out
    have nf : ∀ j, w.heap.size ≤ j → j ∉ g :: b :: blk fa := fun j hj hm => by
      have := hlt j (by rcases List.mem_cons.1 hm with h | h; simp [h]; rcases List.mem_cons.1 h with h | h; simp [h]; simp [h])
      omega
    refine (back1_any g b lc fa fc ab sz bufs fr arr k w.heap.size (w.heap.size + 1) w1 h1 hk' hfr (m1.cell (by rw [cell_of_block ea]; rfl) (by simp)) (m1.cell (by rw [cell_of_block eb]; rfl) (by simp)) (nf _ (Nat.le_refl _)) (nf _ (by omega))).mono ?_
    rintro e w' ⟨v, rfl, ⟨rfl, fa', fc', h2, h3⟩, h4⟩
    refine ⟨0, rfl, ⟨rfl, g :: b :: ab :: blk fa', ⟨b, lc, fa', fc', ab, _, arr, h2, rfl, ?_, HF.out.2.1, ?_⟩, ?_, ?_⟩, h4⟩
    · rw [HE.out]
      dsimp only
      rw [← HG.out]
      exact HF.out.1.mark k hk _ false
    · intro i hi
      rw [List.length_set]
      rcases List.mem_append.1 hi with hi | hi
      · exact HF.out.2.2 i hi
      · simp at hi; subst hi; exact hk
    · exact mm.nil.trans h4 (fun j hj _ => by
        rcases List.mem_cons.1 hj with h | h
        · simp [h]
        · rcases List.mem_cons.1 h with h | h
          · simp [h]
          · simp [h])
    · intro j hj
      simp only [List.mem_cons] at hj ⊢
      rcases hj with h | h | h | h
      · simp [h]
      · simp [h]
      · simp [h]
      · rcases h3.blk j h with h | h
        · simp [h]
        · exact .inr (Nat.le_trans mm.size h)
  · rintro e w4 ⟨v, rfl, rfl, hR⟩
    have HR := Lib.hid hR
    clear hR ma mb z1 ea eb
    go_wp2
    go_ret
    exact ⟨rfl, HR.out⟩
set_option maxRecDepth 100000 in
set_option maxHeartbeats 2000000 in
theorem set_w (g : Nat) (F : List Nat) (sz : Nat) (L : List Bm) (fr : List Nat) (k : Nat) (gn : Int) (so : Option Addr) (n c : Nat) (l : List UInt8) (hk : k < L.length) (w : World) (h : PoolW w g F sz L fr) (hl : L[k].2.2 = true) (hg : L[k].2.1 = gn) (hln : l.length = n) (hs : Sees w so l) (hn : n ≤ sz) :
    Calls Tryd.prog 28 #[.pointer (some ⟨g, 0, none⟩), .agg #[.int .i64 (k : Int), .int .u32 gn], .slice so n c] w fun e w' => e = .returned (.int .i64 0) ∧ PMoved w w' g F sz (L.set k (l, gn, true)) fr := by
  have HL := Lib.hid h.lt
  obtain ⟨b, lc, fa, fc, ab, bufs, arr, h1, rfl, h2, h3, h4⟩ := h
  have hk' : k < bufs.length := by rw [h2.1]; exact hk
  obtain ⟨e1, e2, e3⟩ := h2.2.2 k hk' hk
  have H := Lib.hid h1
  have h12 : bufs[k].2.2.2 = true := by rw [e1]; exact hl
  have h13 : bufs[k].2.2.1 = gn := by rw [e1]; exact hg
  have h14 : bufs[k].1 = k * sz := by rw [e1]
  have h15 : bufs[k].1 + sz ≤ arr.length := by rw [h14, h2.2.1]; exact slot_in hk
  have HX := Lib.hid (And.intro h12 (And.intro h13 (And.intro h14 h15)))
  have HF := Lib.hid (And.intro h2 (And.intro h3 h4))
  have HS := Lib.hid hs
  subst hln
  clear h1 e1 e2 e3 h12 h13 h14 h15 h2 h3 h4 hl hg hs
  go_enter Tryd.func28, Tryd.ntmps28
  go_wp2_with fail
  have z1 : (w.alloc (.cells #[.int .i64 (k : Int), .int .u32 gn] 64)).heap.size = w.heap.size + 1 := by simp
  have ma := (Mod.alloc [] w (.cells #[.int .i64 (k : Int), .int .u32 gn] 64)).trans' (Mod.alloc [] _ (.cells #[.slice so l.length c] 74))
  have ea := heap_alloc_new (w.alloc (.cells #[.int .i64 (k : Int), .int .u32 gn] 64)) (.cells #[.slice so l.length c] 74)
  rw [z1] at ea
  refine (with_set g b lc fa fc ab sz bufs fr arr k gn _ [ab, b] (fun v w' => v = 0 ∧ PMoved w w' g (g :: b :: ab :: blk fa) sz (L.set k (l, gn, true)) fr) _ (H.out.mod0 ma) hk' HX.out.1 HX.out.2.1 ?_).mono ?_
  · intro w1 m1
    have mm := ma.trans' m1
    have h1 := H.out.mod0 mm
    have hlt := HL.out
    refine (set1_ok g b lc fa fc ab sz bufs fr arr k (w.heap.size + 1) so l.length c l w1 h1 hk' (m1.cell (by rw [cell_of_block ea]; rfl) (by simp)) rfl (HS.out.mod0 mm) hn HX.out.2.2.2 (by have := hlt ab (by simp); omega) (by have := hlt b (by simp); omega)).mono ?_
    rintro e w' ⟨v, rfl, ⟨rfl, h2⟩, h4⟩
    rw [HX.out.2.2.1, HX.out.1, HX.out.2.1] at h2
    refine ⟨0, rfl, ⟨rfl, g :: b :: ab :: blk fa, ⟨b, lc, fa, fc, ab, _, _, h2, rfl, HF.out.1.put k hk l gn true hn, HF.out.2.1, ?_⟩, ?_, ?_⟩, h4⟩
    · intro i hi
      rw [List.length_set]
      exact HF.out.2.2 i hi
    · exact mm.nil.trans h4 (fun j hj _ => by simp at hj; rcases hj with h | h <;> simp [h])
    · exact fun j hj => .inl hj
  · rintro e w4 ⟨v, rfl, rfl, hR⟩
    have HR := Lib.hid hR
    clear hR ma ea z1
    go_wp2
    go_ret
    exact ⟨rfl, HR.out⟩
set_option maxRecDepth 100000 in
set_option maxHeartbeats 2000000 in
theorem set_longw (g : Nat) (F : List Nat) (sz : Nat) (L : List Bm) (fr : List Nat) (k : Nat) (gn : Int) (so : Option Addr) (n c : Nat) (hk : k < L.length) (w : World) (h : PoolW w g F sz L fr) (hl : L[k].2.2 = true) (hg : L[k].2.1 = gn) (hn : sz < n) :
    Calls Tryd.prog 28 #[.pointer (some ⟨g, 0, none⟩), .agg #[.int .i64 (k : Int), .int .u32 gn], .slice so n c] w fun e w' => e = .returned (.int .i64 3) ∧ Mod [] w w' := by
  obtain ⟨b, lc, fa, fc, ab, bufs, arr, h1, rfl, h2, h3, h4⟩ := h
  have hk' : k < bufs.length := by rw [h2.1]; exact hk
  obtain ⟨e1, e2, e3⟩ := h2.2.2 k hk' hk
  have H := Lib.hid h1
  have h12 : bufs[k].2.2.2 = true := by rw [e1]; exact hl
  have h13 : bufs[k].2.2.1 = gn := by rw [e1]; exact hg
  have HX := Lib.hid (And.intro h12 h13)
  clear h1 e1 e2 e3 h12 h13 h2 h3 h4 hl hg
  go_enter Tryd.func28, Tryd.ntmps28
  go_wp2_with fail
  have z1 : (w.alloc (.cells #[.int .i64 (k : Int), .int .u32 gn] 64)).heap.size = w.heap.size + 1 := by simp
  have ma := (Mod.alloc [] w (.cells #[.int .i64 (k : Int), .int .u32 gn] 64)).trans' (Mod.alloc [] _ (.cells #[.slice so n c] 74))
  have ea := heap_alloc_new (w.alloc (.cells #[.int .i64 (k : Int), .int .u32 gn] 64)) (.cells #[.slice so n c] 74)
  rw [z1] at ea
  refine (with_set g b lc fa fc ab sz bufs fr arr k gn _ [] (fun v w' => v = 3 ∧ Mod [] w w') _ (H.out.mod0 ma) hk' HX.out.1 HX.out.2 ?_).mono ?_
  · intro w1 m1
    have mm := ma.trans' m1
    refine (set1_long g b lc fa fc ab sz bufs fr arr k (w.heap.size + 1) so n c w1 (H.out.mod0 mm) hk' (m1.cell (by rw [cell_of_block ea]; rfl) (by simp)) hn).mono ?_
    rintro e w' ⟨v, rfl, rfl, h4⟩
    exact ⟨3, rfl, ⟨rfl, mm.trans' h4⟩, h4⟩
  · rintro e w4 ⟨v, rfl, rfl, hR⟩
    have HR := Lib.hid hR
    clear hR ma ea z1
    go_wp2
    go_ret
    exact ⟨rfl, HR.out⟩
set_option maxRecDepth 100000 in
set_option maxHeartbeats 2000000 in
theorem bytes_w (g : Nat) (F : List Nat) (sz : Nat) (L : List Bm) (fr : List Nat) (k : Nat) (gn : Int) (hk : k < L.length) (w : World) (h : PoolW w g F sz L fr) (hl : L[k].2.2 = true) (hg : L[k].2.1 = gn) :
    Calls Tryd.prog 34 #[.pointer (some ⟨g, 0, none⟩), .agg #[.int .i64 (k : Int), .int .u32 gn]] w fun e w' => ∃ ao c, e = .returned (.tuple #[.slice ao L[k].1.length c, .int .i64 0]) ∧ OwnB w' ao c L[k].1 ∧ (∀ j, j ∈ blk ao → w.heap.size ≤ j) ∧ Mod [] w w' := by
  have HL := Lib.hid h.lt
  obtain ⟨b, lc, fa, fc, ab, bufs, arr, h1, rfl, h2, h3, h4⟩ := h
  have hk' : k < bufs.length := by rw [h2.1]; exact hk
  obtain ⟨e1, e2, e3⟩ := h2.2.2 k hk' hk
  have H := Lib.hid h1
  have h12 : bufs[k].2.2.2 = true := by rw [e1]; exact hl
  have h13 : bufs[k].2.2.1 = gn := by rw [e1]; exact hg
  have h14 : bufs[k].1 = k * sz := by rw [e1]
  have h16 : bufs[k].2.1 = L[k].1.length := by rw [e1]
  have h15 : k * sz + sz ≤ arr.length := by rw [h2.2.1]; exact slot_in hk
  have HX := Lib.hid (And.intro h12 (And.intro h13 (And.intro h14 (And.intro h15 (And.intro h16 (And.intro e2 (And.intro e3 h3)))))))
  clear h1 e1 e2 e3 h12 h13 h14 h15 h16 h2 h3 h4 hl hg
  go_enter Tryd.func34, Tryd.ntmps34
  go_wp2_with fail
  have z1 : (w.alloc (.cells #[.int .i64 (k : Int), .int .u32 gn] 64)).heap.size = w.heap.size + 1 := by simp
  have ma := (Mod.alloc [] w (.cells #[.int .i64 (k : Int), .int .u32 gn] 64)).trans' (Mod.alloc [] _ (.cells #[.slice none 0 0] 74))
  have ea := heap_alloc_new (w.alloc (.cells #[.int .i64 (k : Int), .int .u32 gn] 64)) (.cells #[.slice none 0 0] 74)
  rw [z1] at ea
  refine (with_bytes g b lc fa fc ab sz bufs fr arr k gn _ [w.heap.size + 1] (fun v w' => v = 0 ∧ Mod [] w w' ∧ ∃ ao c, w'.heap[w.heap.size + 1]? = some (.cells #[.slice ao L[k].1.length c] 74 (0, 0)) ∧ OwnB w' ao c L[k].1 ∧ ∀ j, j ∈ blk ao → w.heap.size + 1 < j) _ (H.out.mod0 ma) hk' HX.out.1 HX.out.2.1 ?_).mono ?_
  · intro w1 m1
    have mm := ma.trans' m1
    have hlt := HL.out
    have hz1 : w.heap.size + 1 < w1.heap.size := by have := m1.size; simp at this; omega
    refine (bytes1_any g b lc fa fc ab sz bufs fr arr k (w.heap.size + 1) (k * sz) L[k].1.length w1 (H.out.mod0 mm) hk' (by have := HX.out.2.2.2.2.2.2.2; omega) (m1.get ea (by simp)) HX.out.2.2.1 HX.out.2.2.2.2.1 HX.out.2.2.2.2.2.1 HX.out.2.2.2.1 (by have := hlt b (by simp); omega)).mono ?_
    rintro e w' ⟨v, rfl, ⟨rfl, ao, c, h5, h6, h7⟩, h4⟩
    rw [HX.out.2.2.2.2.2.2.1] at h6
    exact ⟨0, rfl, ⟨rfl, mm.trans h4 (fun j hj hl => by simp at hj; omega), ao, c, h5, h6, fun j hj => by have := h7 j hj; omega⟩, h4⟩
  · rintro e w4 ⟨v, rfl, rfl, m4, ao, c, h5, h6, h7⟩
    have c4 := cell_of_block (i := 0) h5
    have M4 := Lib.hid m4
    have O4 := Lib.hid h6
    have F4 := Lib.hid h7
    clear m4 h5 h6 h7 ma ea z1
    go_wp2
    ((try simp only [Exit.inBlock, Exit.then]); refine bodyPost_ret (by simp [results, Tryd.results34, go_sem, *]; try rfl) rfl ?_)
    exact ⟨ao, c, rfl, O4.out, fun j hj => by have := F4.out j hj; omega, M4.out⟩

def GoodM (L : List Bm) (i gn : Int) : Prop := ∃ k : Nat, i = (k : Int) ∧ ∃ h : k < L.length, L[k].2.2 = true ∧ L[k].2.1 = gn
theorem with_stalew (g : Nat) (F : List Nat) (sz : Nat) (L : List Bm) (fr : List Nat) (i gn : Int) (fv : Value) (w : World) (h : PoolW w g F sz L fr) (hb : ¬ GoodM L i gn) :
    Calls Tryd.prog 41 #[.pointer (some ⟨g, 0, none⟩), .agg #[.int .i64 i, .int .u32 gn], fv] w (fun e w' => e = .returned (.int .i64 15) ∧ Mod [] w w') := by
  obtain ⟨b, lc, fa, fc, ab, bufs, arr, h1, rfl, h2, h3, h4⟩ := h
  by_cases hi : i < 0 ∨ (bufs.length : Int) ≤ i
  · exact with_out g _ lc fa fc ab sz bufs fr arr i gn fv w h1 hi
  · obtain ⟨k, rfl⟩ : ∃ k : Nat, i = (k : Int) := ⟨i.toNat, by omega⟩
    have hk' : k < bufs.length := by omega
    have hk : k < L.length := by rw [← h2.1]; exact hk'
    refine with_idle g _ lc fa fc ab sz bufs fr arr k gn fv w h1 hk' (fun hh => hb ⟨k, rfl, hk, ?_⟩)
    rw [(h2.2.2 k hk' hk).1] at hh
    exact hh
set_option maxRecDepth 100000 in
set_option maxHeartbeats 2000000 in
theorem back_stalew (g : Nat) (F : List Nat) (sz : Nat) (L : List Bm) (fr : List Nat) (i gn : Int) (w : World) (h : PoolW w g F sz L fr) (hb : ¬ GoodM L i gn) :
    Calls Tryd.prog 35 #[.pointer (some ⟨g, 0, none⟩), .agg #[.int .i64 i, .int .u32 gn]] w fun e w' => e = .returned (.int .i64 15) ∧ Mod [] w w' := by
  go_enter Tryd.func35, Tryd.ntmps35
  go_wp2_with fail
  refine (with_stalew g F sz L fr i gn _ _ (h.mod0 (.ofBelow (by go_grown))) hb).mono ?_
  rintro e w4 ⟨rfl, m4⟩
  have M4 := Lib.hid m4
  clear m4
  go_wp2
  go_ret
  exact ⟨rfl, (Mod.ofBelow (by go_grown)).trans' M4.out⟩
theorem back_nilw (i gn : Int) (w : World) :
    Calls Tryd.prog 35 #[.pointer none, .agg #[.int .i64 i, .int .u32 gn]] w fun e w' => e = .returned (.int .i64 2) ∧ Mod [] w w' := by
  go_enter Tryd.func35, Tryd.ntmps35
  go_wp2_with fail
  refine (with_nil i gn _ _).mono ?_
  rintro e w4 ⟨rfl, m4⟩
  have M4 := Lib.hid m4
  clear m4
  go_wp2
  go_ret
  exact ⟨rfl, (Mod.ofBelow (by go_grown)).trans' M4.out⟩
set_option maxRecDepth 100000 in
set_option maxHeartbeats 2000000 in
theorem set_stalew (g : Nat) (F : List Nat) (sz : Nat) (L : List Bm) (fr : List Nat) (i gn : Int) (so : Option Addr) (n c : Nat) (w : World) (h : PoolW w g F sz L fr) (hb : ¬ GoodM L i gn) :
    Calls Tryd.prog 28 #[.pointer (some ⟨g, 0, none⟩), .agg #[.int .i64 i, .int .u32 gn], .slice so n c] w fun e w' => e = .returned (.int .i64 15) ∧ Mod [] w w' := by
  go_enter Tryd.func28, Tryd.ntmps28
  go_wp2_with fail
  refine (with_stalew g F sz L fr i gn _ _ (h.mod0 (.ofBelow (by go_grown))) hb).mono ?_
  rintro e w4 ⟨rfl, m4⟩
  have M4 := Lib.hid m4
  clear m4
  go_wp2
  go_ret
  exact ⟨rfl, (Mod.ofBelow (by go_grown)).trans' M4.out⟩
theorem set_nilw (i gn : Int) (so : Option Addr) (n c : Nat) (w : World) :
    Calls Tryd.prog 28 #[.pointer none, .agg #[.int .i64 i, .int .u32 gn], .slice so n c] w fun e w' => e = .returned (.int .i64 2) ∧ Mod [] w w' := by
  go_enter Tryd.func28, Tryd.ntmps28
  go_wp2_with fail
  refine (with_nil i gn _ _).mono ?_
  rintro e w4 ⟨rfl, m4⟩
  have M4 := Lib.hid m4
  clear m4
  go_wp2
  go_ret
  exact ⟨rfl, (Mod.ofBelow (by go_grown)).trans' M4.out⟩
set_option maxRecDepth 100000 in
set_option maxHeartbeats 2000000 in
theorem bytes_stalew (g : Nat) (F : List Nat) (sz : Nat) (L : List Bm) (fr : List Nat) (i gn : Int) (w : World) (h : PoolW w g F sz L fr) (hb : ¬ GoodM L i gn) :
    Calls Tryd.prog 34 #[.pointer (some ⟨g, 0, none⟩), .agg #[.int .i64 i, .int .u32 gn]] w fun e w' => e = .returned (.tuple #[.slice none 0 0, .int .i64 15]) ∧ Mod [] w w' := by
  go_enter Tryd.func34, Tryd.ntmps34
  go_wp2_with fail
  refine (with_stalew g F sz L fr i gn _ _ (h.mod0 (.ofBelow (by go_grown))) hb).mono ?_
  rintro e w4 ⟨rfl, m4⟩
  have M4 := Lib.hid m4
  clear m4
  have c4 := M4.out.cell (p := ⟨w.heap.size + 1, 0, none⟩) (v := .slice none 0 0) (by simp) (by simp)
  go_wp2
  ((try simp only [Exit.inBlock, Exit.then]); refine bodyPost_ret (by simp [results, Tryd.results34, go_sem, *]; try rfl) rfl ?_)
  exact ⟨rfl, (Mod.ofBelow (by go_grown)).trans' M4.out⟩
theorem bytes_nilw (i gn : Int) (w : World) :
    Calls Tryd.prog 34 #[.pointer none, .agg #[.int .i64 i, .int .u32 gn]] w fun e w' => e = .returned (.tuple #[.slice none 0 0, .int .i64 2]) ∧ Mod [] w w' := by
  go_enter Tryd.func34, Tryd.ntmps34
  go_wp2_with fail
  refine (with_nil i gn _ _).mono ?_
  rintro e w4 ⟨rfl, m4⟩
  have M4 := Lib.hid m4
  clear m4
  have c4 := M4.out.cell (p := ⟨w.heap.size + 1, 0, none⟩) (v := .slice none 0 0) (by simp) (by simp)
  go_wp2
  ((try simp only [Exit.inBlock, Exit.then]); refine bodyPost_ret (by simp [results, Tryd.results34, go_sem, *]; try rfl) rfl ?_)
  exact ⟨rfl, (Mod.ofBelow (by go_grown)).trans' M4.out⟩
end Go.Proofs.YtigamomoegpefaaDoor
/- A pool is made. -/
namespace Go.Proofs.YtigamomoegpefaaDoor
open Go Go.RowKit Go.Lib

theorem infoBuf : (Tryd.prog.info? 82).map (fun i => (i.zero, i.size, i.bytes)) = some (some (.agg #[.slice none 0 0, .int .i64 0, .int .u32 0, .bool false]), 4, 40) := by kernel_rfl
theorem wpl_appBf {w : World} {ops : Array Oper} {rest : List Oper} {a : Act} {Q : Exit → Act → World → Prop} {dst : Option Tmp} {ty : TypeId} {pos : String} {after : Array Edge} (s x : Operand)
    (ab sz : Nat) (ao : Option Addr) (n cap : Nat) (xs : List Bf) (hs : a.eval s = .slice ao n cap) (hn : xs.length = n) (hown : OwnBf w ab sz ao cap xs)
    (so : Option Addr) (m c : Nat) (ys : List Bf) (hx : a.eval x = .slice so m c) (hm : ys.length = m) (hsh : Shows w so (cellsB ab sz ys)) (hb : n + m ≤ 1000000000)
    (h : ∀ ao' cap' w', OwnBf w' ab sz ao' cap' (xs ++ ys) → Mod (blk ao) w w' → SameOrNew w w' ao ao' → wpList Tryd.prog ops Q rest (a.put dst (.slice ao' (n + m) cap')) w') :
    wpList Tryd.prog ops Q (⟨dst, .call { callee := .builtin .append, args := #[s, x], argTypes := #[78, 78] }, ty, pos, after, none⟩ :: rest) a w := by
  obtain ⟨i0, hi, hz0, hz1, hz2⟩ := info_parts infoBuf
  subst hn hm
  refine wpl_append w rfl s x 78 rfl 82 i0 _ 4 40 Tryd.underlying78 hi hz0 hz1 hz2 rfl (by decide) ao _ cap _ hs hown so _ c (cellsB ab sz ys) hx (cellsB_length _ _ ys) hsh ?_ (by unfold maxLen; omega) (by omega) ?_
  · intro u hu
    obtain ⟨x, _, hu⟩ := List.mem_flatMap.1 hu
    simp only [bufC, List.mem_cons, List.not_mem_nil, or_false] at hu
    rcases hu with rfl | rfl | rfl | rfl <;> rfl
  · intro ao' cap' w' h1 h2 h3
    refine h ao' cap' w' ?_ h2 h3
    unfold OwnBf cellsB
    rw [List.length_append, List.flatMap_append]
    exact h1
theorem showsB1 {w : World} {g ab sz : Nat} {x : Bf} {t : TypeId} {z : Nat × Nat} (h : w.heap[g]? = some (.cells #[.slice (some ⟨ab, x.1, none⟩) sz sz, .int .i64 (x.2.1 : Int), .int .u32 x.2.2.1, .bool x.2.2.2] t z)) : Shows w (some ⟨g, 0, none⟩) (cellsB ab sz [x]) := by
  intro j u hj
  refine ⟨_, rfl, ?_⟩
  rw [Addr.add_lit, cell_of_block h, Nat.zero_add]
  have : cellsB ab sz [x] = [.slice (some ⟨ab, x.1, none⟩) sz sz, .int .i64 (x.2.1 : Int), .int .u32 x.2.2.1, .bool x.2.2.2] := by simp [cellsB, bufC]
  rw [this] at hj
  rw [← hj]
  simp

set_option maxRecDepth 100000 in
theorem new_bad (n size : Int) (w : World) (hb : n < 1 ∨ 4096 < n ∨ size < 1 ∨ 65536 < size) :
    Calls Tryd.prog 23 #[.int .i64 n, .int .i64 size] w fun e w' => e = .returned (.tuple #[.pointer none, .int .i64 1]) ∧ w' = w := by
  by_cases h1 : n < 1
  · clear hb
    go_enter Tryd.func23, Tryd.ntmps23
    go_wp2
    go_ret2
    exact ⟨rfl, rfl⟩
  by_cases h2 : 4096 < n
  · clear hb
    go_enter Tryd.func23, Tryd.ntmps23
    go_wp2
    go_ret2
    exact ⟨rfl, rfl⟩
  by_cases h3 : size < 1
  · clear hb
    go_enter Tryd.func23, Tryd.ntmps23
    go_wp2
    go_ret2
    exact ⟨rfl, rfl⟩
  have h4 : 65536 < size := by omega
  clear hb
  go_enter Tryd.func23, Tryd.ntmps23
  go_wp2
  go_ret2
  exact ⟨rfl, rfl⟩

def bufsN (sz k : Nat) : List Bf := (List.range k).map fun i => (i * sz, 0, 0, false)
def frN (n k : Nat) : List Nat := (List.range k).map fun i => n - 1 - i
theorem bufsN_succ (sz k : Nat) : bufsN sz (k + 1) = bufsN sz k ++ [(k * sz, 0, 0, false)] := by simp [bufsN, List.range_succ]
theorem frN_succ (n k : Nat) : frN n (k + 1) = frN n k ++ [n - 1 - k] := by simp [frN, List.range_succ]
theorem bufsN_length (sz k : Nat) : (bufsN sz k).length = k := by simp [bufsN]
theorem frN_length (n k : Nat) : (frN n k).length = k := by simp [frN]
theorem frN_all (n : Nat) : frN n n = (List.range n).reverse := by
  apply List.ext_getElem
  · simp [frN]
  · intro i h1 h2
    simp [frN]
theorem fits_new (n sz : Nat) : Fits sz (bufsN sz n) (List.replicate (n * sz) 0) (List.replicate n ([], 0, false)) := by
  refine ⟨by simp [bufsN], by simp, ?_⟩
  intro j h1 h2
  simp [bufsN]

/-- What a round of New keeps. -/
def NewRel (w0 : World) (g ab sz n N k : Nat) (la : Option Addr) (lc : Nat) (fa : Option Addr) (fc : Nat) (w : World) : Prop :=
  w.heap[g]? = some (.cells #[.slice la k lc, .slice fa k fc] 80 (0, 0)) ∧ OwnBf w ab sz la lc (bufsN sz k) ∧ OwnI w fa fc (frN n k) ∧ OwnB w (some ⟨ab, 0, none⟩) N (List.replicate N 0) ∧
    (∀ j, j ∈ blk la → j ≠ g ∧ j ≠ ab ∧ j ∉ blk fa ∧ w0.heap.size ≤ j) ∧ (∀ j, j ∈ blk fa → j ≠ g ∧ j ≠ ab ∧ w0.heap.size ≤ j) ∧ g ≠ ab ∧ w0.heap.size ≤ g ∧ w0.heap.size ≤ ab ∧ Mod [] w0 w

set_option maxRecDepth 100000 in
set_option maxHeartbeats 4000000 in
theorem new_ok (n sz : Nat) (w : World) (h1 : 1 ≤ n) (h2 : n ≤ 4096) (h3 : 1 ≤ sz) (h4 : sz ≤ 65536) :
    Calls Tryd.prog 23 #[.int .i64 (n : Int), .int .i64 (sz : Int)] w fun e w' => ∃ g F, e = .returned (.tuple #[.pointer (some ⟨g, 0, none⟩), .int .i64 0]) ∧
      PoolW w' g F sz (List.replicate n ([], 0, false)) (List.range n).reverse ∧ Mod [] w w' ∧ ∀ j, j ∈ F → w.heap.size ≤ j := by
  have hN : n * sz ≤ 268435456 := Nat.le_trans (Nat.mul_le_mul h2 h4) (by decide)
  obtain ⟨N, hNe⟩ : ∃ N, n * sz = N := ⟨_, rfl⟩
  rw [hNe] at hN
  have hm1 : wrap64 ((n : Int) * (sz : Int)) = (N : Int) := by rw [← Int.natCast_mul, hNe]; exact IntWalk.wrap64_in _ ⟨by omega, by omega⟩
  have HN := Lib.hid hNe
  have HM1 := Lib.hid hm1
  clear hNe hm1
  go_enter Tryd.func23, Tryd.ntmps23
  have ma := Mod.alloc [] w (.cells #[.slice none 0 0, .slice none 0 0] 80)
  have ea := heap_alloc_new w (.cells #[.slice none 0 0, .slice none 0 0] 80)
  have MA := Lib.hid ma
  have EA := Lib.hid ea
  clear ma ea
  go_wp2_with (first | (at_make; refine wpl_make8 (dst := some 28) _ _ .i64 .i64 _ _ N rfl rfl HM1.out HM1.out (by omega) ?_) | fail)
  intro ab w1 o1 m1 z1
  have O1 := Lib.hid o1
  have Z1 := Lib.hid z1
  have M1 := Lib.hid (MA.out.trans' m1)
  have E1 := Lib.hid (m1.get EA.out (by simp))
  have HZ1 : Hid (w.heap.size ≠ ab ∧ w.heap.size ≤ ab) := by have := Z1.out; simp at this; exact ⟨by omega, by omega⟩
  clear o1 z1 m1
  generalize hg : w.heap.size = g at *
  have HG := Lib.hid hg
  clear hg
  go_wp2
  go_loopw [30] (fun i wr => ∃ (k : Nat) (la : Option Addr) (lc : Nat) (fa : Option Addr) (fc : Nat), k ≤ n ∧ i = .int .i64 (k : Int) ∧ NewRel w g ab sz n N k la lc fa fc wr) (fun i _ => n - (intOf i).toNat)
  case atStart =>
    refine ⟨0, none, 0, none, 0, Nat.zero_le _, rfl, E1.out, Own.nil0 _ _ _, Own.nil0 _ _ _, O1.out, by simp [blk], by simp [blk], HZ1.out.1, by rw [HG.out]; exact Nat.le_refl _, by rw [HG.out]; exact HZ1.out.2, M1.out⟩
  case round =>
    obtain ⟨k, la, lc, fa, fc, hk, rfl, hrel⟩ := hrel
    have HR := Lib.hid hrel
    clear hrel
    by_cases hlt : k < n
    · have hq0 : (k + 1) * sz ≤ n * sz := Nat.mul_le_mul_right _ (by omega)
      rw [HN.out, Nat.add_mul, Nat.one_mul] at hq0
      have hq1 : ((k : Int) + 1) * (sz : Int) = ((k * sz + sz : Nat) : Int) := by rw [Int.natCast_add, Int.natCast_mul, Int.add_mul, Int.one_mul]
      have hp1 : (k : Int) * (sz : Int) = ((k * sz : Nat) : Int) := (Int.natCast_mul _ _).symm
      obtain ⟨p, hp⟩ : ∃ p, k * sz = p := ⟨_, rfl⟩
      rw [hp] at hq0 hq1 hp1
      have hw1 : IntKind.i64.wrap ((k : Int) * (sz : Int)) = (p : Int) := by rw [hp1]; exact IntWalk.i64_in _ (by omega)
      have hw3 : IntKind.i64.wrap (((k : Int) + 1) * (sz : Int)) = ((p + sz : Nat) : Int) := by rw [hq1]; exact IntWalk.i64_in _ (by omega)
      have hw2 : IntKind.i64.wrap ((k : Int) + 1) = (k : Int) + 1 := IntWalk.i64_in _ (by omega)
      have HP := Lib.hid hp
      have b0 : 0 ≤ (p : Int) := by omega
      have b1 : (p : Int) ≤ ((p + sz : Nat) : Int) := by omega
      have b2 : ((p + sz : Nat) : Int) ≤ (N : Int) := by omega
      have b3 : 0 ≤ ((p + sz : Nat) : Int) := by omega
      clear hp hp1 hq1
      go_wp2
      refine restu_start 20 [] (g :: blk la) 24 #[false, false, false, false, false, false, false, false, false, false, false, false, false, false, false, false, false, false, false, false, false, false, false, false] rfl (by kernel_rfl) (by kernel_rfl) ?_
      intro w2 m2
      obtain ⟨r1, r2, r3, r4, r5, r6, r7, r8, r9, r10⟩ := HR.out
      have C1 := Lib.hid (cell_of_block (i := 0) (m2.get r1 (by simp)))
      have RR : Hid (NewRel w g ab sz n N k la lc fa fc w2) := ⟨m2.get r1 (by simp), Own.mod0 r2 m2, Own.mod0 r3 m2, r4.mod0 m2, r5, r6, r7, r8, r9, r10.trans' m2⟩
      clear r1 r2 r3 r4 r5 r6 r7 r8 r9 r10 m2 HR
      refine restu_got (i := 0) (v := ?v1) rfl (by kernel_rfl) (by kernel_rfl) (by kernel_rfl) (by rfl) (fun _ _ _ h => h) (by rfl) ?y1 ?r1
      case y1 => (intro w9q hSwq; clear hSwq; go_simp; with_reducible rfl)
      try simp only [Act.put, List.setIfInBounds_toArray, List.set_cons_zero, List.set_cons_succ]
      refine restu_got (i := 1) (v := ?v2) rfl (by kernel_rfl) (by kernel_rfl) (by kernel_rfl) (by rfl) (fun _ _ _ h => h) (by rfl) ?y2 ?r2
      case y2 => (intro w9q hSwq; clear hSwq; go_simp; with_reducible rfl)
      try simp only [Act.put, List.setIfInBounds_toArray, List.set_cons_zero, List.set_cons_succ]
      refine restu_got (i := 2) (v := ?v3) rfl (by kernel_rfl) (by kernel_rfl) (by kernel_rfl) (by rfl) (fun _ _ _ h => h) (by rfl) ?y3 ?r3
      case y3 => (intro w9q hSwq; clear hSwq; go_simp; with_reducible rfl)
      try simp only [Act.put, List.setIfInBounds_toArray, List.set_cons_zero, List.set_cons_succ]
      refine restu_got (i := 3) (v := ?v4) rfl (by kernel_rfl) (by kernel_rfl) (by kernel_rfl) (by rfl) (fun _ _ _ h => h) (by rfl) ?y4 ?r4
      case y4 => (intro w9q hSwq; clear hSwq; go_simp; with_reducible rfl)
      try simp only [Act.put, List.setIfInBounds_toArray, List.set_cons_zero, List.set_cons_succ]
      refine restu_early (i := 4) [20, 21, 22, 23] (v := ?v5) rfl (by kernel_rfl) (by kernel_rfl) (by kernel_rfl) (by rfl) (by kernel_rfl) (by rfl) (by kernel_rfl) (fun _ _ _ h => h) (by rfl) ?y5 ?r5
      case y5 => ((intro w9' hm9'; have hc9' := Mod.cell hm9' C1.out (by first | exact List.not_mem_nil | (simp; done) | (simp; omega)); clear hm9'; go_simp; with_reducible rfl))
      try simp only [Act.put, List.setIfInBounds_toArray, List.set_cons_zero, List.set_cons_succ]
      refine restu_got (i := 5) (v := ?v6) rfl (by kernel_rfl) (by kernel_rfl) (by kernel_rfl) (by rfl) (fun _ _ _ h => h) (by rfl) ?y6 ?r6
      case y6 => (intro w9q hSwq; clear hSwq; go_simp; with_reducible rfl)
      try simp only [Act.put, List.setIfInBounds_toArray, List.set_cons_zero, List.set_cons_succ]
      refine restu_got (i := 6) (v := ?v7) rfl (by kernel_rfl) (by kernel_rfl) (by kernel_rfl) (by rfl) (fun _ _ _ h => h) (by rfl) ?y7 ?r7
      case y7 => (intro w9q hSwq; clear hSwq; go_simp; with_reducible rfl)
      try simp only [Act.put, List.setIfInBounds_toArray, List.set_cons_zero, List.set_cons_succ]
      refine restu_got (i := 7) (v := ?v8) rfl (by kernel_rfl) (by kernel_rfl) (by kernel_rfl) (by rfl) (fun _ _ _ h => h) (by rfl) ?y8 ?r8
      case y8 => (intro w9q hSwq; clear hSwq; go_simp; with_reducible rfl)
      try simp only [Act.put, List.setIfInBounds_toArray, List.set_cons_zero, List.set_cons_succ]
      refine restu_got (i := 8) (v := ?v9) rfl (by kernel_rfl) (by kernel_rfl) (by kernel_rfl) (by rfl) (fun _ _ _ h => h) (by rfl) ?y9 ?r9
      case y9 => (intro w9q hSwq; clear hSwq; go_simp; with_reducible rfl)
      try simp only [Act.put, List.setIfInBounds_toArray, List.set_cons_zero, List.set_cons_succ]
      refine restu_got (i := 9) (v := ?v10) rfl (by kernel_rfl) (by kernel_rfl) (by kernel_rfl) (by rfl) (fun _ _ _ h => h) (by rfl) ?y10 ?r10
      case y10 => (intro w9q hSwq; clear hSwq; go_simp; with_reducible rfl)
      try simp only [Act.put, List.setIfInBounds_toArray, List.set_cons_zero, List.set_cons_succ]
      refine restu_got (i := 10) (v := ?v11) rfl (by kernel_rfl) (by kernel_rfl) (by kernel_rfl) (by rfl) (fun _ _ _ h => h) (by rfl) ?y11 ?r11
      case y11 => (intro w9q hSwq; clear hSwq; go_simp; with_reducible rfl)
      try simp only [Act.put, List.setIfInBounds_toArray, List.set_cons_zero, List.set_cons_succ]
      refine restu_got (i := 11) (v := ?v12) rfl (by kernel_rfl) (by kernel_rfl) (by kernel_rfl) (by rfl) (fun _ _ _ h => h) (by rfl) ?y12 ?r12
      case y12 => (intro w9q hSwq; clear hSwq; go_simp; with_reducible rfl)
      try simp only [Act.put, List.setIfInBounds_toArray, List.set_cons_zero, List.set_cons_succ]
      refine restu_got (i := 12) (v := ?v13) rfl (by kernel_rfl) (by kernel_rfl) (by kernel_rfl) (by rfl) (fun _ _ _ h => h) (by rfl) ?y13 ?r13
      case y13 => (intro w9q hSwq; clear hSwq; go_simp; with_reducible rfl)
      try simp only [Act.put, List.setIfInBounds_toArray, List.set_cons_zero, List.set_cons_succ]
      refine restu_got (i := 13) (v := ?v14) rfl (by kernel_rfl) (by kernel_rfl) (by kernel_rfl) (by rfl) (fun _ _ _ h => h) (by rfl) ?y14 ?r14
      case y14 => (intro w9q hSwq; clear hSwq; go_simp; with_reducible rfl)
      try simp only [Act.put, List.setIfInBounds_toArray, List.set_cons_zero, List.set_cons_succ]
      refine restu_got (i := 14) (v := ?v15) rfl (by kernel_rfl) (by kernel_rfl) (by kernel_rfl) (by rfl) (fun _ _ _ h => h) (by rfl) ?y15 ?r15
      case y15 => (intro w9q hSwq; clear hSwq; go_simp; with_reducible rfl)
      try simp only [Act.put, List.setIfInBounds_toArray, List.set_cons_zero, List.set_cons_succ]
      refine restu_got (i := 15) (v := ?v16) rfl (by kernel_rfl) (by kernel_rfl) (by kernel_rfl) (by rfl) (fun _ _ _ h => h) (by rfl) ?y16 ?r16
      case y16 => (intro w9q hSwq; clear hSwq; go_simp; with_reducible rfl)
      try simp only [Act.put, List.setIfInBounds_toArray, List.set_cons_zero, List.set_cons_succ]
      refine restu_got (i := 16) (v := ?v17) rfl (by kernel_rfl) (by kernel_rfl) (by kernel_rfl) (by rfl) (fun _ _ _ h => h) (by rfl) ?y17 ?r17
      case y17 => (intro w9q hSwq; clear hSwq; go_simp; with_reducible rfl)
      try simp only [Act.put, List.setIfInBounds_toArray, List.set_cons_zero, List.set_cons_succ]
      refine restu_one (i := 17) (by kernel_rfl) rfl (by rfl) ?_
      go_wp2_with fail
      rw [show p + sz - p = sz from by omega]
      refine backu_to (K' := []) (K2' := g :: blk la) (Mod.refl _ _) (by simp) (by simp) (fun _ h _ => h) ?_
      clear hw1 hw3 b0 b1 b2 b3 C1
      refine restu_got (i := 18) (v := ?v18) rfl (by kernel_rfl) (by kernel_rfl) (by kernel_rfl) (by rfl) (fun _ _ _ h => h) (by rfl) ?y18 ?r18
      case y18 => (intro w9q hSwq; clear hSwq; go_simp; with_reducible rfl)
      try simp only [Act.put, List.setIfInBounds_toArray, List.set_cons_zero, List.set_cons_succ]
      refine restu_one (i := 19) (by kernel_rfl) rfl (by rfl) ?_
      go_wp2_with fail
      have mb := Mod.alloc [] w2 (.cells #[.slice (some ⟨ab, p, none⟩) sz sz, .int .i64 0, .int .u32 0, .bool false] 82)
      have HSH := Lib.hid (showsB1 (x := (p, 0, 0, false)) (heap_alloc_new w2 (.cells #[.slice (some ⟨ab, p, none⟩) sz sz, .int .i64 0, .int .u32 0, .bool false] 82)))
      refine backu_to (K' := []) (K2' := g :: blk la) mb (by simp) (by simp) (fun _ h _ => h) ?_
      obtain ⟨r1, r2, r3, r4, r5, r6, r7, r8, r9, r10⟩ := RR.out
      have I1 := Lib.hid (mb.get r1 (by simp))
      have I2 := Lib.hid (Own.mod0 r2 mb)
      have I3 := Lib.hid (Own.mod0 r3 mb)
      have I4 := Lib.hid (r4.mod0 mb)
      have I5 := Lib.hid r5
      have I6 := Lib.hid r6
      have I7 := Lib.hid (And.intro r7 (And.intro r8 r9))
      have I10 := Lib.hid (r10.trans' mb)
      have L1 := Lib.hid (And.intro (lt_of_block r1) (And.intro (Own.lt r4 ab (by simp [blk])) (Own.lt r3)))
      have LB : Hid ((bufsN sz k).length = k) := bufsN_length sz k
      have ng : Hid (g ∉ blk la) := fun hm => (r5 g hm).1 rfl
      clear r1 r2 r3 r4 r5 r6 r7 r8 r9 r10 mb RR
      
      refine restu_one (i := 20) (by kernel_rfl) rfl (by rfl) ?_
      go_wp2_with (first | (at_builtin; refine wpl_appBf (dst := some 53) _ _ ab sz la k lc (bufsN sz k) rfl LB.out I2.out _ 1 1 [(p, 0, 0, false)] rfl rfl HSH.out (by omega) ?_) | fail)
      intro a3 c3 w3 o3 m3 s3
      have O3 := Lib.hid o3
      have G3 := Lib.hid (m3.get I1.out ng.out)
      have N3 : Hid (∀ j, j ∈ blk a3 → j ≠ g ∧ j ≠ ab ∧ j ∉ blk fa ∧ w.heap.size ≤ j) := fun j hj => by
        rcases s3.blk j hj with h | h
        · exact I5.out j h
        · have h2 := L1.out
          have h3 := I10.out.size
          have hs2 : w2.heap.size ≤ j := by simp at h; omega
          have h4 := I7.out.2.1
          exact ⟨by omega, by omega, fun hm => by have := h2.2.2 j hm; omega, by omega⟩
      have J3 := Lib.hid (Own.mod I3.out m3 (fun j hj hm => (I5.out j hm).2.2.1 hj))
      have A3 := Lib.hid (I4.out.mod m3 (fun j hj hm => by simp [blk] at hj; subst hj; exact (I5.out j hm).2.1 rfl))
      have M3 : Hid (Mod [] w w3) := I10.out.trans m3 (fun j hj hl => by have := (I5.out j hj).2.2.2; omega)
      go_wp2_with fail
      refine backm_to (K1 := [g]) (by kernel_rfl) (m3.weaken (fun j hj => by simp [hj])) (fun j hj _ => by simp at hj; simp [hj]) ?_
      clear o3 m3 s3 HSH I1 I2 I3 I4 I5 I10 L1
      refine rest_got (i := 21) (v := ?v19) rfl (by kernel_rfl) (by kernel_rfl) (by kernel_rfl) (fun _ _ _ h => h) (by rfl) ?y19 ?r19
      case y19 => (intro w9q hSwq; clear hSwq; go_simp; with_reducible rfl)
      try simp only [Act.put, List.setIfInBounds_toArray, List.set_cons_zero, List.set_cons_succ]
      refine rest_got (i := 22) (v := ?v20) rfl (by kernel_rfl) (by kernel_rfl) (by kernel_rfl) (fun _ _ _ h => h) (by rfl) ?y20 ?r20
      case y20 => (intro w9q hSwq; clear hSwq; go_simp; with_reducible rfl)
      try simp only [Act.put, List.setIfInBounds_toArray, List.set_cons_zero, List.set_cons_succ]
      have g4 := cell_of_block (i := 0) G3.out
      have f4 := free_of_block (i := 0) G3.out
      refine rest_one (i := 23) (by kernel_rfl) rfl (by rfl) ?_
      go_wp2_with fail
      have m5 := Mod.setCell (S := [g]) w3 ⟨g, 0, none⟩ (.slice a3 (k + 1) c3) (by simp)
      refine back_to (K1 := []) m5 (by simp) ?_
      clear g4 f4
      refine rest_done (by kernel_rfl) ?_ _
      have G5 : Hid ((w3.setCell ⟨g, 0, none⟩ (.slice a3 (k + 1) c3)).heap[g]? = some (.cells #[.slice a3 (k + 1) c3, .slice fa k fc] 80 (0, 0))) := heap_setCell_same (i := 0) G3.out (.slice a3 (k + 1) c3)
      have B5 : Hid (OwnBf (w3.setCell ⟨g, 0, none⟩ (.slice a3 (k + 1) c3)) ab sz a3 c3 (bufsN sz (k + 1))) := by
        have hs := bufsN_succ sz k
        rw [HP.out] at hs
        rw [hs]
        exact Own.mod O3.out m5 (fun j hj => by simp; exact (N3.out j hj).1)
      have J5 := Lib.hid (Own.mod J3.out m5 (fun j hj => by simp; exact (I6.out j hj).1))
      have A5 := Lib.hid (A3.out.mod m5 (fun j hj => by simp [blk] at hj; subst hj; simp; exact Ne.symm I7.out.1))
      have M5 : Hid (Mod [] w (w3.setCell ⟨g, 0, none⟩ (.slice a3 (k + 1) c3))) := M3.out.trans m5 (fun j hj hl => by simp at hj; subst hj; have := I7.out.2.1; omega)
      generalize w3.setCell ⟨g, 0, none⟩ (.slice a3 (k + 1) c3) = w5 at *
      clear m5 G3 O3 J3 A3 M3
      have hw4 : IntKind.i64.wrap ((n : Int) - 1) = (n : Int) - 1 := IntWalk.i64_in _ (by omega)
      have hw5 : IntKind.i64.wrap ((n : Int) - 1 - (k : Int)) = ((n - 1 - k : Nat) : Int) := by rw [show (n : Int) - 1 - (k : Int) = ((n - 1 - k : Nat) : Int) by omega]; exact IntWalk.i64_in _ (by omega)
      have LF : Hid ((frN n k).length = k) := frN_length n k
      obtain ⟨x, hx⟩ : ∃ x, n - 1 - k = x := ⟨_, rfl⟩
      rw [hx] at hw5
      have HX := Lib.hid hx
      clear hx
      have hx4 : (n : Int) - 1 - (k : Int) = (x : Int) := by have := HX.out; omega
      have mb := Mod.alloc [] w5 (.cells #[.int .i64 (x : Int)] 3)
      have HSH := Lib.hid (showsI1 (heap_alloc_new w5 (.cells #[.int .i64 (x : Int)] 3)))
      have I1 := Lib.hid (mb.get G5.out (by simp))
      have I2 := Lib.hid (Own.mod0 B5.out mb)
      have I3 := Lib.hid (Own.mod0 J5.out mb)
      have I4 := Lib.hid (A5.out.mod0 mb)
      have I10 := Lib.hid (M5.out.trans' mb)
      have c5 := cell_of_block (i := 1) G5.out
      have L1 := Lib.hid (And.intro (lt_of_block G5.out) (And.intro (Own.lt A5.out ab (by simp [blk])) (Own.lt B5.out)))
      clear mb hw4 hw5
      go_wp2_with (first | (at_builtin; refine wpl_appI (dst := some 66) _ _ fa k fc (frN n k) rfl LF.out I3.out _ 1 1 [x] rfl rfl HSH.out (by omega) ?_) | fail)
      intro a7 c7 w7 o7 m7 s7
      have O7 := Lib.hid o7
      have M7 := Lib.hid m7
      have S7 := Lib.hid s7
      clear o7 m7 s7
      have G7 := Lib.hid (M7.out.get I1.out (fun hm => (I6.out g hm).1 rfl))
      have N7 : Hid (∀ j, j ∈ blk a7 → j ≠ g ∧ j ≠ ab ∧ j ∉ blk a3 ∧ w.heap.size ≤ j) := fun j hj => by
        rcases S7.out.blk j hj with h | h
        · exact ⟨(I6.out j h).1, (I6.out j h).2.1, fun hm => (N3.out j hm).2.2.1 h, (I6.out j h).2.2⟩
        · have h2 := L1.out
          have hs2 : w5.heap.size ≤ j := by simp at h; omega
          have h4 := I7.out.2.1
          exact ⟨by omega, by omega, fun hm => by have := h2.2.2 j hm; omega, by omega⟩
      have c7' := cell_of_block (i := 1) G7.out
      have f7 := free_of_block (i := 1) G7.out
      have m9 := Mod.setCell (S := [g]) w7 ⟨g, 1, none⟩ (.slice a7 (k + 1) c7) (by simp)
      have G9 : Hid ((w7.setCell ⟨g, 1, none⟩ (.slice a7 (k + 1) c7)).heap[g]? = some (.cells #[.slice a3 (k + 1) c3, .slice a7 (k + 1) c7] 80 (0, 0))) := heap_setCell_same (i := 1) G7.out (.slice a7 (k + 1) c7)
      have RR : Hid (NewRel w g ab sz n N (k + 1) a3 c3 a7 c7 (w7.setCell ⟨g, 1, none⟩ (.slice a7 (k + 1) c7))) := by
        refine ⟨G9.out, ?_, ?_, ?_, ?_, ?_, I7.out.1, I7.out.2.1, I7.out.2.2, ?_⟩
        · exact Own.mod (Own.mod I2.out M7.out (fun j hj hm => (N3.out j hj).2.2.1 hm)) m9 (fun j hj => by simp; exact (N3.out j hj).1)
        · have hs := frN_succ n k
          rw [HX.out] at hs
          rw [hs]
          exact Own.mod O7.out m9 (fun j hj => by simp; exact (N7.out j hj).1)
        · exact (I4.out.mod M7.out (fun j hj hm => by simp [blk] at hj; subst hj; exact (I6.out j hm).2.1 rfl)).mod m9 (fun j hj => by simp [blk] at hj; subst hj; simp; exact Ne.symm I7.out.1)
        · exact fun j hj => ⟨(N3.out j hj).1, (N3.out j hj).2.1, fun hm => (N7.out j hm).2.2.1 hj, (N3.out j hj).2.2.2⟩
        · exact fun j hj => ⟨(N7.out j hj).1, (N7.out j hj).2.1, (N7.out j hj).2.2.2⟩
        · exact (I10.out.trans M7.out (fun j hj hl => by have := (I6.out j hj).2.2; omega)).trans m9 (fun j hj hl => by simp at hj; subst hj; have := I7.out.2.1; omega)
      clear m9 G9
      go_wp2
      go_roundw
      case rel => exact ⟨k + 1, a3, c3, a7, c7, by omega, by go_num, RR.out⟩
      case measure => simp [intOf]; omega
    · have hke : k = n := by omega
      subst hke
      go_wp2
      go_ret2
      obtain ⟨r1, r2, r3, r4, r5, r6, r7, r8, r9, r10⟩ := HR.out
      have hb := Own.ne_none r2 (by rw [bufsN_length]; exact h1)
      obtain ⟨b, rfl, hb⟩ := hb
      obtain ⟨d1, d2, d3, d4⟩ := r5 b (by simp [blk])
      refine ⟨g, g :: b :: ab :: blk fa, rfl, ⟨b, lc, fa, fc, ab, bufsN sz k, List.replicate N 0, ⟨?_, r2, ?_, ?_, nodup4 (Ne.symm d1) r7 d2 (fun j hj => ⟨(r6 j hj).1, fun e => d3 (e ▸ hj), (r6 j hj).2.1⟩)⟩, rfl, by rw [← HN.out]; exact fits_new _ _, h4, ?_⟩, r10, ?_⟩
      · rw [bufsN_length, List.length_reverse, List.length_range]; exact r1
      · rw [← frN_all]; exact r3
      · rw [List.length_replicate]; exact r4
      · intro i hi; simpa using hi
      · intro j hj
        simp only [List.mem_cons] at hj
        rcases hj with rfl | rfl | rfl | hj
        · exact r8
        · exact d4
        · exact r9
        · exact (r6 j hj).2.2
end Go.Proofs.YtigamomoegpefaaDoor
/- Commands: how they lie, when they may be. -/
namespace Go.Proofs.YtigamomoegpefaaDoor
open Go Go.RowKit Go.Lib

/-- A command. -/
structure Cd where
  client : Nat
  seq : Nat
  kind : Nat
  keys : List ByteArray
  old : ByteArray
  fresh : ByteArray
  n : Int
/-- A command, and where its keys lie. -/
abbrev Cm := Cd × Option Addr × Nat

/-- The slice at 'ao' shows these texts. -/
def SeesT (w : World) (ao : Option Addr) (l : List ByteArray) : Prop :=
  ∀ j (h : j < l.length), ∃ b off, ao = some ⟨b, off, none⟩ ∧ w.cell? ⟨b, off + j, none⟩ = some (.string l[j])
theorem SeesT.mod {S : List Nat} {w w' : World} {ao : Option Addr} {l : List ByteArray} (h : SeesT w ao l) (hm : Mod S w w') (hn : l ≠ [] → ∀ k, k ∈ blk ao → k ∉ S) : SeesT w' ao l := by
  intro j hj
  obtain ⟨b, off, h1, h2⟩ := h j hj
  exact ⟨b, off, h1, hm.cell h2 (hn (by intro e; subst e; exact absurd hj (Nat.not_lt_zero _)) b (by subst h1; simp [blk]))⟩
theorem SeesT.mod0 {w w' : World} {ao : Option Addr} {l : List ByteArray} (h : SeesT w ao l) (hm : Mod [] w w') : SeesT w' ao l := h.mod hm (by simp)
theorem SeesT.nil (w : World) (ao : Option Addr) : SeesT w ao [] := fun j hj => absurd hj (by simp)

/-- What a command's parts may be, of their types. -/
structure Wf (c : Cd) : Prop where
  client : c.client < 4294967296
  seq : c.seq < 4294967296
  kind : c.kind < 256
  keys : c.keys.length ≤ 9223372036854775807
  key : ∀ k ∈ c.keys, k.size ≤ 9223372036854775807
  old : c.old.size ≤ 9223372036854775807
  fresh : c.fresh.size ≤ 9223372036854775807
  lo : -9223372036854775808 ≤ c.n
  hi : c.n ≤ 9223372036854775807
def cmdC (c : Cm) : List Value := [.int .u32 (c.1.client : Int), .int .u32 (c.1.seq : Int), .int .u8 (c.1.kind : Int), .slice c.2.1 c.1.keys.length c.2.2, .string c.1.old, .string c.1.fresh, .int .i64 c.1.n]
def cmdV (c : Cm) : Value := .agg #[.int .u32 (c.1.client : Int), .int .u32 (c.1.seq : Int), .int .u8 (c.1.kind : Int), .slice c.2.1 c.1.keys.length c.2.2, .string c.1.old, .string c.1.fresh, .int .i64 c.1.n]

/-- How many keys a kind has, at least and at most. -/
def least (k : Nat) : Nat := if k = 6 then 2 else 1
def most (k : Nat) : Nat := if k = 6 then 2 else if k = 7 ∨ k = 8 then 16 else 1
def KeyOk (k : ByteArray) : Prop := 1 ≤ k.size ∧ k.size ≤ 32
instance (k : ByteArray) : Decidable (KeyOk k) := inferInstanceAs (Decidable (_ ∧ _))
/-- May a command be? -/
def May (c : Cd) : Prop :=
  (1 ≤ c.kind ∧ c.kind ≤ 8) ∧ (∀ k ∈ c.keys, KeyOk k) ∧ 0 < c.client ∧ least c.kind ≤ c.keys.length ∧ c.keys.length ≤ most c.kind ∧ c.old.size ≤ 64 ∧ c.fresh.size ≤ 64 ∧
    (c.old.size = 0 ∨ c.kind = 5) ∧ (c.fresh.size = 0 ∨ c.kind = 1 ∨ c.kind = 5) ∧ (c.n = 0 ∨ c.kind = 4)
instance (c : Cd) : Decidable (May c) := inferInstanceAs (Decidable (_ ∧ _))

/-- The package's table. -/
def Cnt (w : World) : Prop := ∀ k, 1 ≤ k → k ≤ 8 → w.cell? ⟨0, k * 2, none⟩ = some (.int .i64 (least k : Int)) ∧ w.cell? ⟨0, k * 2 + 1, none⟩ = some (.int .i64 (most k : Int))
theorem Cnt.mod0 {w w' : World} (h : Cnt w) (hm : Mod [] w w') : Cnt w' := fun k h1 h2 => ⟨hm.cell (h k h1 h2).1 (by simp), hm.cell (h k h1 h2).2 (by simp)⟩

theorem isEmpty_of (s : ByteArray) (h : s ≠ ByteArray.empty) : s.toList.isEmpty = false := by
  rw [ByteArray.toList_eq]
  cases hl : s.data.toList with
  | nil => exact absurd (by rw [str_eta s, hl]; rfl) h
  | cons _ _ => rfl
theorem size_pos (s : ByteArray) (h : s ≠ ByteArray.empty) : 1 ≤ s.size := by
  cases hl : s.data.toList with
  | nil => exact absurd (by rw [str_eta s, hl]; rfl) h
  | cons x r => rw [← size_data s, hl]; simp

set_option maxRecDepth 100000 in
theorem long_any (k : ByteArray) (w : World) : Calls Tryd.prog 38 #[.string k] w fun e w' => e = .returned (.bool (decide (¬ KeyOk k))) ∧ w' = w := by
  by_cases h0 : k = ByteArray.empty
  · subst h0
    go_enter Tryd.func38, Tryd.ntmps38
    go_wp2
    go_ret
    exact ⟨rfl, rfl⟩
  · have h1 := isEmpty_of k h0
    have h2 := size_pos k h0
    by_cases h1 : 32 < k.size
    · go_enter Tryd.func38, Tryd.ntmps38
      go_wp2
      go_ret
      have : ¬ KeyOk k := fun h => by have := h.2; omega
      exact ⟨by simp [this]; omega, rfl⟩
    · go_enter Tryd.func38, Tryd.ntmps38
      go_wp2
      go_ret
      have : KeyOk k := ⟨h2, by omega⟩
      exact ⟨by simp [this]; omega, rfl⟩

set_option maxRecDepth 100000 in
set_option maxHeartbeats 1000000 in
/-- The first text that may not be a key, if there is one. -/
theorem indexT_any (ao : Option Addr) (len cap : Nat) (l : List ByteArray) (w : World) (hl : l.length = len) (hs : SeesT w ao l) (hlen : len ≤ 9223372036854775807) :
    Calls Tryd.prog 51 #[.slice ao len cap, .func (.func 38) #[] #[]] w fun e w' => ∃ r : Int, e = .returned (.int .i64 r) ∧ (0 ≤ r ↔ ∃ k ∈ l, ¬ KeyOk k) ∧ w' = w := by
  subst hl
  have HS := Lib.hid hs
  clear hs
  go_enter Tryd.func51, Tryd.ntmps51
  go_wp2
  go_loopw [8] (fun i wr => ∃ k : Nat, k ≤ l.length ∧ i = .int .i64 (k : Int) ∧ (∀ j, (h : j < l.length) → j < k → KeyOk l[j]) ∧ wr = w) (fun i _ => l.length - (intOf i).toNat)
  case atStart => exact ⟨0, Nat.zero_le _, rfl, fun j _ h => absurd h (Nat.not_lt_zero _), rfl⟩
  case round =>
    obtain ⟨k, hk, rfl, hall, rfl⟩ := hrel
    have HA := Lib.hid hall
    clear hall
    by_cases hlt : k < l.length
    · obtain ⟨b, off, rfl, p0⟩ := HS.out k hlt
      by_cases hok : KeyOk l[k]
      · have D : decide (¬ KeyOk l[k]) = false := by simp [hok]
        obtain ⟨t, ht⟩ : ∃ t, l[k] = t := ⟨_, rfl⟩
        rw [ht] at p0 hok D
        have HT := Lib.hid ht
        clear ht
        go_wp2_with fail
        refine (long_any t _).mono ?_
        rintro e w1 ⟨rfl, rfl⟩
        go_wp2_with fail
        go_roundw
        case rel =>
          refine ⟨k + 1, by omega, by go_num, fun j hj hjk => ?_, by first | rfl | trivial⟩
          by_cases he : j = k
          · subst he; rw [HT.out]; exact hok
          · exact HA.out j hj (by omega)
        case measure => simp [intOf]; omega
      · have D : decide (¬ KeyOk l[k]) = true := by simp [hok]
        have HE : Hid (∃ k ∈ l, ¬ KeyOk k) := Lib.hid ⟨l[k], List.getElem_mem hlt, hok⟩
        obtain ⟨t, ht⟩ : ∃ t, l[k] = t := ⟨_, rfl⟩
        rw [ht] at p0 hok D
        clear ht
        go_wp2_with fail
        refine (long_any t _).mono ?_
        rintro e w1 ⟨rfl, rfl⟩
        go_wp2_with fail
        go_ret
        exact ⟨_, rfl, ⟨fun _ => HE.out, fun _ => by omega⟩, rfl⟩
    · have hke : k = l.length := by omega
      subst hke
      go_wp2
      go_ret
      refine ⟨-1, rfl, ⟨fun h => absurd h (by omega), fun ⟨t, ht, hno⟩ => ?_⟩, rfl⟩
      obtain ⟨j, hj, rfl⟩ := List.getElem_of_mem ht
      exact absurd (HA.out j hj hj) hno
set_option maxRecDepth 100000 in
theorem containsT_any (ao : Option Addr) (len cap : Nat) (l : List ByteArray) (w : World) (hl : l.length = len) (hs : SeesT w ao l) (hlen : len ≤ 9223372036854775807) :
    Calls Tryd.prog 39 #[.slice ao len cap, .func (.func 38) #[] #[]] w fun e w' => e = .returned (.bool (decide (∃ k ∈ l, ¬ KeyOk k))) ∧ w' = w := by
  go_enter Tryd.func39, Tryd.ntmps39
  go_wp2_with fail
  refine (indexT_any ao len cap l w hl hs hlen).mono ?_
  rintro e w1 ⟨r, rfl, hr, rfl⟩
  have HR := Lib.hid hr
  clear hr
  go_wp2_with fail
  go_ret
  exact ⟨by simp [← HR.out], rfl⟩
end Go.Proofs.YtigamomoegpefaaDoor
/- The walks of a command's check. -/
namespace Go.Proofs.YtigamomoegpefaaDoor
open Go Go.RowKit Go.Lib

theorem Mod.drewN (S : List Nat) (w : World) (n : Nat) : Mod S w (w.drewN n) := ⟨rfl, rfl, rfl, Nat.le_refl _, fun _ _ _ => rfl⟩
theorem isEmpty_iff (s : ByteArray) : s.toList.isEmpty = true ↔ s.size = 0 := by
  rw [ByteArray.toList_eq, ← size_data s, List.isEmpty_iff, List.length_eq_zero_iff]
theorem ret_no {c : Cd} {mc : Int} (h : Hid ((if May c then (0 : Int) else 1) = mc)) (hno : ¬ May c) : Ending.returned (.int .i64 1) = .returned (.int .i64 mc) := by rw [← h.out, if_neg hno]
theorem ret_yes {c : Cd} {mc : Int} (h : Hid ((if May c then (0 : Int) else 1) = mc)) (hy : May c) : Ending.returned (.int .i64 0) = .returned (.int .i64 mc) := by rw [← h.out, if_pos hy]

set_option maxRecDepth 100000 in
set_option maxHeartbeats 4000000 in
theorem check_any (c : Cm) (w : World) (hw : Wf c.1) (hk : SeesT w c.2.1 c.1.keys) (ht : Cnt w) :
    Calls Tryd.prog 25 #[cmdV c] w fun e w' => e = .returned (.int .i64 (if May c.1 then 0 else 1)) ∧ Mod [] w w' := by
  obtain ⟨⟨client, seq, kind, keys, old, fresh, n⟩, kao, kcap⟩ := c
  obtain ⟨hw1, hw2, hw3, hw4, -, hw6, hw7, hw8, hw9⟩ := hw
  dsimp only at hw1 hw2 hw3 hw4 hw6 hw7 hw8 hw9 hk
  have HK := Lib.hid hk
  have HT := Lib.hid ht
  clear hk ht
  show Calls Tryd.prog 25 #[.agg #[.int .u32 (client : Int), .int .u32 (seq : Int), .int .u8 (kind : Int), .slice kao keys.length kcap, .string old, .string fresh, .int .i64 n]] w fun e w' => e = .returned (.int .i64 (if May ⟨client, seq, kind, keys, old, fresh, n⟩ then 0 else 1)) ∧ Mod [] w w'
  obtain ⟨mc, hmc⟩ : ∃ x : Int, (if May ⟨client, seq, kind, keys, old, fresh, n⟩ then (0 : Int) else 1) = x := ⟨_, rfl⟩
  rw [hmc]
  have HV := Lib.hid hmc
  clear hmc
  by_cases c0 : client = 0
  · subst c0
    have hno : ¬ May ⟨0, seq, kind, keys, old, fresh, n⟩ := fun h => absurd h.2.2.1 (Nat.lt_irrefl 0)
    go_enter Tryd.func25, Tryd.ntmps25
    go_wp2
    go_ret
    exact ⟨ret_no HV hno, Mod.alloc _ _ _⟩
  by_cases k0 : kind = 0
  · subst k0
    have hno : ¬ May ⟨client, seq, 0, keys, old, fresh, n⟩ := fun h => absurd h.1.1 (Nat.not_succ_le_zero 0)
    go_enter Tryd.func25, Tryd.ntmps25
    go_wp2
    go_ret
    exact ⟨ret_no HV hno, Mod.alloc _ _ _⟩
  have E0 : ((client : Int) == 0) = false := by simp; omega
  have E1 : ((kind : Int) == 0) = false := by simp; omega
  by_cases k9 : 9 ≤ kind
  · have hno : ¬ May ⟨client, seq, kind, keys, old, fresh, n⟩ := fun h => absurd h.1.2 (by show ¬ kind ≤ 8; omega)
    go_enter Tryd.func25, Tryd.ntmps25
    go_wp2
    go_ret
    exact ⟨ret_no HV hno, Mod.alloc _ _ _⟩
  obtain ⟨t0, t1⟩ := HT.out kind (by omega) (by omega)
  obtain ⟨lo, hlo⟩ : ∃ x, least kind = x := ⟨_, rfl⟩
  obtain ⟨hi, hhi⟩ : ∃ x, most kind = x := ⟨_, rfl⟩
  rw [hlo] at t0
  rw [hhi] at t1
  have HLO := Lib.hid hlo
  have HHI := Lib.hid hhi
  clear hlo hhi
  have h0 := World.block_lt_of_cell? w _ t0
  dsimp only at h0
  have h0' : ¬ 0 = w.heap.size := by omega
  have E2 : decide ((9 : Int) ≤ (kind : Int)) = false := decide_eq_false (by omega)
  obtain ⟨b5, E5⟩ : ∃ b, ((kind : Int) == 5) = b := ⟨_, rfl⟩
  obtain ⟨b4, E4⟩ : ∃ b, ((kind : Int) == 4) = b := ⟨_, rfl⟩
  go_enter Tryd.func25, Tryd.ntmps25
  go_wp2_with fail
  go_quiet (fail)
  have H5 : Hid (b5 = true ↔ kind = 5) := Lib.hid (by rw [← E5]; simp; omega)
  have H4 : Hid (b4 = true ↔ kind = 4) := Lib.hid (by rw [← E4]; simp; omega)
  clear E5 E4
  have MW : Hid (∀ o o' nq, Mod [] w (((w.alloc o).alloc o').drewN nq)) := Lib.hid (fun o o' nq => ((Mod.alloc _ _ _).trans' (Mod.alloc _ _ _)).trans' (Mod.drewN _ _ _))
  by_cases hL : keys.length < lo
  · have hno : ¬ May ⟨client, seq, kind, keys, old, fresh, n⟩ := fun h => by have := h.2.2.2.1; rw [HLO.out] at this; exact absurd hL (Nat.not_lt_of_le this)
    have D1 : decide ((keys.length : Int) < (lo : Int)) = true := decide_eq_true (by omega)
    go_wp2
    go_ret
    exact ⟨ret_no HV hno, MW.out _ _ _⟩
  have D1 : decide ((keys.length : Int) < (lo : Int)) = false := decide_eq_false (by omega)
  by_cases hM : hi < keys.length
  · have hno : ¬ May ⟨client, seq, kind, keys, old, fresh, n⟩ := fun h => by have := h.2.2.2.2.1; rw [HHI.out] at this; exact absurd hM (Nat.not_lt_of_le this)
    have D2 : decide ((hi : Int) < (keys.length : Int)) = true := decide_eq_true (by omega)
    go_wp2
    go_ret
    exact ⟨ret_no HV hno, MW.out _ _ _⟩
  have D2 : decide ((hi : Int) < (keys.length : Int)) = false := decide_eq_false (by omega)
  go_wp2_with fail
  refine (containsT_any kao keys.length kcap keys _ rfl (HK.out.mod0 (MW.out _ _ _)) hw4).mono ?_
  rintro e w1 ⟨rfl, rfl⟩
  by_cases hB : ∃ k ∈ keys, ¬ KeyOk k
  · have hno : ¬ May ⟨client, seq, kind, keys, old, fresh, n⟩ := fun h => by obtain ⟨k, h1, h2⟩ := hB; exact h2 (h.2.1 k h1)
    rw [decide_eq_true hB]
    clear hB
    go_wp2_with fail
    go_ret
    exact ⟨ret_no HV hno, MW.out _ _ _⟩
  rw [decide_eq_false hB]
  have HB := Lib.hid hB
  clear hB
  by_cases hO : 64 < old.size
  · have hno : ¬ May ⟨client, seq, kind, keys, old, fresh, n⟩ := fun h => by have := h.2.2.2.2.2.1; exact absurd hO (Nat.not_lt_of_le this)
    have D3 : decide ((64 : Int) < (old.size : Int)) = true := decide_eq_true (by omega)
    go_wp2_with fail
    go_ret
    exact ⟨ret_no HV hno, MW.out _ _ _⟩
  have D3 : decide ((64 : Int) < (old.size : Int)) = false := decide_eq_false (by omega)
  by_cases hF : 64 < fresh.size
  · have hno : ¬ May ⟨client, seq, kind, keys, old, fresh, n⟩ := fun h => by have := h.2.2.2.2.2.2.1; exact absurd hF (Nat.not_lt_of_le this)
    have D4 : decide ((64 : Int) < (fresh.size : Int)) = true := decide_eq_true (by omega)
    go_wp2_with fail
    go_ret
    exact ⟨ret_no HV hno, MW.out _ _ _⟩
  have D4 : decide ((64 : Int) < (fresh.size : Int)) = false := decide_eq_false (by omega)
  obtain ⟨oe, EO⟩ : ∃ b, old.toList.isEmpty = b := ⟨_, rfl⟩
  obtain ⟨fe, EF⟩ : ∃ b, fresh.toList.isEmpty = b := ⟨_, rfl⟩
  have HM : Hid (May ⟨client, seq, kind, keys, old, fresh, n⟩ ↔ (oe = true ∨ b5 = true) ∧ (fe = true ∨ (kind : Int) = 1 ∨ b5 = true) ∧ (n = 0 ∨ b4 = true)) := Lib.hid (by
    have h1 : (kind : Int) = 1 ↔ kind = 1 := by omega
    have h3 : oe = true ↔ old.size = 0 := by rw [← EO, isEmpty_iff]
    have h4 : fe = true ↔ fresh.size = 0 := by rw [← EF, isEmpty_iff]
    rw [h1, h3, h4, H5.out, H4.out]
    constructor
    · exact fun h => ⟨h.2.2.2.2.2.2.2.1, h.2.2.2.2.2.2.2.2.1, h.2.2.2.2.2.2.2.2.2⟩
    · exact fun h => ⟨⟨by show 1 ≤ kind; omega, by show kind ≤ 8; omega⟩, fun k hk => Decidable.byContradiction fun hn => HB.out ⟨k, hk, hn⟩, by show 0 < client; omega, by show least kind ≤ keys.length; rw [HLO.out]; omega, by show keys.length ≤ most kind; rw [HHI.out]; omega, by show old.size ≤ 64; omega, by show fresh.size ≤ 64; omega, h.1, h.2.1, h.2.2⟩)
  clear hL hM hO hF
  go_wp2_with fail
  all_goals go_ret
  all_goals first
    | (refine ⟨ret_yes HV (HM.out.2 ?_), MW.out _ _ _⟩; clear HV HM HK HT HLO HHI H5 H4 MW HB t0 t1 D1 D2 D3 D4 E0 E1 E2 EO EF; simp_all; done)
    | (refine ⟨ret_no HV (fun h => ?_), MW.out _ _ _⟩; have h9 := HM.out.1 h; clear HV HM HK HT HLO HHI H5 H4 MW HB t0 t1 D1 D2 D3 D4 E0 E1 E2 EO EF h; simp_all; done)
end Go.Proofs.YtigamomoegpefaaDoor
/- Numbers as bytes of 7 bits: the plain function that both texts compute. No program in sight. -/
namespace Go.Proofs.YtigamomoegpefaaDoor
open Go Go.RowKit

/-- A number's bytes, with fuel. -/
def encF : Nat → Nat → List UInt8
  | 0, n => [UInt8.ofNat n]
  | f + 1, n => if n < 128 then [UInt8.ofNat n] else UInt8.ofNat (128 + n % 128) :: encF f (n / 128)
def enc7 (n : Nat) : List UInt8 := encF 10 n
theorem encF_stable (f : Nat) : ∀ n, n < 128 ^ (f + 1) → encF (f + 1) n = encF f n := by
  induction f with
  | zero => intro n h; simp [encF]; omega
  | succ f ih =>
    intro n h
    show (if n < 128 then _ else UInt8.ofNat (128 + n % 128) :: encF (f + 1) (n / 128)) = (if n < 128 then _ else UInt8.ofNat (128 + n % 128) :: encF f (n / 128))
    split
    · rfl
    · rw [ih (n / 128) (by rw [Nat.div_lt_iff_lt_mul (by omega)]; rwa [Nat.pow_succ] at h)]
theorem enc7_small (n : Nat) (h : n < 128) : enc7 n = [UInt8.ofNat n] := by simp [enc7, encF, h]
theorem enc7_big (n : Nat) (h : 128 ≤ n) (h64 : n < 18446744073709551616) : enc7 n = UInt8.ofNat (128 + n % 128) :: enc7 (n / 128) := by
  show (if n < 128 then _ else UInt8.ofNat (128 + n % 128) :: encF 9 (n / 128)) = _
  rw [if_neg (by omega)]
  show _ = _ :: encF 10 (n / 128)
  rw [encF_stable 9 (n / 128) (by simp only [Nat.reduceAdd, Nat.reducePow]; omega)]
theorem encF_length (f : Nat) : ∀ n, 1 ≤ (encF f n).length ∧ (encF f n).length ≤ f + 1 := by
  induction f with
  | zero => intro n; simp [encF]
  | succ f ih =>
    intro n
    unfold encF
    split
    · simp
    · have := ih (n / 128); simp only [List.length_cons]; omega
theorem enc7_length (n : Nat) : 1 ≤ (enc7 n).length ∧ (enc7 n).length ≤ 11 := encF_length 10 n

/-- The groups that the iterator hands on: 7 bits, and whether they are the last. -/
def grpF : Nat → Nat → List (UInt8 × Bool)
  | 0, n => [(UInt8.ofNat n, true)]
  | f + 1, n => if n < 128 then [(UInt8.ofNat n, true)] else (UInt8.ofNat (n % 128), false) :: grpF f (n / 128)
def grp (n : Nat) : List (UInt8 × Bool) := grpF 10 n
def grpB (x : UInt8 × Bool) : UInt8 := if x.2 = true then x.1 else UInt8.ofNat (128 + x.1.toNat)
theorem grpF_stable (f : Nat) : ∀ n, n < 128 ^ (f + 1) → grpF (f + 1) n = grpF f n := by
  induction f with
  | zero => intro n h; simp [grpF]; omega
  | succ f ih =>
    intro n h
    show (if n < 128 then _ else (UInt8.ofNat (n % 128), false) :: grpF (f + 1) (n / 128)) = (if n < 128 then _ else (UInt8.ofNat (n % 128), false) :: grpF f (n / 128))
    split
    · rfl
    · rw [ih (n / 128) (by rw [Nat.div_lt_iff_lt_mul (by omega)]; rwa [Nat.pow_succ] at h)]
theorem grp_small (n : Nat) (h : n < 128) : grp n = [(UInt8.ofNat n, true)] := by simp [grp, grpF, h]
theorem grp_big (n : Nat) (h : 128 ≤ n) (h64 : n < 18446744073709551616) : grp n = (UInt8.ofNat (n % 128), false) :: grp (n / 128) := by
  show (if n < 128 then _ else (UInt8.ofNat (n % 128), false) :: grpF 9 (n / 128)) = _
  rw [if_neg (by omega)]
  show _ = _ :: grpF 10 (n / 128)
  rw [grpF_stable 9 (n / 128) (by simp only [Nat.reduceAdd, Nat.reducePow]; omega)]
theorem grpF_enc (f : Nat) : ∀ n, n < 128 ^ (f + 1) → (grpF f n).map grpB = encF f n := by
  induction f with
  | zero => intro n h; simp [grpF, encF, grpB]
  | succ f ih =>
    intro n h
    unfold grpF encF
    split
    · simp [grpB]
    · rw [List.map_cons, ih (n / 128) (by rw [Nat.div_lt_iff_lt_mul (by omega)]; rwa [Nat.pow_succ] at h)]
      have : grpB (UInt8.ofNat (n % 128), false) = UInt8.ofNat (128 + n % 128) := by
        have e : (UInt8.ofNat (n % 128)).toNat = n % 128 := by rw [UInt8.toNat_ofNat']; omega
        simp only [grpB, e]; rfl
      rw [this]
theorem grp_enc (n : Nat) (h64 : n < 18446744073709551616) : (grp n).map grpB = enc7 n := grpF_enc 10 n (by simp only [Nat.reduceAdd, Nat.reducePow]; omega)
theorem grp_length (n : Nat) (h64 : n < 18446744073709551616) : (grp n).length = (enc7 n).length := by rw [← grp_enc n h64]; simp
theorem grpF_wf (f : Nat) : ∀ n, n < 128 ^ (f + 1) → ∀ x ∈ grpF f n, x.1.toNat < 128 := by
  induction f with
  | zero => intro n h x hx; simp [grpF] at hx; subst hx; simp at h; show (UInt8.ofNat n).toNat < 128; rw [UInt8.toNat_ofNat']; omega
  | succ f ih =>
    intro n h x hx
    unfold grpF at hx
    split at hx
    · simp at hx; subst hx; show (UInt8.ofNat n).toNat < 128; rw [UInt8.toNat_ofNat']; omega
    · rcases List.mem_cons.1 hx with rfl | hx
      · show (UInt8.ofNat (n % 128)).toNat < 128; rw [UInt8.toNat_ofNat']; omega
      · exact ih (n / 128) (by rw [Nat.div_lt_iff_lt_mul (by omega)]; rwa [Nat.pow_succ] at h) x hx
theorem grp_wf (n : Nat) (h64 : n < 18446744073709551616) : ∀ x ∈ grp n, x.1.toNat < 128 := grpF_wf 10 n (by simp only [Nat.reduceAdd, Nat.reducePow]; omega)

/-- A signed number, as a number from 0 on. -/
def zig (m : Int) : Nat := if 0 ≤ m then (2 * m).toNat else (-2 * m - 1).toNat
theorem zig_pos (m : Int) (h : 0 ≤ m) : zig m = (2 * m).toNat := if_pos h
theorem zig_neg (m : Int) (h : m < 0) : zig m = (-2 * m - 1).toNat := if_neg (by omega)
theorem zig_lt (m : Int) (h1 : -9223372036854775808 ≤ m) (h2 : m ≤ 9223372036854775807) : zig m < 18446744073709551616 := by
  unfold zig; split <;> omega
theorem xor_ones64 (n : Nat) (h : n < 18446744073709551616) : bits .xor .u64 (n : Int) 18446744073709551615 = ((18446744073709551615 - n : Nat) : Int) := by
  show IntKind.u64.wrap ((BitVec.ofInt 64 (n : Int) ^^^ BitVec.ofInt 64 18446744073709551615).toNat : Int) = _
  have e1 : BitVec.ofInt 64 18446744073709551615 = BitVec.allOnes 64 := by decide
  have e2 : BitVec.ofInt 64 (n : Int) = BitVec.ofNat 64 n := BitVec.ofInt_natCast 64 n
  rw [e1, e2, BitVec.xor_allOnes, BitVec.toNat_not, BitVec.toNat_ofNat, Nat.mod_eq_of_lt (by simpa using h)]
  rw [IntWalk.u64_in _ (by omega)]
/-- As the walk writes it. -/
theorem zig_walk (m : Int) (h1 : -9223372036854775808 ≤ m) (h2 : m ≤ 9223372036854775807) :
    bits BinOp.xor IntKind.u64 (IntKind.u64.wrap (IntKind.u64.wrap m * 2)) (IntKind.u64.wrap (m / 9223372036854775808)) = ((zig m : Nat) : Int) := by
  by_cases h0 : 0 ≤ m
  · have e1 : m / 9223372036854775808 = 0 := by omega
    have e2 : IntKind.u64.wrap m = m := IntWalk.u64_in _ (by omega)
    have e3 : IntKind.u64.wrap (m * 2) = ((zig m : Nat) : Int) := by rw [IntWalk.u64_in _ (by omega), zig_pos m h0]; omega
    have e4 : IntKind.u64.wrap 0 = ((0 : Nat) : Int) := by decide
    rw [e1, e2, e3, e4, u64_xor_nat _ _ (zig_lt m h1 h2) (by omega), Nat.xor_zero]
  · have e1 : m / 9223372036854775808 = -1 := by omega
    have e2 : IntKind.u64.wrap m = m + 18446744073709551616 := by rw [IntKind.wrap_u64]; omega
    have e3 : IntKind.u64.wrap ((m + 18446744073709551616) * 2) = (((2 * m + 18446744073709551616).toNat : Nat) : Int) := by rw [IntKind.wrap_u64]; omega
    have e4 : IntKind.u64.wrap (-1) = 18446744073709551615 := by decide
    rw [e1, e2, e3, e4, xor_ones64 _ (by omega), zig_neg m (by omega)]
    omega
end Go.Proofs.YtigamomoegpefaaDoor
