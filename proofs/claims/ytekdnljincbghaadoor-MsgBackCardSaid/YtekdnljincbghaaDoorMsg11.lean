/- The walk of msg.Take. -/
import Derived.Test.YtekdnljincbghaaDoorMsg10
import Derived.Test.YtekdnljincbghaaDoorRegionU
namespace Go.Proofs.YtekdnljincbghaaDoor
open Go Go.RowKit Go.Lib

/-- What bytes behind the sum say. -/
def insR (l : List UInt8) : Int × Md :=
  if Known (St.uint ⟨0, l.drop 4, false⟩).1 then
    if (takeF l.length (Fl (St.uint ⟨0, l.drop 4, false⟩).1) ((mz (St.uint ⟨0, l.drop 4, false⟩).1).d, (St.uint ⟨0, l.drop 4, false⟩).2)).2.bad = false ∧
      doneR (takeF l.length (Fl (St.uint ⟨0, l.drop 4, false⟩).1) ((mz (St.uint ⟨0, l.drop 4, false⟩).1).d, (St.uint ⟨0, l.drop 4, false⟩).2)).2.e (takeF l.length (Fl (St.uint ⟨0, l.drop 4, false⟩).1) ((mz (St.uint ⟨0, l.drop 4, false⟩).1).d, (St.uint ⟨0, l.drop 4, false⟩).2)).2.l = 0 ∧
      MayM (takeF l.length (Fl (St.uint ⟨0, l.drop 4, false⟩).1) ((mz (St.uint ⟨0, l.drop 4, false⟩).1).d, (St.uint ⟨0, l.drop 4, false⟩).2)).1
    then (0, (takeF l.length (Fl (St.uint ⟨0, l.drop 4, false⟩).1) ((mz (St.uint ⟨0, l.drop 4, false⟩).1).d, (St.uint ⟨0, l.drop 4, false⟩).2)).1) else (11, (mz 0).d)
  else (11, (mz 0).d)
/-- What bytes say. -/
def takeR (l : List UInt8) : Int × Md :=
  if l.length < 5 then (10, (mz 0).d) else if sum4 (l.drop 4) = l.take 4 then insR l else (12, (mz 0).d)
/-- What Take tells. -/
def TakeM (w : World) (l : List UInt8) (e : Ending) (w' : World) : Prop :=
  ∃ m, e = .returned (.tuple #[msgV m, .int .i64 (takeR l).1]) ∧ m.d = (takeR l).2 ∧ NewM w.heap.size w' m ∧ WfM m ∧ Mod [] w w'
theorem wf_mz : WfM (mz 0) := by
  refine ⟨?_, Nat.zero_le _, by simp [mz], Nat.zero_le _, by simp [mz], ?_⟩
  · unfold WfH mz; dsimp only; omega
  · unfold WfB mz; dsimp only; simp
/-- Nothing, and an error. -/
theorem TakeM.no {w w' : World} {l : List UInt8} {n : Int} (m : Mod [] w w') (h : takeR l = (n, (mz 0).d)) : TakeM w l (.returned (.tuple #[.agg #[.int .u8 0, .int .u64 0, .int .i64 0, .int .u64 0, .int .u64 0, .int .u64 0, .slice none 0 0, .slice none 0 0, .slice none 0 0], .int .i64 n])) w' :=
  ⟨mz 0, by rw [h]; rfl, by rw [h], NewM.mz _ _ _, wf_mz, m⟩

set_option maxRecDepth 100000 in
set_option maxHeartbeats 16000000 in
theorem mtake_any (ao : Option Addr) (len cap : Nat) (l : List UInt8) (w : World) (hl : l.length = len) (hlc : len ≤ cap) (hc : cap ≤ 9223372036854775807) (hs : Sees w ao l) (hf : Flds w) (hT : TableAt w T0) :
    Calls Tryd.prog 20 #[.slice ao len cap] w (TakeM w l) := by
  obtain ⟨w1, hw1, A1, m1⟩ : ∃ x, w.alloc (.cells #[.int .u8 0, .int .u64 0, .int .i64 0, .int .u64 0, .int .u64 0, .int .u64 0, .slice none 0 0, .slice none 0 0, .slice none 0 0] 29) = x ∧
    x.heap[w.heap.size]? = some (.cells #[.int .u8 0, .int .u64 0, .int .i64 0, .int .u64 0, .int .u64 0, .int .u64 0, .slice none 0 0, .slice none 0 0, .slice none 0 0] 29 (0, 0)) ∧ Mod [] w x := ⟨_, rfl, heap_alloc_new w _, Mod.alloc _ _ _⟩
  have M1 := Lib.hid m1
  have HA1 := Lib.hid A1
  by_cases h5 : len < 5
  case pos =>
    have D : decide ((len : Int) < 5) = true := decide_eq_true (by omega)
    have HR : Hid (takeR l = (10, (mz 0).d)) := Lib.hid (if_pos (by omega))
    clear hs hf hT hl m1 A1
    have z0 := cell_of_block (i := 0) HA1.out
    have y0 := free_of_block (i := 0) HA1.out
    have z1 := cell_of_block (i := 1) HA1.out
    have y1 := free_of_block (i := 1) HA1.out
    have z2 := cell_of_block (i := 2) HA1.out
    have y2 := free_of_block (i := 2) HA1.out
    have z3 := cell_of_block (i := 3) HA1.out
    have y3 := free_of_block (i := 3) HA1.out
    have z4 := cell_of_block (i := 4) HA1.out
    have y4 := free_of_block (i := 4) HA1.out
    have z5 := cell_of_block (i := 5) HA1.out
    have y5 := free_of_block (i := 5) HA1.out
    have z6 := cell_of_block (i := 6) HA1.out
    have y6 := free_of_block (i := 6) HA1.out
    have z7 := cell_of_block (i := 7) HA1.out
    have y7 := free_of_block (i := 7) HA1.out
    have z8 := cell_of_block (i := 8) HA1.out
    have y8 := free_of_block (i := 8) HA1.out
    simp only [List.getElem?_toArray, List.getElem?_cons_succ, List.getElem?_cons_zero] at z0 z1 z2 z3 z4 z5 z6 z7 z8
    go_enter Tryd.func20, Tryd.ntmps20
    go_wp2_with fail
    ((try simp only [Exit.inBlock, Exit.then]); refine bodyPost_ret (by simp [results, Tryd.results20, go_sem, *]; try rfl) rfl ?_)
    exact TakeM.no (M1.out.trans (T := [w.heap.size]) (((((((((Mod.setCell _ _ _ (by simp)).trans' (Mod.setCell _ _ _ (by simp))).trans' (Mod.setCell _ _ _ (by simp))).trans' (Mod.setCell _ _ _ (by simp))).trans' (Mod.setCell _ _ _ (by simp))).trans' (Mod.setCell _ _ _ (by simp))).trans' (Mod.setCell _ _ _ (by simp))).trans' (Mod.setCell _ _ _ (by simp))).trans' (Mod.setCell _ _ _ (by simp))) (by simp)) HR.out
  case neg =>
  obtain ⟨b, off, rfl, -⟩ := hs 0 (by omega)
  have hs4 : Sees w (some ⟨b, off + 4, none⟩) (l.drop 4) := by
    intro j hj
    have hj' : 4 + j < l.length := by simp only [List.length_drop] at hj; omega
    obtain ⟨b', off', e, h2⟩ := hs (4 + j) hj'
    cases e
    exact ⟨b, off + 4, rfl, by rw [List.getElem_drop, Nat.add_assoc]; exact h2⟩
  have D : decide ((len : Int) < 5) = false := decide_eq_false (by omega)
  have hdl : (l.drop 4).length = len - 4 := by rw [List.length_drop, hl]
  have htl : (l.take 4).length = 4 := by rw [List.length_take, hl]; omega
  obtain ⟨q, hq⟩ : ∃ q, decide (sum4 (l.drop 4) = l.take 4) = q := ⟨_, rfl⟩
  have HTR : Hid (takeR l = if q = true then insR l else (12, (mz 0).d)) := Lib.hid (by
    unfold takeR
    rw [if_neg (by omega)]
    cases q
    · rw [if_neg (of_decide_eq_false hq), if_neg (by decide)]
    · rw [if_pos (of_decide_eq_true hq), if_pos rfl])
  have HQ := Lib.hid hq
  have HS := Lib.hid (hs.take 4)
  have HS4 := Lib.hid hs4
  have HF := Lib.hid hf
  have HT := Lib.hid hT
  have HDL := Lib.hid hdl
  have HTL := Lib.hid htl
  have HL := Lib.hid hl
  clear hs hf hT hl m1 A1 hs4 hq hdl htl
  go_enter Tryd.func20, Tryd.ntmps20
  go_upto_region 3 with (fail)
  have HI4 : Hid ((4 : Int) ≤ (len : Int)) := Lib.hid (by omega)
  have HI5 : Hid ((4 : Int) ≤ (cap : Int)) := Lib.hid (by omega)
  have HC4 : Hid (¬ cap = 4) := Lib.hid (by omega)
  clear hw1
  refine rest_start [] 8 #[false, false, false, false, false, false, false, false] rfl (by kernel_rfl) (by kernel_rfl) ?_
  intro w3 m3
  have M3 := Lib.hid (M1.out.trans' m3)
  have HA3 := Lib.hid (m3.get HA1.out List.not_mem_nil)
  clear m3 M1 HA1
  refine rest_got (i := 0) (v := ?v1) rfl (by kernel_rfl) (by kernel_rfl) (by kernel_rfl) (fun _ _ _ h => h) (by rfl) ?y1 ?r1
  case y1 => (intro w9q hSwq; clear hSwq; go_simp; with_reducible rfl)
  try simp only [Act.put, List.setIfInBounds_toArray, List.set_cons_zero, List.set_cons_succ]
  refine rest_got (i := 1) (v := ?v2) rfl (by kernel_rfl) (by kernel_rfl) (by kernel_rfl) (fun _ _ _ h => h) (by rfl) ?y2 ?r2
  case y2 => ((intro w9' hm9'; clear hm9'; go_simp; (first | rw [if_pos HI4.out, if_neg HC4.out] | rw [if_pos HI5.out])))
  try simp only [Act.put, List.setIfInBounds_toArray, List.set_cons_zero, List.set_cons_succ]
  refine rest_got (i := 3) (v := ?v3) rfl (by kernel_rfl) (by kernel_rfl) (by kernel_rfl) (fun _ _ _ h => h) (by rfl) ?y3 ?r3
  case y3 => (intro w9q hSwq; clear hSwq; go_simp; with_reducible rfl)
  try simp only [Act.put, List.setIfInBounds_toArray, List.set_cons_zero, List.set_cons_succ]
  refine rest_got (i := 4) (v := ?v4) rfl (by kernel_rfl) (by kernel_rfl) (by kernel_rfl) (fun _ _ _ h => h) (by rfl) ?y4 ?r4
  case y4 => ((intro w9' hm9'; clear hm9'; go_simp; (first | rw [if_pos HI4.out, if_neg HC4.out] | rw [if_pos HI5.out])))
  try simp only [Act.put, List.setIfInBounds_toArray, List.set_cons_zero, List.set_cons_succ]
  refine rest_one (i := 2) (by kernel_rfl) rfl (by rfl) ?_
  go_wp2_with fail
  refine (msum_any (some ⟨b, off + 4, none⟩) (len - 4) (cap - 4) (l.drop 4) w3 HDL.out (by omega) (HS4.out.mod0 M3.out) (HT.out.mod0 M3.out)).mono ?_
  rintro e w4 ⟨a4, n4, c4, rfl, k4, o4, m4, s4⟩
  have h4 : n4 = 4 := by rw [← k4]; rfl
  subst h4
  have O4 := Lib.hid o4
  have M4 := Lib.hid (M3.out.trans' m4)
  have HA4 := Lib.hid (m4.get HA3.out (by simp [blk]))
  go_wp2_with fail
  refine back_to (K1 := []) m4 (by simp) ?_
  clear k4 o4 m4 s4 M3 HA3
  
  refine rest_one (i := 5) (by kernel_rfl) rfl (by rfl) ?_
  go_wp2_with fail
  refine (bequal_any a4 (some ⟨b, off, none⟩) 4 4 c4 cap (sum4 (l.drop 4)) (l.take 4) w4 rfl HTL.out O4.out.sees (HS.out.mod0 M4.out)).mono ?_
  rintro e w4' ⟨rfl, rfl⟩
  rw [HQ.out]
  go_wp2_with fail
  refine back_to (K1 := []) (Mod.refl _ _) (by simp) ?_
  refine rest_got (i := 6) (v := ?v5) rfl (by kernel_rfl) (by kernel_rfl) (by kernel_rfl) (fun _ _ _ h => h) (by rfl) ?y5 ?r5
  case y5 => (intro w9q hSwq; clear hSwq; go_simp; with_reducible rfl)
  try simp only [Act.put, List.setIfInBounds_toArray, List.set_cons_zero, List.set_cons_succ]
  refine rest_got (i := 7) (v := ?v6) rfl (by kernel_rfl) (by kernel_rfl) (by kernel_rfl) (fun _ _ _ h => h) (by rfl) ?y6 ?r6
  case y6 => (intro w9q hSwq; clear hSwq; go_simp; with_reducible rfl)
  try simp only [Act.put, List.setIfInBounds_toArray, List.set_cons_zero, List.set_cons_succ]
  refine rest_done (by kernel_rfl) ?_ _
  clear O4
  cases q
  case false =>
    have HR : Hid (takeR l = (12, (mz 0).d)) := Lib.hid (by rw [HTR.out, if_neg (by decide)])
    have z0 := cell_of_block (i := 0) HA4.out
    have y0 := free_of_block (i := 0) HA4.out
    have z1 := cell_of_block (i := 1) HA4.out
    have y1 := free_of_block (i := 1) HA4.out
    have z2 := cell_of_block (i := 2) HA4.out
    have y2 := free_of_block (i := 2) HA4.out
    have z3 := cell_of_block (i := 3) HA4.out
    have y3 := free_of_block (i := 3) HA4.out
    have z4 := cell_of_block (i := 4) HA4.out
    have y4 := free_of_block (i := 4) HA4.out
    have z5 := cell_of_block (i := 5) HA4.out
    have y5 := free_of_block (i := 5) HA4.out
    have z6 := cell_of_block (i := 6) HA4.out
    have y6 := free_of_block (i := 6) HA4.out
    have z7 := cell_of_block (i := 7) HA4.out
    have y7 := free_of_block (i := 7) HA4.out
    have z8 := cell_of_block (i := 8) HA4.out
    have y8 := free_of_block (i := 8) HA4.out
    simp only [List.getElem?_toArray, List.getElem?_cons_succ, List.getElem?_cons_zero] at z0 z1 z2 z3 z4 z5 z6 z7 z8
    clear HTR
    go_wp2_with fail
    ((try simp only [Exit.inBlock, Exit.then]); refine bodyPost_ret (by simp [results, Tryd.results20, go_sem, *]; try rfl) rfl ?_)
    exact TakeM.no (M4.out.trans (T := [w.heap.size]) (((((((((Mod.setCell _ _ _ (by simp)).trans' (Mod.setCell _ _ _ (by simp))).trans' (Mod.setCell _ _ _ (by simp))).trans' (Mod.setCell _ _ _ (by simp))).trans' (Mod.setCell _ _ _ (by simp))).trans' (Mod.setCell _ _ _ (by simp))).trans' (Mod.setCell _ _ _ (by simp))).trans' (Mod.setCell _ _ _ (by simp))).trans' (Mod.setCell _ _ _ (by simp))) (by simp)) HR.out
  have HTR2 : Hid (takeR l = insR l) := Lib.hid (by rw [HTR.out, if_pos rfl])
  clear HTR HQ HT
  go_wp2_with fail
  refine (newReader_any (some ⟨b, off + 4, none⟩) (len - 4) (cap - 4) (l.drop 4) (len : Int) w4' HDL.out (by omega) (by omega) (HS4.out.mod0 M4.out)).mono ?_
  rintro e w5 ⟨g, rfl, r5, m5, hg5⟩
  have M5 := Lib.hid (M4.out.trans' m5)
  have HA5 := Lib.hid (m5.get HA4.out List.not_mem_nil)
  have hgw : w.heap.size < g := by have := lt_of_block HA4.out; omega
  have m6 := Mod.alloc [] w5 (.cells #[.pointer (some ⟨g, 0, none⟩), .bool false] 75)
  have hb6 := heap_alloc_new w5 (.cells #[.pointer (some ⟨g, 0, none⟩), .bool false] 75)
  have hg6 := r5.lt
  have hlt5 : ∀ k, k ∈ blkOf (some ⟨b, off + 4, none⟩) (l.drop 4) → k < w5.heap.size := fun k hk => by
    have := (HS4.out).ltOf k hk
    have := M5.out.size
    omega
  obtain ⟨bs, hbs⟩ : ∃ x, blkOf (some ⟨b, off + 4, none⟩) (l.drop 4) = x := ⟨_, rfl⟩
  rw [hbs] at r5 hlt5
  obtain ⟨tk, htk⟩ : ∃ x, w5.heap.size = x := ⟨_, rfl⟩
  obtain ⟨w6, hw6⟩ : ∃ x, w5.alloc (.cells #[.pointer (some ⟨g, 0, none⟩), .bool false] 75) = x := ⟨_, rfl⟩
  have hz6 : w6.heap.size = tk + 1 := by rw [← hw6, ← htk]; simp
  rw [hw6] at m6 hb6
  rw [htk] at hb6 hg6 hlt5
  have T6 : Hid (TkS w6 tk g bs (len : Int) ⟨0, l.drop 4, false⟩) := Lib.hid ⟨r5.mod0 m6, hb6, by omega, fun hk => by have := hlt5 _ hk; omega, fun k hk => by have := hlt5 _ hk; omega⟩
  have M6 := Lib.hid (M5.out.trans' m6)
  have HA6 := Lib.hid (m6.get HA5.out List.not_mem_nil)
  have hgt : w.heap.size < tk := by omega
  obtain ⟨⟨kind, s1⟩, hu⟩ : ∃ x, St.uint ⟨0, l.drop 4, false⟩ = x := ⟨_, rfl⟩
  have hkl : kind < 18446744073709551616 := by have := uint_lt ⟨0, l.drop 4, false⟩; rw [hu] at this; exact this
  have HIN : Hid (takeR l = if Known kind then (if (takeF len (Fl kind) ((mz kind).d, s1)).2.bad = false ∧ doneR (takeF len (Fl kind) ((mz kind).d, s1)).2.e (takeF len (Fl kind) ((mz kind).d, s1)).2.l = 0 ∧ MayM (takeF len (Fl kind) ((mz kind).d, s1)).1 then (0, (takeF len (Fl kind) ((mz kind).d, s1)).1) else (11, (mz 0).d)) else (11, (mz 0).d)) := Lib.hid (by
    rw [HTR2.out]
    unfold insR
    rw [hu, HL.out])
  have HU := Lib.hid (ruint_any g bs 0 (l.drop 4) (len : Int) w6 T6.out.rd)
  have H1 : Hid ((uintE 10 0 0 0 (l.drop 4)).1 = kind ∧ (⟨(uintE 10 0 0 0 (l.drop 4)).2.1, (uintE 10 0 0 0 (l.drop 4)).2.2, false⟩ : St) = s1) := Lib.hid ⟨congrArg Prod.fst hu, congrArg Prod.snd hu⟩
  have t0 := cell_of_block (i := 0) hb6
  simp only [List.getElem?_toArray, List.getElem?_cons_zero] at t0
  clear r5 m5 m6 hb6 hlt5 hbs hu HTR2 HA4 HA5 M4 M5
  go_wp2_with fail
  refine HU.out.mono ?_
  rintro e w7 ⟨rfl, r7, m7⟩
  have T7 := T6.out.read r7 m7
  rw [H1.out.2] at T7
  rw [H1.out.1]
  have HT7 := Lib.hid T7
  have hz7g := T7.tlt
  have M7 := Lib.hid (M6.out.trans m7 (by simp; omega))
  have HA7 := Lib.hid (m7.get HA6.out (by simp; omega))
  have hz7 : w.heap.size < w7.heap.size := by have := m7.size; omega
  clear T7 r7 m7 HU H1 T6 M6 HA6 t0 hw6
  have HK := Lib.hid (known_any kind w7 (HF.out.mod0 M7.out))
  go_wp2_with fail
  refine HK.out.mono ?_
  rintro e w7' ⟨rfl, he⟩
  subst he
  obtain ⟨qk, hqk⟩ : ∃ q, decide (Known kind) = q := ⟨_, rfl⟩
  rw [hqk]
  cases qk
  case false =>
    have HR : Hid (takeR l = (11, (mz 0).d)) := Lib.hid (by rw [HIN.out, if_neg (of_decide_eq_false hqk)])
    clear hqk HK HIN
    have z0 := cell_of_block (i := 0) HA7.out
    have y0 := free_of_block (i := 0) HA7.out
    have z1 := cell_of_block (i := 1) HA7.out
    have y1 := free_of_block (i := 1) HA7.out
    have z2 := cell_of_block (i := 2) HA7.out
    have y2 := free_of_block (i := 2) HA7.out
    have z3 := cell_of_block (i := 3) HA7.out
    have y3 := free_of_block (i := 3) HA7.out
    have z4 := cell_of_block (i := 4) HA7.out
    have y4 := free_of_block (i := 4) HA7.out
    have z5 := cell_of_block (i := 5) HA7.out
    have y5 := free_of_block (i := 5) HA7.out
    have z6 := cell_of_block (i := 6) HA7.out
    have y6 := free_of_block (i := 6) HA7.out
    have z7 := cell_of_block (i := 7) HA7.out
    have y7 := free_of_block (i := 7) HA7.out
    have z8 := cell_of_block (i := 8) HA7.out
    have y8 := free_of_block (i := 8) HA7.out
    simp only [List.getElem?_toArray, List.getElem?_cons_succ, List.getElem?_cons_zero] at z0 z1 z2 z3 z4 z5 z6 z7 z8
    go_wp2_with fail
    ((try simp only [Exit.inBlock, Exit.then]); refine bodyPost_ret (by simp [results, Tryd.results20, go_sem, *]; try rfl) rfl ?_)
    exact TakeM.no (M7.out.trans (T := [w.heap.size]) (((((((((Mod.setCell _ _ _ (by simp)).trans' (Mod.setCell _ _ _ (by simp))).trans' (Mod.setCell _ _ _ (by simp))).trans' (Mod.setCell _ _ _ (by simp))).trans' (Mod.setCell _ _ _ (by simp))).trans' (Mod.setCell _ _ _ (by simp))).trans' (Mod.setCell _ _ _ (by simp))).trans' (Mod.setCell _ _ _ (by simp))).trans' (Mod.setCell _ _ _ (by simp))) (by simp)) HR.out
  have hkn := of_decide_eq_true hqk
  have HIN2 : Hid (takeR l = if (takeF len (Fl kind) ((mz kind).d, s1)).2.bad = false ∧ doneR (takeF len (Fl kind) ((mz kind).d, s1)).2.e (takeF len (Fl kind) ((mz kind).d, s1)).2.l = 0 ∧ MayM (takeF len (Fl kind) ((mz kind).d, s1)).1 then (0, (takeF len (Fl kind) ((mz kind).d, s1)).1) else (11, (mz 0).d)) := Lib.hid (by rw [HIN.out, if_pos hkn])
  have e8 : IntKind.u8.wrap (kind : Int) = (kind : Int) := IntWalk.u8_in _ (by have := hkn.2; omega)
  have HC := Lib.hid (ttake_any tk g bs (len : Int) s1 kind w7' HT7.out (by omega) (by omega) hkn (HF.out.mod0 M7.out))
  have HKN := Lib.hid hkn
  clear hqk HK HIN hkn
  go_wp2_with fail
  refine HC.out.mono ?_
  rintro e w8 ⟨m, s2, rfl, hmk, htf, nm8, t8, m8⟩
  obtain ⟨rr, hrr⟩ : ∃ x, takeF (len : Int) (Fl kind) ((mz kind).d, s1) = x := ⟨_, rfl⟩
  rw [hrr] at htf HIN2
  subst htf
  have hnum : NumD m.d := by
    have := takeF_num (len : Int) (Fl kind) ((mz kind).d, s1) (by
      refine ⟨?_, by simp [mz, Mm.d, dV]⟩
      have := HKN.out.2
      unfold WfH mz Mm.d
      dsimp only
      omega)
    rw [hrr] at this
    exact this
  have HWF := Lib.hid (nm8.wf hnum)
  have HMD := Lib.hid hmk
  have NM8 := Lib.hid nm8
  have T8 := Lib.hid t8
  have M8 := Lib.hid (M7.out.trans m8 (by simp; omega))
  have HA8 := Lib.hid (m8.get HA7.out (by simp; omega))
  have hz8 : tk < w8.heap.size ∧ g < w8.heap.size := t8.tlt
  have hz78 := m8.size
  obtain ⟨w9, hw9, hb9, m9⟩ : ∃ x, w8.alloc (.cells #[.int .u8 0, .int .u64 0, .int .i64 0, .int .u64 0, .int .u64 0, .int .u64 0, .slice none 0 0, .slice none 0 0, .slice none 0 0] 29) = x ∧
    x.heap[w8.heap.size]? = some (.cells #[.int .u8 0, .int .u64 0, .int .i64 0, .int .u64 0, .int .u64 0, .int .u64 0, .slice none 0 0, .slice none 0 0, .slice none 0 0] 29 (0, 0)) ∧ Mod [] w8 x := ⟨_, rfl, heap_alloc_new w8 _, Mod.alloc _ _ _⟩
  have z0 := cell_of_block (i := 0) hb9
  have y0 := free_of_block (i := 0) hb9
  have z1 := cell_of_block (i := 1) hb9
  have y1 := free_of_block (i := 1) hb9
  have z2 := cell_of_block (i := 2) hb9
  have y2 := free_of_block (i := 2) hb9
  have z3 := cell_of_block (i := 3) hb9
  have y3 := free_of_block (i := 3) hb9
  have z4 := cell_of_block (i := 4) hb9
  have y4 := free_of_block (i := 4) hb9
  have z5 := cell_of_block (i := 5) hb9
  have y5 := free_of_block (i := 5) hb9
  have z6 := cell_of_block (i := 6) hb9
  have y6 := free_of_block (i := 6) hb9
  have z7 := cell_of_block (i := 7) hb9
  have y7 := free_of_block (i := 7) hb9
  have z8 := cell_of_block (i := 8) hb9
  have y8 := free_of_block (i := 8) hb9
  simp only [List.getElem?_toArray, List.getElem?_cons_succ, List.getElem?_cons_zero] at z0 z1 z2 z3 z4 z5 z6 z7 z8
  obtain ⟨⟨mkind, bn, br, first, last, commit⟩, vo, vc, votes, so, sc, batches, pl, po, pc⟩ := m
  dsimp only at HMD
  obtain ⟨mm, hmm⟩ : ∃ x, (⟨⟨mkind, bn, br, first, last, commit⟩, vo, vc, votes, so, sc, batches, pl, po, pc⟩ : Mm) = x := ⟨_, rfl⟩
  have HMM := Lib.hid hmm
  have HV : Hid (mC (.int .u8 (kind : Int)) mm = #[.int .u8 (kind : Int), .int .u64 (bn : Int), .int .i64 br, .int .u64 (first : Int), .int .u64 (last : Int), .int .u64 (commit : Int), .slice vo votes.length vc, .slice so batches.length sc, .slice po pl.length pc]) := Lib.hid (by rw [← hmm]; rfl)
  have HVM : Hid (msgV mm = .agg (mC (.int .u8 (kind : Int)) mm)) := Lib.hid (by rw [← hmm]; unfold msgV; dsimp only; rw [HMD.out])
  rw [hmm] at HIN2 HWF NM8 ⊢
  rw [HV.out]
  clear nm8 t8 m8 hnum hmk hrr HC HKN hmm HT7 HA7
  go_upto_region 10 with (fail)
  obtain ⟨wa, hwa⟩ : ∃ x, (((((((((w9.setCell ⟨w8.heap.size, 0, none⟩ (.int .u8 (kind : Int))).setCell ⟨w8.heap.size, 1, none⟩ (.int .u64 (bn : Int))).setCell ⟨w8.heap.size, 2, none⟩ (.int .i64 br)).setCell ⟨w8.heap.size, 3, none⟩ (.int .u64 (first : Int))).setCell ⟨w8.heap.size, 4, none⟩ (.int .u64 (last : Int))).setCell ⟨w8.heap.size, 5, none⟩ (.int .u64 (commit : Int))).setCell ⟨w8.heap.size, 6, none⟩ (.slice vo votes.length vc)).setCell ⟨w8.heap.size, 7, none⟩ (.slice so batches.length sc)).setCell ⟨w8.heap.size, 8, none⟩ (.slice po pl.length pc)) = x := ⟨_, rfl⟩
  rw [hwa]
  have hba : wa.heap[w8.heap.size]? = some (.cells #[.int .u8 (kind : Int), .int .u64 (bn : Int), .int .i64 br, .int .u64 (first : Int), .int .u64 (last : Int), .int .u64 (commit : Int), .slice vo votes.length vc, .slice so batches.length sc, .slice po pl.length pc] 29 (0, 0)) := by
    rw [← hwa]
    have h := (heap_setCell_same (i := 8) (heap_setCell_same (i := 7) (heap_setCell_same (i := 6) (heap_setCell_same (i := 5) (heap_setCell_same (i := 4) (heap_setCell_same (i := 3) (heap_setCell_same (i := 2) (heap_setCell_same (i := 1) (heap_setCell_same (i := 0) hb9 (.int .u8 (kind : Int))) (.int .u64 (bn : Int))) (.int .i64 br)) (.int .u64 (first : Int))) (.int .u64 (last : Int))) (.int .u64 (commit : Int))) (.slice vo votes.length vc)) (.slice so batches.length sc)) (.slice po pl.length pc))
    simp only [List.setIfInBounds_toArray, List.set_cons_zero, List.set_cons_succ] at h
    exact h
  have ma : Mod [] w8 wa := by
    rw [← hwa]
    exact m9.trans (T := [w8.heap.size]) (((((((((Mod.setCell _ _ _ (by simp)).trans' (Mod.setCell _ _ _ (by simp))).trans' (Mod.setCell _ _ _ (by simp))).trans' (Mod.setCell _ _ _ (by simp))).trans' (Mod.setCell _ _ _ (by simp))).trans' (Mod.setCell _ _ _ (by simp))).trans' (Mod.setCell _ _ _ (by simp))).trans' (Mod.setCell _ _ _ (by simp))).trans' (Mod.setCell _ _ _ (by simp))) (by simp)
  have HBA := Lib.hid hba
  have TA := Lib.hid (T8.out.mod0 ma)
  have NMA := Lib.hid (NM8.out.mod0 ma)
  have MA := Lib.hid (M8.out.trans' ma)
  have HAA := Lib.hid (ma.get HA8.out List.not_mem_nil)
  have hza := ma.size
  clear z0 z1 z2 z3 z4 z5 z6 z7 z8 y0 y1 y2 y3 y4 y5 y6 y7 y8 hb9 m9 hw9 hwa ma hba T8 NM8 M8 HA8
  obtain ⟨e2, l2, bad⟩ := s2
  dsimp only at HIN2
  have t0 := cell_of_block (i := 0) TA.out.at0
  have t1 := cell_of_block (i := 1) TA.out.at0
  simp only [List.getElem?_toArray, List.getElem?_cons_succ, List.getElem?_cons_zero] at t0 t1
  have d0 := cell_of_block (i := 0) HBA.out
  have d1 := cell_of_block (i := 1) HBA.out
  have d2 := cell_of_block (i := 2) HBA.out
  have d3 := cell_of_block (i := 3) HBA.out
  have d4 := cell_of_block (i := 4) HBA.out
  have d5 := cell_of_block (i := 5) HBA.out
  have d6 := cell_of_block (i := 6) HBA.out
  have d7 := cell_of_block (i := 7) HBA.out
  have d8 := cell_of_block (i := 8) HBA.out
  simp only [List.getElem?_toArray, List.getElem?_cons_succ, List.getElem?_cons_zero] at d0 d1 d2 d3 d4 d5 d6 d7 d8
  cases bad
  case true =>
    have HR : Hid (takeR l = (11, (mz 0).d)) := Lib.hid (by rw [HIN2.out, if_neg (by simp)])
    clear HIN2
    have z0 := cell_of_block (i := 0) HAA.out
    have y0 := free_of_block (i := 0) HAA.out
    have z1 := cell_of_block (i := 1) HAA.out
    have y1 := free_of_block (i := 1) HAA.out
    have z2 := cell_of_block (i := 2) HAA.out
    have y2 := free_of_block (i := 2) HAA.out
    have z3 := cell_of_block (i := 3) HAA.out
    have y3 := free_of_block (i := 3) HAA.out
    have z4 := cell_of_block (i := 4) HAA.out
    have y4 := free_of_block (i := 4) HAA.out
    have z5 := cell_of_block (i := 5) HAA.out
    have y5 := free_of_block (i := 5) HAA.out
    have z6 := cell_of_block (i := 6) HAA.out
    have y6 := free_of_block (i := 6) HAA.out
    have z7 := cell_of_block (i := 7) HAA.out
    have y7 := free_of_block (i := 7) HAA.out
    have z8 := cell_of_block (i := 8) HAA.out
    have y8 := free_of_block (i := 8) HAA.out
    simp only [List.getElem?_toArray, List.getElem?_cons_succ, List.getElem?_cons_zero] at z0 z1 z2 z3 z4 z5 z6 z7 z8
    go_wp2_with fail
    ((try simp only [Exit.inBlock, Exit.then]); refine bodyPost_ret (by simp [results, Tryd.results20, go_sem, *]; try rfl) rfl ?_)
    exact TakeM.no (MA.out.trans (T := [w.heap.size]) (((((((((Mod.setCell _ _ _ (by simp)).trans' (Mod.setCell _ _ _ (by simp))).trans' (Mod.setCell _ _ _ (by simp))).trans' (Mod.setCell _ _ _ (by simp))).trans' (Mod.setCell _ _ _ (by simp))).trans' (Mod.setCell _ _ _ (by simp))).trans' (Mod.setCell _ _ _ (by simp))).trans' (Mod.setCell _ _ _ (by simp))).trans' (Mod.setCell _ _ _ (by simp))) (by simp)) HR.out
  have HDN := Lib.hid (rdone_any g bs e2 l2 (len : Int) wa TA.out.rd)
  obtain ⟨dn, hdn⟩ : ∃ x, doneR e2 l2 = x := ⟨_, rfl⟩
  rw [hdn] at HIN2 HDN
  clear hdn
  go_wp2_with fail
  refine HDN.out.mono ?_
  rintro e wd ⟨rfl, -, md⟩
  have MD := Lib.hid (MA.out.trans md (by simp; omega))
  have NMD := Lib.hid (NMA.out.off md (by simp; omega))
  have HAD := Lib.hid (md.get HAA.out (by simp; omega))
  have HBD := Lib.hid (md.get HBA.out (by simp; omega))
  have hzd := md.size
  clear md HDN TA t0 t1 NMA MA HAA HBA d0 d1 d2 d3 d4 d5 d6 d7 d8
  have d0 := cell_of_block (i := 0) HBD.out
  have d1 := cell_of_block (i := 1) HBD.out
  have d2 := cell_of_block (i := 2) HBD.out
  have d3 := cell_of_block (i := 3) HBD.out
  have d4 := cell_of_block (i := 4) HBD.out
  have d5 := cell_of_block (i := 5) HBD.out
  have d6 := cell_of_block (i := 6) HBD.out
  have d7 := cell_of_block (i := 7) HBD.out
  have d8 := cell_of_block (i := 8) HBD.out
  simp only [List.getElem?_toArray, List.getElem?_cons_succ, List.getElem?_cons_zero] at d0 d1 d2 d3 d4 d5 d6 d7 d8
  by_cases hd0 : dn = 0
  case neg =>
    have HR : Hid (takeR l = (11, (mz 0).d)) := Lib.hid (by rw [HIN2.out, if_neg (by simp [hd0])])
    have Dd : (dn != 0) = true := by simp [hd0]
    clear HIN2 hd0
    have z0 := cell_of_block (i := 0) HAD.out
    have y0 := free_of_block (i := 0) HAD.out
    have z1 := cell_of_block (i := 1) HAD.out
    have y1 := free_of_block (i := 1) HAD.out
    have z2 := cell_of_block (i := 2) HAD.out
    have y2 := free_of_block (i := 2) HAD.out
    have z3 := cell_of_block (i := 3) HAD.out
    have y3 := free_of_block (i := 3) HAD.out
    have z4 := cell_of_block (i := 4) HAD.out
    have y4 := free_of_block (i := 4) HAD.out
    have z5 := cell_of_block (i := 5) HAD.out
    have y5 := free_of_block (i := 5) HAD.out
    have z6 := cell_of_block (i := 6) HAD.out
    have y6 := free_of_block (i := 6) HAD.out
    have z7 := cell_of_block (i := 7) HAD.out
    have y7 := free_of_block (i := 7) HAD.out
    have z8 := cell_of_block (i := 8) HAD.out
    have y8 := free_of_block (i := 8) HAD.out
    simp only [List.getElem?_toArray, List.getElem?_cons_succ, List.getElem?_cons_zero] at z0 z1 z2 z3 z4 z5 z6 z7 z8
    go_wp2_with fail
    ((try simp only [Exit.inBlock, Exit.then]); refine bodyPost_ret (by simp [results, Tryd.results20, go_sem, *]; try rfl) rfl ?_)
    exact TakeM.no (MD.out.trans (T := [w.heap.size]) (((((((((Mod.setCell _ _ _ (by simp)).trans' (Mod.setCell _ _ _ (by simp))).trans' (Mod.setCell _ _ _ (by simp))).trans' (Mod.setCell _ _ _ (by simp))).trans' (Mod.setCell _ _ _ (by simp))).trans' (Mod.setCell _ _ _ (by simp))).trans' (Mod.setCell _ _ _ (by simp))).trans' (Mod.setCell _ _ _ (by simp))).trans' (Mod.setCell _ _ _ (by simp))) (by simp)) HR.out
  subst hd0
  have HCK := Lib.hid (check_any mm wd NMD.out.sees HWF.out (HF.out.mod0 MD.out))
  rw [HVM.out, HV.out] at HCK
  obtain ⟨q2, hq2⟩ : ∃ q, decide (MayM mm.d) = q := ⟨_, rfl⟩
  have hck : checkE mm.d = if q2 = true then 0 else 1 := by
    unfold checkE
    cases q2
    · rw [if_neg (of_decide_eq_false hq2), if_neg (by decide)]
    · rw [if_pos (of_decide_eq_true hq2), if_pos rfl]
  rw [hck] at HCK
  clear hck
  cases q2
  case false =>
    have HR : Hid (takeR l = (11, (mz 0).d)) := Lib.hid (by rw [HIN2.out, if_neg (fun h => (of_decide_eq_false hq2) h.2.2)])
    clear HIN2 hq2
    rw [if_neg (by decide)] at HCK
    go_wp2_with fail
    refine HCK.out.mono ?_
    rintro e we ⟨rfl, me⟩
    have ME := Lib.hid (MD.out.trans' me)
    have HAE := Lib.hid (me.get HAD.out List.not_mem_nil)
    clear me HCK
    have z0 := cell_of_block (i := 0) HAE.out
    have y0 := free_of_block (i := 0) HAE.out
    have z1 := cell_of_block (i := 1) HAE.out
    have y1 := free_of_block (i := 1) HAE.out
    have z2 := cell_of_block (i := 2) HAE.out
    have y2 := free_of_block (i := 2) HAE.out
    have z3 := cell_of_block (i := 3) HAE.out
    have y3 := free_of_block (i := 3) HAE.out
    have z4 := cell_of_block (i := 4) HAE.out
    have y4 := free_of_block (i := 4) HAE.out
    have z5 := cell_of_block (i := 5) HAE.out
    have y5 := free_of_block (i := 5) HAE.out
    have z6 := cell_of_block (i := 6) HAE.out
    have y6 := free_of_block (i := 6) HAE.out
    have z7 := cell_of_block (i := 7) HAE.out
    have y7 := free_of_block (i := 7) HAE.out
    have z8 := cell_of_block (i := 8) HAE.out
    have y8 := free_of_block (i := 8) HAE.out
    simp only [List.getElem?_toArray, List.getElem?_cons_succ, List.getElem?_cons_zero] at z0 z1 z2 z3 z4 z5 z6 z7 z8
    go_wp2_with fail
    ((try simp only [Exit.inBlock, Exit.then]); refine bodyPost_ret (by simp [results, Tryd.results20, go_sem, *]; try rfl) rfl ?_)
    exact TakeM.no (ME.out.trans (T := [w.heap.size]) (((((((((Mod.setCell _ _ _ (by simp)).trans' (Mod.setCell _ _ _ (by simp))).trans' (Mod.setCell _ _ _ (by simp))).trans' (Mod.setCell _ _ _ (by simp))).trans' (Mod.setCell _ _ _ (by simp))).trans' (Mod.setCell _ _ _ (by simp))).trans' (Mod.setCell _ _ _ (by simp))).trans' (Mod.setCell _ _ _ (by simp))).trans' (Mod.setCell _ _ _ (by simp))) (by simp)) HR.out
  have HR : Hid (takeR l = (0, mm.d)) := Lib.hid (by rw [HIN2.out, if_pos (by simp [of_decide_eq_true hq2])])
  clear HIN2 hq2
  rw [if_pos rfl] at HCK
  go_wp2_with fail
  refine HCK.out.mono ?_
  rintro e we ⟨rfl, me⟩
  have ME := Lib.hid (MD.out.trans' me)
  have NME := Lib.hid (NMD.out.mod0 me)
  have HAE := Lib.hid (me.get HAD.out List.not_mem_nil)
  have HBE := Lib.hid (me.get HBD.out List.not_mem_nil)
  clear me HCK d0 d1 d2 d3 d4 d5 d6 d7 d8
  have z0 := cell_of_block (i := 0) HAE.out
  have y0 := free_of_block (i := 0) HAE.out
  have z1 := cell_of_block (i := 1) HAE.out
  have y1 := free_of_block (i := 1) HAE.out
  have z2 := cell_of_block (i := 2) HAE.out
  have y2 := free_of_block (i := 2) HAE.out
  have z3 := cell_of_block (i := 3) HAE.out
  have y3 := free_of_block (i := 3) HAE.out
  have z4 := cell_of_block (i := 4) HAE.out
  have y4 := free_of_block (i := 4) HAE.out
  have z5 := cell_of_block (i := 5) HAE.out
  have y5 := free_of_block (i := 5) HAE.out
  have z6 := cell_of_block (i := 6) HAE.out
  have y6 := free_of_block (i := 6) HAE.out
  have z7 := cell_of_block (i := 7) HAE.out
  have y7 := free_of_block (i := 7) HAE.out
  have z8 := cell_of_block (i := 8) HAE.out
  have y8 := free_of_block (i := 8) HAE.out
  simp only [List.getElem?_toArray, List.getElem?_cons_succ, List.getElem?_cons_zero] at z0 z1 z2 z3 z4 z5 z6 z7 z8
  have d0 := cell_of_block (i := 0) HBE.out
  have d1 := cell_of_block (i := 1) HBE.out
  have d2 := cell_of_block (i := 2) HBE.out
  have d3 := cell_of_block (i := 3) HBE.out
  have d4 := cell_of_block (i := 4) HBE.out
  have d5 := cell_of_block (i := 5) HBE.out
  have d6 := cell_of_block (i := 6) HBE.out
  have d7 := cell_of_block (i := 7) HBE.out
  have d8 := cell_of_block (i := 8) HBE.out
  simp only [List.getElem?_toArray, List.getElem?_cons_succ, List.getElem?_cons_zero] at d0 d1 d2 d3 d4 d5 d6 d7 d8
  go_wp2_with fail
  ((try simp only [Exit.inBlock, Exit.then]); refine bodyPost_ret (by simp [results, Tryd.results20, go_sem, *]; try rfl) rfl ?_)
  refine ⟨mm, by rw [HVM.out, HV.out, HR.out], by rw [HR.out], ?_, HWF.out, ME.out.trans (T := [w.heap.size]) (((((((((Mod.setCell _ _ _ (by simp)).trans' (Mod.setCell _ _ _ (by simp))).trans' (Mod.setCell _ _ _ (by simp))).trans' (Mod.setCell _ _ _ (by simp))).trans' (Mod.setCell _ _ _ (by simp))).trans' (Mod.setCell _ _ _ (by simp))).trans' (Mod.setCell _ _ _ (by simp))).trans' (Mod.setCell _ _ _ (by simp))).trans' (Mod.setCell _ _ _ (by simp))) (by simp)⟩
  exact (NME.out.off (S := [w.heap.size]) (((((((((Mod.setCell _ _ _ (by simp)).trans' (Mod.setCell _ _ _ (by simp))).trans' (Mod.setCell _ _ _ (by simp))).trans' (Mod.setCell _ _ _ (by simp))).trans' (Mod.setCell _ _ _ (by simp))).trans' (Mod.setCell _ _ _ (by simp))).trans' (Mod.setCell _ _ _ (by simp))).trans' (Mod.setCell _ _ _ (by simp))).trans' (Mod.setCell _ _ _ (by simp))) (by simp; omega)).grow (by omega)
end Go.Proofs.YtekdnljincbghaaDoor
