/- Groups: the walk. -/
import Derived.Test.YtkkjbeakmimmmaaHKs15
import Derived.Test.YtkkjbeakmimmmaaZ2
import Derived.Handy
namespace Go.Proofs.Ytkkjbeakmimmmaa
open Go Go.RowKit Go.Lib

theorem infoInts : (Try.prog.info? 25).map (fun i => (i.zero, i.size, i.bytes)) = some (some (.slice none 0 0), 1, 24) := by kernel_rfl
theorem made_grp (w : World) (base n : Nat) (hb : base ≤ w.heap.size) : Grp (w.alloc (.cells (madeCells (Value.cells (.slice none 0 0)) (n * 1)) 25)) base w.heap.size n (fun _ => (none, 0)) (fun _ => []) := by
  refine ⟨⟨_, heap_alloc_new w _, by rw [size_madeCells, Nat.mul_one], fun j hj => ?_⟩, fun j hj => ⟨OwnM.nil _ _ _, fun b hb => by simp [blk] at hb⟩⟩
  rw [Nat.mul_one]
  show (madeCells #[Value.slice none 0 0] n)[j]? = _
  rw [← Array.getElem?_toList, toList_madeCells_one, List.getElem?_replicate, if_pos hj]
  rfl
theorem wpl_makeG {w : World} {ops : Array Oper} {rest : List Oper} {a : Act} {Q : Exit → Act → World → Prop} {dst : Option Tmp} {ty : TypeId} {pos : String} {after : Array Edge} (l c : Operand) (n base : Nat) (L : Int) (hL : L = (n : Int)) (hl : a.eval l = .int .i64 L) (hc : a.eval c = .int .i64 L) (hn : n ≤ 1000000) (hb0 : base ≤ w.heap.size)
    (h : ∀ g w', Grp w' base g n (fun _ => (none, 0)) (fun _ => []) → Mod [] w w' → w.heap.size ≤ g → wpList Try.prog ops Q rest (a.put dst (.slice (some ⟨g, 0, none⟩) n n)) w') :
    wpList Try.prog ops Q (⟨dst, .makeSlice 34 l c, ty, pos, after, none⟩ :: rest) a w := by
  obtain ⟨i, hi, hz, hz1, hz2⟩ := info_parts infoInts
  refine wpList_plain rfl fun K hK' => ?_
  subst hL
  have hb' : (i.bytes : Int) * (n : Int) ≤ 281474976710656 := by rw [hz2]; omega
  have hr := run_make (P := Try.prog) w 34 25 i (.slice none 0 0) Try.underlying34 hi hz .i64 .i64 n n (by omega) (Int.le_refl _) hb' (by omega)
  simp only [Int.toNat_natCast, hz1] at hr
  unfold Oper.wp
  simp [execOp, hl, hc, hr, Result.andThen]
  have hG := made_grp w base n hb0
  rw [Nat.mul_one] at hG
  exact hK' _ _ (h _ _ hG (Mod.alloc _ _ _) (Nat.le_refl _))
theorem getD_int (ws : List Nat) (j : Nat) (hj : j < ws.length) : (ws.map fun u : Nat => (u : Int)).getD j 0 = (ws[j] : Int) := by
  rw [List.getD_eq_getElem?_getD, List.getElem?_map, List.getElem?_eq_getElem hj]
  rfl
set_option maxRecDepth 100000 in
set_option maxHeartbeats 8000000 in
theorem groups_any (ao : Option Addr) (len cap : Nat) (l : List Cm) (w : World) (hl : l.length = len) (hs : SeesC w ao l) (hlen : len ≤ 100000) (hks : ∀ j (h : j < l.length), l[j].1.keys.length ≤ 100000) :
    Calls Try.prog 13 #[.slice ao len cap] w (GroupsR w (runF (l.map (·.1))).2) := by
  have HWV := Lib.hid (waves_any ao len cap l w hl hs hlen hks)
  unfold WavesR at HWV
  rw [List.length_map, hl] at HWV
  have hIs := runF_isW (l.map (·.1))
  have hwl : (runF (l.map (·.1))).2.length = len := by rw [hIs.1, List.length_map, hl]
  have hle := hIs.le
  obtain ⟨ws, hws⟩ : ∃ x, (runF (l.map (·.1))).2 = x := ⟨_, rfl⟩
  rw [hws] at HWV hwl hle ⊢
  have htop : topOf ws ≤ len := top_le ws len fun u hu => by
    obtain ⟨k, hk⟩ := List.getElem?_of_mem hu
    have := hle k u hk
    have := some_lt hk
    omega
  have HTG := Lib.hid (top_ge ws)
  have HL := Lib.hid hwl
  have HMX := Lib.hid (top_max ws)
  unfold GroupsR
  obtain ⟨tp, htp⟩ : ∃ x, topOf ws = x := ⟨_, rfl⟩
  rw [htp] at htop HTG HMX ⊢
  have HTP := Lib.hid htp
  clear hl hs hks hIs hle hws hwl htp
  go_enter Try.func13, Try.ntmps13
  go_wp2_with fail
  refine HWV.out.mono ?_
  rintro e w1 ⟨oa, oc, rfl, ho, hb, hm⟩
  have HO := Lib.hid ho
  have HB := Lib.hid hb
  have HM := Lib.hid hm
  clear ho hb hm HWV
  by_cases h0 : len = 0
  · subst h0
    obtain rfl : tp = 0 := by omega
    go_wp2
    go_ret
    exact ⟨none, 0, rfl, HM.out, fun j hj => absurd hj (Nat.not_lt_zero _)⟩
  · have hpos : 0 < len := by omega
    have hz : ((len : Int) == 0) = false := by rw [beq_eq_false_iff_ne]; omega
    obtain ⟨ga, rfl, -⟩ := OwnM.at' HO.out (j := 0) (by rw [HL.out]; exact hpos)
    have hne : ws ≠ [] := fun e => by have := HL.out; rw [e] at this; simp at this; omega
    have HX := Lib.hid (Try.slices_Max_int ga 0 len oc (ws.map fun u : Nat => (u : Int)) w1 hpos (by rw [List.length_map, HL.out]; exact Nat.le_refl _) (by omega) (fun j hj => by
      rw [List.length_map] at hj
      obtain ⟨g', eg, hc, -⟩ := OwnM.at' HO.out (j := j) hj
      cases eg
      rw [Nat.zero_add, getD_int ws j hj]
      exact hc))
    have HMX2 := HMX.out hne
    rw [List.take_of_length_le (by rw [List.length_map, HL.out]; exact Nat.le_refl _)] at HX
    obtain ⟨mx, hmx⟩ : ∃ x, Lib.maxOf (ws.map fun u : Nat => (u : Int)) = x := ⟨_, rfl⟩
    rw [hmx] at HX HMX2
    obtain ⟨mn, rfl⟩ : ∃ m : Nat, mx = (m : Int) := by
      have : 0 < tp := by
        obtain ⟨u, hu⟩ := List.exists_mem_of_ne_nil ws hne
        have := HTG.out u hu
        omega
      exact ⟨tp - 1, by omega⟩
    obtain rfl : tp = mn + 1 := by omega
    clear hmx HMX hne HMX2
    go_wp2_with fail
    refine HX.out.mono ?_
    rintro e w2 ⟨rfl, rfl⟩
    clear HX
    go_wp2_with (first | (at_make; refine wpl_makeG (dst := some 14) _ _ (mn + 1) w2.heap.size ((mn : Int) + 1) (by omega) rfl rfl (by omega) (Nat.le_refl _) ?_) | fail)
    intro g w3 hG3 m3 hgb
    have hgs := hG3.lt
    have HG3 := Lib.hid hG3
    have HM3 := Lib.hid m3
    have HW2 := Lib.hid HM.out.size
    have hga : ga < w2.heap.size := HO.out.lt ga (by simp [blk])
    clear hG3 m3
    go_wp2
    go_loopw [17] (fun s17 wr => ∃ (i : Nat) (A : Nat → Option Addr × Nat), i ≤ len ∧ s17 = .int .i64 (i : Int) ∧ Grp wr w2.heap.size g (mn + 1) A (places ws i) ∧ Mod [] w2 wr) (fun s17 _ => len - (intOf s17).toNat)
    case atStart => exact ⟨0, fun _ => (none, 0), Nat.zero_le _, rfl, HG3.out, HM3.out⟩
    case round =>
      obtain ⟨i, A, hi, rfl, hG, hm⟩ := hrel
      have HG := Lib.hid hG
      have HMr := Lib.hid hm
      clear hG hm HG3 HM3
      by_cases hlt : i < len
      · have hiw : i < ws.length := by rw [HL.out]; exact hlt
        obtain ⟨v, hv⟩ : ∃ v, ws[i]? = some v := ⟨_, List.getElem?_eq_getElem hiw⟩
        have hv' : ws[i]'hiw = v := by rw [List.getElem?_eq_getElem hiw] at hv; exact Option.some.inj hv
        have hvt : v < mn + 1 := HTG.out v (List.mem_of_getElem? hv)
        obtain ⟨g', eg, hcu, -⟩ := OwnM.at' (HO.out.mod0 HMr.out) (j := i) hiw
        cases eg
        rw [hv'] at hcu
        have hu : wr.cell? ⟨ga, i, none⟩ = some (.int .i64 (v : Int)) := hcu
        have HU := Lib.hid hu
        have HPY := Lib.hid (places_yes hv)
        have HPN : Hid (∀ j, j ≠ v → places ws (i + 1) j = places ws i j) := Lib.hid fun j hj => places_no hv hj
        have hpl := places_le ws i v
        obtain ⟨pl, hpl0⟩ : ∃ x, places ws i v = x := ⟨_, rfl⟩
        obtain ⟨pn, hpn⟩ : ∃ x, pl.length = x := ⟨_, rfl⟩
        have HC := Lib.hid (HG.out.cell hvt)
        obtain ⟨aa, haa⟩ : ∃ x, (A v).1 = x := ⟨_, rfl⟩
        obtain ⟨ac, hac⟩ : ∃ x, (A v).2 = x := ⟨_, rfl⟩
        have hrow := (HG.out.2 v hvt).1
        have hrow2 := (HG.out.2 v hvt).2
        rw [haa, hac, hpl0] at hrow
        rw [haa] at hrow2
        rw [haa, hac, hpl0, hpn] at HC
        rw [hpl0, hpn] at hpl
        have HPL := Lib.hid hpl0
        have HPNN := Lib.hid hpn
        have HAA := Lib.hid haa
        have HAC := Lib.hid hac
        have HRW := Lib.hid hrow
        have hgaK : ga ∉ g :: blk aa := by
          intro h
          rcases List.mem_cons.1 h with h | h
          · omega
          · have := (hrow2 ga h).1; omega
        have hgK : g ∉ blk aa := fun h => (hrow2 g h).2.1 rfl
        have HNB : Hid (∀ b, b ∈ blk aa → w2.heap.size ≤ b) := Lib.hid fun b h => (hrow2 b h).1
        clear hv hv' hcu hu hpl0 hpn haa hac hrow hrow2
        have hii : (i : Int) < (len : Int) := by omega
        have hvi : (v : Int) < ((mn : Int) + 1) := by omega
        go_upto_region 8 with (fail)
        refine restu_start 14 [] (g :: blk aa) 17 #[false, false, false, false, false, false, false, false, false, false, false, false, false, false, false, false, false] rfl (by kernel_rfl) (by kernel_rfl) ?_
        intro w6 m6
        have U6 := Lib.hid (m6.cell HU.out List.not_mem_nil)
        have C6 := Lib.hid (m6.cell HC.out List.not_mem_nil)
        have O6 := Lib.hid (HRW.out.mod0 m6)
        have G6 := Lib.hid (HG.out.mod0 m6)
        have M6 := Lib.hid (HMr.out.trans' m6)
        clear m6 HU HC HRW HG
        refine restu_got (i := 0) (v := ?v1) rfl (by kernel_rfl) (by kernel_rfl) (by kernel_rfl) (by rfl) (fun _ _ _ h => h) (by rfl) ?y1 ?r1
        case y1 => (intro w9q hSwq; clear hSwq; go_simp; with_reducible rfl)
        try simp only [Act.put, List.setIfInBounds_toArray, List.set_cons_zero, List.set_cons_succ]
        refine restu_got (i := 1) (v := ?v2) rfl (by kernel_rfl) (by kernel_rfl) (by kernel_rfl) (by rfl) (fun _ _ _ h => h) (by rfl) ?y2 ?r2
        case y2 => (intro w9q hSwq; clear hSwq; go_simp; with_reducible rfl)
        try simp only [Act.put, List.setIfInBounds_toArray, List.set_cons_zero, List.set_cons_succ]
        refine restu_got (i := 2) (v := ?v3) rfl (by kernel_rfl) (by kernel_rfl) (by kernel_rfl) (by rfl) (fun _ _ _ h => h) (by rfl) ?y3 ?r3
        case y3 => (intro w9q hSwq; clear hSwq; go_simp; with_reducible rfl)
        try simp only [Act.put, List.setIfInBounds_toArray, List.set_cons_zero, List.set_cons_succ]
        refine restu_got (i := 3) (v := ?v4) rfl (by kernel_rfl) (by kernel_rfl) (by kernel_rfl) (by rfl) (fun _ _ _ h => h) (by rfl) ?y4 ?r4
        case y4 => (intro w9q hSwq; clear hSwq; go_simp; with_reducible rfl)
        try simp only [Act.put, List.setIfInBounds_toArray, List.set_cons_zero, List.set_cons_succ]
        refine restu_got (i := 4) (v := ?v5) rfl (by kernel_rfl) (by kernel_rfl) (by kernel_rfl) (by rfl) (fun _ _ _ h => h) (by rfl) ?y5 ?r5
        case y5 => ((intro w9' hm9'; have hc9' := Mod.cell hm9' U6.out (by first | exact List.not_mem_nil | assumption | (simp; done) | (simp; omega)); clear hm9'; go_simp; with_reducible rfl))
        try simp only [Act.put, List.setIfInBounds_toArray, List.set_cons_zero, List.set_cons_succ]
        refine restu_got (i := 5) (v := ?v6) rfl (by kernel_rfl) (by kernel_rfl) (by kernel_rfl) (by rfl) (fun _ _ _ h => h) (by rfl) ?y6 ?r6
        case y6 => (intro w9q hSwq; clear hSwq; go_simp; with_reducible rfl)
        try simp only [Act.put, List.setIfInBounds_toArray, List.set_cons_zero, List.set_cons_succ]
        refine restu_got (i := 6) (v := ?v7) rfl (by kernel_rfl) (by kernel_rfl) (by kernel_rfl) (by rfl) (fun _ _ _ h => h) (by rfl) ?y7 ?r7
        case y7 => (intro w9q hSwq; clear hSwq; go_simp; with_reducible rfl)
        try simp only [Act.put, List.setIfInBounds_toArray, List.set_cons_zero, List.set_cons_succ]
        refine restu_got (i := 7) (v := ?v8) rfl (by kernel_rfl) (by kernel_rfl) (by kernel_rfl) (by rfl) (fun _ _ _ h => h) (by rfl) ?y8 ?r8
        case y8 => (intro w9q hSwq; clear hSwq; go_simp; with_reducible rfl)
        try simp only [Act.put, List.setIfInBounds_toArray, List.set_cons_zero, List.set_cons_succ]
        refine restu_got (i := 8) (v := ?v9) rfl (by kernel_rfl) (by kernel_rfl) (by kernel_rfl) (by rfl) (fun _ _ _ h => h) (by rfl) ?y9 ?r9
        case y9 => (intro w9q hSwq; clear hSwq; go_simp; with_reducible rfl)
        try simp only [Act.put, List.setIfInBounds_toArray, List.set_cons_zero, List.set_cons_succ]
        refine restu_early (i := 9) [10, 11, 14, 15, 16] (v := ?v10) rfl (by kernel_rfl) (by kernel_rfl) (by kernel_rfl) (by rfl) (by kernel_rfl) (by rfl) (by kernel_rfl) (fun _ _ _ h => h) (by rfl) ?y10 ?r10
        case y10 => ((intro w9' hm9'; have hc9' := Mod.cell hm9' U6.out (by first | exact List.not_mem_nil | assumption | (simp; done) | (simp; omega)); clear hm9'; go_simp; with_reducible rfl))
        try simp only [Act.put, List.setIfInBounds_toArray, List.set_cons_zero, List.set_cons_succ]
        refine restu_got (i := 10) (v := ?v11) rfl (by kernel_rfl) (by kernel_rfl) (by kernel_rfl) (by rfl) (fun _ _ _ h => h) (by rfl) ?y11 ?r11
        case y11 => (intro w9q hSwq; clear hSwq; go_simp; with_reducible rfl)
        try simp only [Act.put, List.setIfInBounds_toArray, List.set_cons_zero, List.set_cons_succ]
        refine restu_early (i := 11) [14, 15, 16] (v := ?v12) rfl (by kernel_rfl) (by kernel_rfl) (by kernel_rfl) (by rfl) (by kernel_rfl) (by rfl) (by kernel_rfl) (fun _ _ _ h => h) (by rfl) ?y12 ?r12
        case y12 => ((intro w9' hm9'; have hc9' := Mod.cell hm9' C6.out (by first | exact List.not_mem_nil | assumption | (simp; done) | (simp; omega)); clear hm9'; go_simp; with_reducible rfl))
        try simp only [Act.put, List.setIfInBounds_toArray, List.set_cons_zero, List.set_cons_succ]
        refine restu_got (i := 12) (v := ?v13) rfl (by kernel_rfl) (by kernel_rfl) (by kernel_rfl) (by rfl) (fun _ _ _ h => h) (by rfl) ?y13 ?r13
        case y13 => (intro w9q hSwq; clear hSwq; go_simp; with_reducible rfl)
        try simp only [Act.put, List.setIfInBounds_toArray, List.set_cons_zero, List.set_cons_succ]
        refine restu_one (i := 13) (by kernel_rfl) rfl (by rfl) ?_
        go_wp2_with fail
        have m8 := Mod.alloc [] w6 (.cells #[.int .i64 (i : Int)] 3)
        have SH : Hid (Shows (w6.alloc (.cells #[.int .i64 (i : Int)] 3)) (some ⟨w6.heap.size, 0, none⟩) (List.map natV [i])) := Lib.hid (shows_one (f := natV) (heap_alloc_new w6 (.cells #[.int .i64 (i : Int)] 3)))
        refine backu_to (K' := []) (K2' := g :: blk aa) m8 (by simp) (by simp) (fun _ h _ => h) ?_
        have O8 := Lib.hid (O6.out.mod0 m8)
        have G8 := Lib.hid (G6.out.mod0 m8)
        have M8 := Lib.hid (M6.out.trans' m8)
        clear m8 O6 G6 M6 U6 C6
        
        refine restu_one (i := 14) (by kernel_rfl) rfl (by rfl) ?_
        go_wp2_with (first | (at_builtin; refine wpl_appM (f := natV) (dst := some 34) _ _ 25 _ 8 Try.underlying25 infoInt rfl (fun _ => rfl) pn pl rfl HPNN.out O8.out _ 1 1 [i] rfl rfl SH.out (by omega) (by omega) ?_) | fail)
        intro a9 c9 w9 o9 m9 s9
        have hst := Grp.step (x := i) (a9 := a9) (c9 := c9) G8.out hvt (by have := M8.out.size; omega) (by rw [HPL.out]; exact o9) (by rw [HAA.out]; exact m9) (by rw [HAA.out]; exact s9)
        rw [HPL.out, HPNN.out] at hst
        have hst2 := hst.same (R' := places ws (i + 1)) (fun j hj => by
          by_cases hjv : j = v
          · subst hjv
            simp only [if_true]
            rw [HPY.out, HPL.out]
          · simp only [if_neg hjv]
            exact (HPN.out j hjv).symm)
        have G10 := Lib.hid hst2
        have C9 := (m9.cell (G8.out.cell hvt) hgK)
        have F9 : w9.frozen? ⟨g, v, none⟩ = false := by
          obtain ⟨⟨cur, h1, _⟩, _⟩ := G8.out
          exact free_of_block (m9.get h1 hgK)
        have M9 := Lib.hid (M8.out.trans m9 (fun b hb hl => absurd (HNB.out b hb) (by omega)))
        go_wp2_with fail
        refine backm_to (K1 := [g]) (by kernel_rfl) (m9.weaken (fun j hj => by simp [hj])) (fun j hj _ => by simp at hj; simp [hj]) ?_
        clear o9 m9 s9 O8 G8 M8 SH hst hst2
        refine rest_got (i := 15) (v := ?v14) rfl (by kernel_rfl) (by kernel_rfl) (by kernel_rfl) (fun _ _ _ h => h) (by rfl) ?y14 ?r14
        case y14 => (intro w9q hSwq; clear hSwq; go_simp; with_reducible rfl)
        try simp only [Act.put, List.setIfInBounds_toArray, List.set_cons_zero, List.set_cons_succ]
        refine rest_one (i := 16) (by kernel_rfl) rfl (by rfl) ?_
        go_wp2_with fail
        have m10 : Mod [g] w9 (w9.setCell ⟨g, v, none⟩ (.slice a9 (pn + 1) c9)) := Mod.setCell _ _ _ (by simp)
        have M10 := Lib.hid (M9.out.trans m10 (fun b hb hl => by rw [List.mem_singleton] at hb; omega))
        refine back_to (K1 := []) m10 (by simp) ?_
        clear m10 C9 F9 M9
        refine rest_done (by kernel_rfl) ?_ _
        go_wp2_with fail
        go_roundw
        case rel => exact ⟨i + 1, _, by omega, by go_num, G10.out, M10.out⟩
        case measure => simp [intOf]; omega
      · have hie : i = len := by omega
        subst hie
        go_wp2
        go_ret
        refine ⟨some ⟨g, 0, none⟩, mn + 1, rfl, HM.out.trans' HMr.out, fun j hj => ⟨g, (A j).1, (A j).2, rfl, ?_, ?_⟩⟩
        · rw [HL.out]; exact HG.out.cell hj
        · rw [HL.out]; exact (HG.out.2 j hj).1
end Go.Proofs.Ytkkjbeakmimmmaa
