/- The walk of SessionRises. -/
import Derived.Test.YtgneigdcgfiooaaSess3
namespace Go.Proofs.Ytgneigdcgfiooaa
open Go Go.RowKit Go.Lib Go.MapKept

theorem keepF_other {f : Int → Option Ent} {c d s : Int} {r : Int × ByteArray} (h : ¬ d = c) : keepF f d s r c = f c := by
  unfold keepF
  split
  · dsimp only; rw [if_neg (fun e => h e.symm)]
  · rfl
theorem keepF_less {f : Int → Option Ent} {c s q : Int} {x : Int × ByteArray} {r : Int × ByteArray} (h : f c = some (q, x)) (hs : ¬ q < s) : keepF f c s r c = some (q, x) := by
  unfold keepF
  rw [if_neg, h]
  rintro ⟨_, h2⟩
  unfold lookF at h2
  rw [h] at h2
  dsimp only at h2
  rw [if_neg hs] at h2
  split at h2 <;> simp at h2
theorem keepF_new {f : Int → Option Ent} {c s q : Int} {x : Int × ByteArray} {r : Int × ByteArray} (h0 : ¬ c = 0) (h : f c = some (q, x)) (hs : q < s) : keepF f c s r c = some (s, r) := by
  unfold keepF
  rw [if_pos]
  · simp
  · refine ⟨h0, ?_⟩
    unfold lookF
    rw [h]
    dsimp only
    rw [if_pos hs]
theorem keepF_first {c s : Int} {r : Int × ByteArray} (h0 : ¬ c = 0) : keepF (fun _ => none) c s r c = some (s, r) := by
  unfold keepF
  rw [if_pos ⟨h0, rfl⟩]
  simp
theorem lookF_same {f : Int → Option Ent} {c q cd : Int} {t : ByteArray} (h : f c = some (q, cd, t)) : lookF f c q = ((cd, t), 1) := by
  unfold lookF
  rw [h]
  dsimp only
  rw [if_neg (by omega), if_pos rfl]
theorem lookF_less {f : Int → Option Ent} {c q cd : Int} {t : ByteArray} (h : f c = some (q, cd, t)) : lookF f c (q - 1) = ((3, ⟨#[]⟩), 2) := by
  unfold lookF
  rw [h]
  dsimp only
  rw [if_neg (by omega), if_neg (by omega)]
/-- A reply's block is none of a table's. -/
theorem Tab.modR {w w' : World} {g b n x : Nat} {f : Int → Option Ent} {c : Array Value} {z : Nat × Nat} (h : Tab w g b n f) (hx : w.heap[x]? = some (.cells c 25 z)) (hm : Mod [x] w w') : Tab w' g b n f := by
  obtain ⟨gc, h1, h2, h3⟩ := h
  have n1 : g ≠ x := by rintro rfl; rw [hx] at h1; cases h1
  have n2 : gc ≠ x := by rintro rfl; rw [hx] at h2; cases h2
  have n3 : x ≠ b := h3.cell_ne hx
  exact ⟨gc, hm.get h1 (by simpa using n1), hm.get h2 (by simpa using n2), h3.mod hm (by simpa using fun e => n3 e.symm)⟩
theorem Tab.ne {w : World} {g b n x : Nat} {f : Int → Option Ent} {c : Array Value} {t : TypeId} {z : Nat × Nat} (h : Tab w g b n f) (hx : w.heap[x]? = some (.cells c t z)) : x ≠ b := by
  obtain ⟨gc, h1, h2, h3⟩ := h
  exact h3.cell_ne hx
theorem two_set {w : World} {g : Nat} {t : TypeId} {a b : Value} (h : w.heap[g]? = some (.cells #[a, b] t (0, 0))) (u v : Value) :
    ((w.setCell ⟨g, 0, none⟩ u).setCell ⟨g, 1, none⟩ v).heap[g]? = some (.cells #[u, v] t (0, 0)) := by
  rw [heap_setCell_same (heap_setCell_same h u) v]; rfl

set_option maxRecDepth 100000 in
set_option maxHeartbeats 8000000 in
theorem sessionRises_any (ao : Option Addr) (len cap : Nat) (l : List ActS) (cl sq cd0 : Int) (t0 : ByteArray) (w : World) (hl : l.length = len) (hlen : len ≤ 9223372036854775807) (hs : SeesA w ao l)
    (hsz : ∀ x ∈ l, x.2.2.2.2.size ≤ 9223372036854775807 ∧ 0 ≤ x.2.2.1 ∧ x.2.2.1 < 4294967296) (ht0 : t0.size ≤ 9223372036854775807) (hq0 : 0 ≤ sq) (hq1 : sq < 4294967296) :
    Calls Try.prog 3 #[.slice ao len cap, .int .u32 cl, .int .u32 sq, .agg #[.int .u8 cd0, .string t0]] w fun e w' => e = .returned (.bool true) ∧ Mod [] w w' := by
  subst hl
  have HS := Lib.hid hs
  have HZ := Lib.hid hsz
  clear hs hsz
  go_enter Try.func3, Try.ntmps3
  go_wp2_with fail
  have m0 := Mod.alloc [] w (.cells #[.int .u8 cd0, .string t0] 25)
  refine (great_any ao _ cap l _ rfl hlen (HS.out.mod0 m0) (fun x hx => (HZ.out x hx).1)).mono ?_
  rintro e w1 ⟨v, rfl, m1⟩
  have A0 : Hid (w1.cell? ⟨w.heap.size, 0, none⟩ = some (.int .u8 cd0)) := m1.cell (by go_cell) (by simp)
  have A1 : Hid (w1.cell? ⟨w.heap.size, 1, none⟩ = some (.string t0)) := m1.cell (by go_cell) (by simp)
  have M1 := Lib.hid (m0.trans' m1)
  clear m0 m1
  cases v with
  | true =>
    go_wp2_with fail
    refine (wakes10_any _).mono ?_
    rintro e w9 ⟨rfl, m9⟩
    have M9 := Lib.hid (M1.out.trans' m9)
    clear m9
    go_wp2
    go_ret
    exact ⟨rfl, M9.out⟩
  | false =>
    by_cases hc0 : cl = 0
    · subst hc0
      go_wp2_with fail
      refine (wakes10_any _).mono ?_
      rintro e w9 ⟨rfl, m9⟩
      have M9 := Lib.hid (M1.out.trans' m9)
      clear m9
      go_wp2
      go_ret
      exact ⟨rfl, M9.out⟩
    · have hcb : (cl == 0) = false := by simpa using hc0
      have a0 := A0.out
      have a1 := A1.out
      by_cases hbt : 100 < t0.size
      · go_wp2_with fail
        refine (wakes10_any _).mono ?_
        rintro e w9 ⟨rfl, m9⟩
        have M9 := Lib.hid (M1.out.trans' m9)
        clear m9
        go_wp2
        go_ret
        exact ⟨rfl, M9.out⟩
      · go_wp2_with fail
        refine (new_any _).mono ?_
        rintro e w2 ⟨g, b, rfl, t2, m2, z2⟩
        replace A0 := Lib.hid (m2.cell A0.out (by simp))
        replace A1 := Lib.hid (m2.cell A1.out (by simp))
        have T2 := Lib.hid t2
        have M2 := Lib.hid (M1.out.trans' m2)
        have Z := Lib.hid (Nat.le_trans M1.out.size z2)
        clear t2 m2 z2 a0 a1 M1
        have a0 := A0.out
        have a1 := A1.out
        go_wp2_with fail
        refine (keep_any g b 0 _ cl sq cd0 t0 _ T2.out).mono ?_
        rintro e w3 ⟨⟨v, rfl⟩, t3, m3⟩
        have hnb : w.heap.size ≠ b := by
          have := m3.size
          intro hb
          obtain ⟨gc, e1, e2, e3⟩ := T2.out
          obtain ⟨es, ck, e4, -⟩ := e3
          subst hb
          have := a0
          simp [World.cell?, e4] at this
        have hF := keepF_first (s := sq) (r := (cd0, t0)) hc0
        have T3 := Lib.hid t3
        have M3 := Lib.hid (M2.out.fresh1 m3 Z.out)
        replace a0 := m3.cell a0 (by simpa using hnb)
        replace a1 := m3.cell a1 (by simpa using hnb)
        generalize keepF (fun _ => none) cl sq (cd0, t0) = f0 at hF T3
        generalize keepN (fun _ => none) 0 cl sq = n0 at T3
        have HF := Lib.hid hF
        clear hF t3 m3 A0 A1 T2 M2
        go_wp2_with fail
        have ma := Mod.alloc [] w3 (.cells #[.int .u8 cd0, .string t0] 25)
        have T4 := Lib.hid (T3.out.mod0 ma)
        have hN := heap_alloc_new w3 (.cells #[.int .u8 cd0, .string t0] 25)
        have HW3 := Lib.hid M3.out.size
        have M4 := Lib.hid (M3.out.trans' ma)
        generalize w3.heap.size = gl at hN HW3 ⊢
        have HN := Lib.hid hN
        clear hN ma T3 M3 a0 a1
        go_loopw [10, 12] (fun tp i wr => ∃ (k : Nat) (top cd : Int) (t : ByteArray) (f : Int → Option Ent) (n : Nat), k ≤ l.length ∧ i = .int .i64 (k : Int) ∧ tp = .int .u32 top ∧ 0 ≤ top ∧ top < 4294967296 ∧
            Tab wr g b n f ∧ f cl = some (top, cd, t) ∧ wr.heap[gl]? = some (.cells #[.int .u8 cd, .string t] 25 (0, 0)) ∧ Mod [] w wr) (fun _ i _ => l.length - (intOf i).toNat)
        case atStart => exact ⟨0, sq, cd0, t0, f0, n0, Nat.zero_le _, rfl, rfl, hq0, hq1, T4.out, HF.out, HN.out, M4.out⟩
        case round =>
          obtain ⟨k, top, cd, t, f, n, hk, rfl, rfl, htp0, htp1, htab, hfc, hgl, hm⟩ := hrel
          have T := Lib.hid htab
          have FC := Lib.hid hfc
          have GL := Lib.hid hgl
          have M := Lib.hid hm
          clear htab hfc hgl hm T4 HF HN M4
          by_cases hlt : k < l.length
          · obtain ⟨bl, off, rfl, hv0, hv1, hv2, hv3, hv4⟩ := (HS.out.mod0 M.out) k hlt
            have hz := HZ.out l[k] (List.getElem_mem hlt)
            have hblw : bl < w.heap.size := by
              obtain ⟨b', off', e1, e2, _⟩ := HS.out k hlt
              cases e1
              exact World.block_lt_of_cell? w _ e2
            have hbb : bl ≠ b := by have := Z.out; omega
            obtain ⟨⟨kp, ac, aq, acd, at'⟩, hlk⟩ : ∃ p, l[k] = p := ⟨_, rfl⟩
            rw [hlk] at hv0 hv1 hv2 hv3 hv4 hz
            dsimp only at hv0 hv1 hv2 hv3 hv4 hz
            obtain ⟨-, hz1, hz2⟩ := hz
            have V1 := Lib.hid hv1
            have V2 := Lib.hid hv2
            have V3 := Lib.hid hv3
            have V4 := Lib.hid hv4
            clear hlk hv0 hv1 hv2 hv3 hv4
            go_upto_region 10 with (fail)
            refine rest_start [b] 17 #[false, false, false, false, false, false, false, false, false, false, false, false, false, false, false, false, false] rfl (by kernel_rfl) (by kernel_rfl) ?_
            intro w5 m5
            have T5 := Lib.hid (T.out.mod0 m5)
            have GL5 := Lib.hid (m5.get GL.out (by simp))
            have M5 := Lib.hid (M.out.trans' m5)
            replace V1 := Lib.hid (m5.cell V1.out (by simp))
            replace V2 := Lib.hid (m5.cell V2.out (by simp))
            replace V3 := Lib.hid (m5.cell V3.out (by simp))
            replace V4 := Lib.hid (m5.cell V4.out (by simp))
            clear m5 T GL M
            refine rest_got (i := 0) (v := ?v1) rfl (by kernel_rfl) (by kernel_rfl) (by kernel_rfl) (fun _ _ _ h => h) (by rfl) ?y1 ?r1
            case y1 => (intro w9q hSwq; clear hSwq; go_simp; with_reducible rfl)
            try simp only [Act.put, List.setIfInBounds_toArray, List.set_cons_zero, List.set_cons_succ]
            refine rest_got (i := 1) (v := ?v2) rfl (by kernel_rfl) (by kernel_rfl) (by kernel_rfl) (fun _ _ _ h => h) (by rfl) ?y2 ?r2
            case y2 => (intro w9q hSwq; clear hSwq; go_simp; with_reducible rfl)
            try simp only [Act.put, List.setIfInBounds_toArray, List.set_cons_zero, List.set_cons_succ]
            refine rest_got (i := 2) (v := ?v3) rfl (by kernel_rfl) (by kernel_rfl) (by kernel_rfl) (fun _ _ _ h => h) (by rfl) ?y3 ?r3
            case y3 => (intro w9q hSwq; clear hSwq; go_simp; with_reducible rfl)
            try simp only [Act.put, List.setIfInBounds_toArray, List.set_cons_zero, List.set_cons_succ]
            refine rest_got (i := 3) (v := ?v4) rfl (by kernel_rfl) (by kernel_rfl) (by kernel_rfl) (fun _ _ _ h => h) (by rfl) ?y4 ?r4
            case y4 => (intro w9q hSwq; clear hSwq; go_simp; with_reducible rfl)
            try simp only [Act.put, List.setIfInBounds_toArray, List.set_cons_zero, List.set_cons_succ]
            refine rest_got (i := 4) (v := ?v5) rfl (by kernel_rfl) (by kernel_rfl) (by kernel_rfl) (fun _ _ _ h => h) (by rfl) ?y5 ?r5
            case y5 => (intro w9q hSwq; clear hSwq; go_simp; with_reducible rfl)
            try simp only [Act.put, List.setIfInBounds_toArray, List.set_cons_zero, List.set_cons_succ]
            refine rest_got (i := 5) (v := ?v6) rfl (by kernel_rfl) (by kernel_rfl) (by kernel_rfl) (fun _ _ _ h => h) (by rfl) ?y6 ?r6
            case y6 => ((intro w9' hm9'; have hc9' := Mod.cell hm9' V1.out (by first | exact List.not_mem_nil | (simp; omega)); clear hm9'; go_simp; with_reducible rfl))
            try simp only [Act.put, List.setIfInBounds_toArray, List.set_cons_zero, List.set_cons_succ]
            refine rest_got (i := 6) (v := ?v7) rfl (by kernel_rfl) (by kernel_rfl) (by kernel_rfl) (fun _ _ _ h => h) (by rfl) ?y7 ?r7
            case y7 => (intro w9q hSwq; clear hSwq; go_simp; with_reducible rfl)
            try simp only [Act.put, List.setIfInBounds_toArray, List.set_cons_zero, List.set_cons_succ]
            refine rest_got (i := 7) (v := ?v8) rfl (by kernel_rfl) (by kernel_rfl) (by kernel_rfl) (fun _ _ _ h => h) (by rfl) ?y8 ?r8
            case y8 => (intro w9q hSwq; clear hSwq; go_simp; with_reducible rfl)
            try simp only [Act.put, List.setIfInBounds_toArray, List.set_cons_zero, List.set_cons_succ]
            refine rest_got (i := 8) (v := ?v9) rfl (by kernel_rfl) (by kernel_rfl) (by kernel_rfl) (fun _ _ _ h => h) (by rfl) ?y9 ?r9
            case y9 => (intro w9q hSwq; clear hSwq; go_simp; with_reducible rfl)
            try simp only [Act.put, List.setIfInBounds_toArray, List.set_cons_zero, List.set_cons_succ]
            refine rest_got (i := 9) (v := ?v10) rfl (by kernel_rfl) (by kernel_rfl) (by kernel_rfl) (fun _ _ _ h => h) (by rfl) ?y10 ?r10
            case y10 => (intro w9q hSwq; clear hSwq; go_simp; with_reducible rfl)
            try simp only [Act.put, List.setIfInBounds_toArray, List.set_cons_zero, List.set_cons_succ]
            refine rest_got (i := 10) (v := ?v11) rfl (by kernel_rfl) (by kernel_rfl) (by kernel_rfl) (fun _ _ _ h => h) (by rfl) ?y11 ?r11
            case y11 => ((intro w9' hm9'; have hc9' := Mod.cell hm9' V2.out (by first | exact List.not_mem_nil | (simp; omega)); clear hm9'; go_simp; with_reducible rfl))
            try simp only [Act.put, List.setIfInBounds_toArray, List.set_cons_zero, List.set_cons_succ]
            refine rest_got (i := 11) (v := ?v12) rfl (by kernel_rfl) (by kernel_rfl) (by kernel_rfl) (fun _ _ _ h => h) (by rfl) ?y12 ?r12
            case y12 => (intro w9q hSwq; clear hSwq; go_simp; with_reducible rfl)
            try simp only [Act.put, List.setIfInBounds_toArray, List.set_cons_zero, List.set_cons_succ]
            refine rest_got (i := 12) (v := ?v13) rfl (by kernel_rfl) (by kernel_rfl) (by kernel_rfl) (fun _ _ _ h => h) (by rfl) ?y13 ?r13
            case y13 => (intro w9q hSwq; clear hSwq; go_simp; with_reducible rfl)
            try simp only [Act.put, List.setIfInBounds_toArray, List.set_cons_zero, List.set_cons_succ]
            refine rest_got (i := 13) (v := ?v14) rfl (by kernel_rfl) (by kernel_rfl) (by kernel_rfl) (fun _ _ _ h => h) (by rfl) ?y14 ?r14
            case y14 => (intro w9q hSwq; clear hSwq; go_simp; with_reducible rfl)
            try simp only [Act.put, List.setIfInBounds_toArray, List.set_cons_zero, List.set_cons_succ]
            refine rest_got (i := 14) (v := ?v15) rfl (by kernel_rfl) (by kernel_rfl) (by kernel_rfl) (fun _ _ _ h => h) (by rfl) ?y15 ?r15
            case y15 => (intro w9q hSwq; clear hSwq; go_simp; with_reducible rfl)
            try simp only [Act.put, List.setIfInBounds_toArray, List.set_cons_zero, List.set_cons_succ]
            refine rest_got (i := 15) (v := ?v16) rfl (by kernel_rfl) (by kernel_rfl) (by kernel_rfl) (fun _ _ _ h => h) (by rfl) ?y16 ?r16
            case y16 => ((intro w9' hm9'; have hc9' := Mod.cell hm9' V3.out (by first | exact List.not_mem_nil | (simp; omega)); have hd9' := Mod.cell hm9' V4.out (by first | exact List.not_mem_nil | (simp; omega)); clear hm9'; go_simp; with_reducible rfl))
            try simp only [Act.put, List.setIfInBounds_toArray, List.set_cons_zero, List.set_cons_succ]
            refine rest_one (i := 16) (by kernel_rfl) rfl (by rfl) ?_
            go_wp2_with fail
            refine (keep_any g b n f ac aq acd at' _ T5.out).mono ?_
            rintro e w6 ⟨⟨v, rfl⟩, t6, m6⟩
            have hglb := T5.out.ne GL5.out
            have T6 := Lib.hid t6
            have GL6 := Lib.hid (m6.get GL5.out (by simpa using hglb))
            have M6 := Lib.hid (M5.out.fresh1 m6 Z.out)
            replace V1 := Lib.hid (m6.cell V1.out (by simpa using hbb))
            replace V2 := Lib.hid (m6.cell V2.out (by simpa using hbb))
            replace V3 := Lib.hid (m6.cell V3.out (by simpa using hbb))
            replace V4 := Lib.hid (m6.cell V4.out (by simpa using hbb))
            go_wp2_with fail
            refine back_to (K1 := []) m6 (by simp) ?_
            clear t6 m6 T5 GL5 M5
            refine rest_done (by kernel_rfl) ?_ _
            have v1 := V1.out
            have v2 := V2.out
            have v3 := V3.out
            have v4 := V4.out
            have hgb := cell_of_block (i := 0) GL6.out
            have hgb1 := cell_of_block (i := 1) GL6.out
            have hfz := fun i => free_of_block (i := i) GL6.out
            have hf0 := hfz 0
            have hf1 := hfz 1
            clear hfz
            by_cases hac : ac = cl
            · subst hac
              by_cases haq : top < aq
              · have FC6 := Lib.hid (keepF_new (r := (acd, at')) hc0 FC.out haq)
                clear FC
                have hgw := Lib.hid (show w.heap.size ≤ gl from HW3.out)
                have mset := two_mod w6 gl (.int .u8 acd) (.string at')
                have T7 := Lib.hid (T6.out.modR GL6.out mset)
                have GL7 := Lib.hid (two_set GL6.out (.int .u8 acd) (.string at'))
                have M7 := Lib.hid (M6.out.fresh1 mset hgw.out)
                clear mset
                have LS := Lib.hid (lookF_same FC6.out)
                have LL := Lib.hid (lookF_less FC6.out)
                go_wp2_with fail
                refine (look_w g b _ _ ac aq acd 1 at' _ T7.out LS.out).mono ?_
                rintro e w8 ⟨rfl, m8⟩
                have T8 := Lib.hid (T7.out.mod0 m8)
                have GL8 := Lib.hid (m8.get GL7.out (by simp))
                have M8 := Lib.hid (M7.out.trans' m8)
                clear m8 T7 GL7 M7 v1 v2 v3 v4 V1 V2 V3 V4 hgb hgb1 hf0 hf1 T6 GL6 M6
                have g0 := cell_of_block (i := 0) GL8.out
                have g1 := cell_of_block (i := 1) GL8.out
                have hlg := lt_of_block GL8.out
                have ma := Mod.alloc [] w8 (.cells #[.int .u8 acd, .string at'] 25)
                have T9 := Lib.hid (T8.out.mod0 ma)
                have GL9 := Lib.hid (ma.get GL8.out (by simp))
                have M9 := Lib.hid (M8.out.trans' ma)
                clear ma T8 GL8 M8
                by_cases htop : 0 < aq
                · have hwr : IntKind.u32.wrap (aq - 1) = aq - 1 := IntWalk.u32_in _ (by omega)
                  go_wp2_with fail
                  refine (look_w g b _ _ ac (aq - 1) 3 2 ⟨#[]⟩ _ T9.out LL.out).mono ?_
                  rintro e w10 ⟨rfl, m10⟩
                  have mb := Mod.alloc [] w10 (.cells #[.int .u8 3, .string ⟨#[]⟩] 25)
                  have T11 := Lib.hid ((T9.out.mod0 m10).mod0 mb)
                  have GL11 := Lib.hid (mb.get (m10.get GL9.out (by simp)) (by simp))
                  have M11 := Lib.hid ((M9.out.trans' m10).trans' mb)
                  clear m10 mb T9 GL9 M9 g0 g1 hlg
                  go_wp2
                  go_roundw
                  case rel => exact ⟨k + 1, aq, acd, at', _, _, by omega, by go_num, rfl, by omega, by omega, T11.out, FC6.out, GL11.out, M11.out⟩
                  case measure => simp [intOf]; omega
                · exfalso; omega
              · have FC6 := Lib.hid (keepF_less (r := (acd, at')) FC.out haq)
                clear FC
                have T7 := T6
                have GL7 := GL6
                have M7 := M6
                have LS := Lib.hid (lookF_same FC6.out)
                have LL := Lib.hid (lookF_less FC6.out)
                go_wp2_with fail
                refine (look_w g b _ _ ac top cd 1 t _ T7.out LS.out).mono ?_
                rintro e w8 ⟨rfl, m8⟩
                have T8 := Lib.hid (T7.out.mod0 m8)
                have GL8 := Lib.hid (m8.get GL7.out (by simp))
                have M8 := Lib.hid (M7.out.trans' m8)
                clear m8 T7 GL7 M7 v1 v2 v3 v4 V1 V2 V3 V4 hgb hgb1 hf0 hf1 T6 GL6 M6
                have g0 := cell_of_block (i := 0) GL8.out
                have g1 := cell_of_block (i := 1) GL8.out
                have hlg := lt_of_block GL8.out
                have ma := Mod.alloc [] w8 (.cells #[.int .u8 cd, .string t] 25)
                have T9 := Lib.hid (T8.out.mod0 ma)
                have GL9 := Lib.hid (ma.get GL8.out (by simp))
                have M9 := Lib.hid (M8.out.trans' ma)
                clear ma T8 GL8 M8
                by_cases htop : 0 < top
                · have hwr : IntKind.u32.wrap (top - 1) = top - 1 := IntWalk.u32_in _ (by omega)
                  go_wp2_with fail
                  refine (look_w g b _ _ ac (top - 1) 3 2 ⟨#[]⟩ _ T9.out LL.out).mono ?_
                  rintro e w10 ⟨rfl, m10⟩
                  have mb := Mod.alloc [] w10 (.cells #[.int .u8 3, .string ⟨#[]⟩] 25)
                  have T11 := Lib.hid ((T9.out.mod0 m10).mod0 mb)
                  have GL11 := Lib.hid (mb.get (m10.get GL9.out (by simp)) (by simp))
                  have M11 := Lib.hid ((M9.out.trans' m10).trans' mb)
                  clear m10 mb T9 GL9 M9 g0 g1 hlg
                  go_wp2
                  go_roundw
                  case rel => exact ⟨k + 1, top, cd, t, _, _, by omega, by go_num, rfl, by omega, by omega, T11.out, FC6.out, GL11.out, M11.out⟩
                  case measure => simp [intOf]; omega
                · go_wp2
                  go_roundw
                  case rel => exact ⟨k + 1, top, cd, t, _, _, by omega, by go_num, rfl, by omega, by omega, T9.out, FC6.out, GL9.out, M9.out⟩
                  case measure => simp [intOf]; omega
            · have FC6 := Lib.hid ((keepF_other (s := aq) (r := (acd, at')) hac).trans FC.out)
              clear FC
              have T7 := T6
              have GL7 := GL6
              have M7 := M6
              have LS := Lib.hid (lookF_same FC6.out)
              have LL := Lib.hid (lookF_less FC6.out)
              go_wp2_with fail
              refine (look_w g b _ _ cl top cd 1 t _ T7.out LS.out).mono ?_
              rintro e w8 ⟨rfl, m8⟩
              have T8 := Lib.hid (T7.out.mod0 m8)
              have GL8 := Lib.hid (m8.get GL7.out (by simp))
              have M8 := Lib.hid (M7.out.trans' m8)
              clear m8 T7 GL7 M7 v1 v2 v3 v4 V1 V2 V3 V4 hgb hgb1 hf0 hf1 T6 GL6 M6
              have g0 := cell_of_block (i := 0) GL8.out
              have g1 := cell_of_block (i := 1) GL8.out
              have hlg := lt_of_block GL8.out
              have ma := Mod.alloc [] w8 (.cells #[.int .u8 cd, .string t] 25)
              have T9 := Lib.hid (T8.out.mod0 ma)
              have GL9 := Lib.hid (ma.get GL8.out (by simp))
              have M9 := Lib.hid (M8.out.trans' ma)
              clear ma T8 GL8 M8
              by_cases htop : 0 < top
              · have hwr : IntKind.u32.wrap (top - 1) = top - 1 := IntWalk.u32_in _ (by omega)
                go_wp2_with fail
                refine (look_w g b _ _ cl (top - 1) 3 2 ⟨#[]⟩ _ T9.out LL.out).mono ?_
                rintro e w10 ⟨rfl, m10⟩
                have mb := Mod.alloc [] w10 (.cells #[.int .u8 3, .string ⟨#[]⟩] 25)
                have T11 := Lib.hid ((T9.out.mod0 m10).mod0 mb)
                have GL11 := Lib.hid (mb.get (m10.get GL9.out (by simp)) (by simp))
                have M11 := Lib.hid ((M9.out.trans' m10).trans' mb)
                clear m10 mb T9 GL9 M9 g0 g1 hlg
                go_wp2
                go_roundw
                case rel => exact ⟨k + 1, top, cd, t, _, _, by omega, by go_num, rfl, by omega, by omega, T11.out, FC6.out, GL11.out, M11.out⟩
                case measure => simp [intOf]; omega
              · go_wp2
                go_roundw
                case rel => exact ⟨k + 1, top, cd, t, _, _, by omega, by go_num, rfl, by omega, by omega, T9.out, FC6.out, GL9.out, M9.out⟩
                case measure => simp [intOf]; omega
          · have hke : k = l.length := by omega
            subst hke
            go_wp2_with fail
            refine (wakes10_any _).mono ?_
            rintro e w9 ⟨rfl, m9⟩
            have M9 := Lib.hid (M.out.trans' m9)
            clear m9
            go_wp2
            go_ret
            exact ⟨rfl, M9.out⟩
end Go.Proofs.Ytgneigdcgfiooaa
