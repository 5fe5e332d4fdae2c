/- The walk of varint.Uint. -/
import Derived.Test.YtekdnljincbghaaDoorUint
import Derived.Test.YtekdnljincbghaaDoorOwnIn
namespace Go.Proofs.YtekdnljincbghaaDoor
open Go Go.RowKit Go.Shelf
attribute [local go_sem] Oper.semAt_some

/-- What the loop keeps: the box, the bytes so far. -/
def UintInv (w : World) (ao : Option Addr) (bb : Nat) (bad : List Nat) (xs : List UInt8) (pre : List (UInt8 × Bool)) (W : World) : Prop :=
  ∃ ao' cap', W.heap[bb]? = some (.cells #[.slice ao' (xs ++ pre.map grpB).length cap'] 27 (0, 0)) ∧ OwnB W ao' cap' (xs ++ pre.map grpB) ∧ Mod (blk ao) w W ∧ SameOrNew w W ao ao' ∧ (∀ k, k ∈ blk ao' → k ∉ bb :: bad)
theorem UintInv.mod {w : World} {ao : Option Addr} {bb : Nat} {bad S : List Nat} {xs : List UInt8} {pre : List (UInt8 × Bool)} {A B : World} (h : UintInv w ao bb bad xs pre A) (hm : Mod S A B) (hS : ∀ k, k ∈ S → k ∈ bad) (hbb : bb ∉ bad) (hnew : ∀ k, k ∈ bad → w.heap.size ≤ k) : UintInv w ao bb bad xs pre B := by
  obtain ⟨ao', cap', h1, h2, h3, h4, h5⟩ := h
  refine ⟨ao', cap', hm.get h1 (fun h => hbb (hS _ h)), h2.mod hm (fun k hk hs => h5 k hk (by simp [hS k hs])), h3.trans hm (fun i hi hl => by have := hnew i (hS i hi); omega), ?_, h5⟩
  rcases h4 with h4 | ⟨g, e, g1, g2⟩
  · exact .inl h4
  · exact .inr ⟨g, e, g1, hm.lt g2⟩

theorem keepsOthers_of {S : List Nat} {W W' : World} (hm : Mod S W W') (hc : ∀ k, k ∈ S → ∀ o, W.heap[k]? = some o → o.isCells = true) : KeepsOthers W W' :=
  ⟨hm.size, fun k o hk ho => hm.get hk (fun hs => by rw [hc k hs o hk] at ho; cases ho)⟩
theorem Own.isCells {w : World} {e : TypeId} {sz : Nat} {ao : Option Addr} {n cap : Nat} {xs : List Value} (h : Own w e sz ao n cap xs) : ∀ k, k ∈ blk ao → ∀ o, w.heap[k]? = some o → o.isCells = true := by
  intro k hk o ho
  rcases h.2 with ⟨rfl, _⟩ | ⟨g, cur, fz, rfl, hg, _⟩
  · simp [blk] at hk
  · simp only [blk, List.mem_singleton] at hk; subst hk; rw [hg] at ho; cases ho; rfl
theorem Sees.one (W : World) (g : UInt8) (v : Value) (t : TypeId) (hv : v = .int .u8 ((g.toNat : Nat) : Int)) : Sees (W.alloc (.cells #[v] t)) (some ⟨W.heap.size, 0, none⟩) [g] := by
  intro j hj
  have : j = 0 := by simpa using hj
  subst this
  exact ⟨W.heap.size, 0, rfl, by rw [cell_of_block (heap_alloc_new W _)]; subst hv; rfl⟩

set_option maxRecDepth 100000 in
set_option maxHeartbeats 2000000 in
theorem vuint_in (F : Fence) (n : Nat) (h1 : F.fn 29) (h2 : F.fn 56) (h3 : F.fn 69) (hro : F.round = none) (hn : 3 ≤ n) (ao : Option Addr) (len cap m : Nat) (xs : List UInt8) (w : World)
    (hlen : xs.length = len) (hown : OwnB w ao cap xs) (hm64 : m < 18446744073709551616) (hb : len ≤ 140737488355000) :
    CallsIn F n Tryd.prog 29 #[.slice ao len cap, .int .u64 (m : Int)] w (RetApp w ao (xs ++ enc7 m)) := by
  subst hlen
  have hn1 : 1 ≤ n := by omega
  refine callsIn_of_wp_marks Tryd.func29 rfl h1 ?_ hro
  simp only [Tryd.ntmps29, List.size_toArray, List.length_cons, List.length_nil, Nat.reduceAdd, Nat.reduceSub, Array.replicate_succ, Array.replicate_zero, List.push_toArray, List.append_toArray, List.nil_append, List.cons_append]
  gi_wp2_with (gi_at_call 56; refine (groups_in F (n - 1) h2 hro _ _).mono ?_; rintro e w2 ⟨nb, rfl, hnb, hm2, hge⟩)
  have hbx := heap_alloc_new w (.cells #[.slice ao xs.length cap] 27)
  have hm1 := Mod.alloc [] w (.cells #[.slice ao xs.length cap] 27)
  have hsz : w.heap.size + 1 ≤ w2.heap.size := by have := hm2.size; simp at this; omega
  have hnl := lt_of_block hnb
  have hnb2 : w.heap.size + 1 ≤ nb := by simpa using hge
  have HO := Lib.hid ((hown.mod0 hm1).mod0 hm2)
  have HBX := Lib.hid (hm2.get hbx (by simp))
  have HM := Lib.hid (hm1.trans' hm2)
  have HNB := Lib.hid hnb
  have hltown : ∀ k, k ∈ blk ao → k < w.heap.size := Own.lt hown
  clear hbx hm1 hm2 hnb hge hown
  have hL : nb ≠ w2.heap.size ∧ nb ≠ w2.heap.size + 1 := by omega
  refine wpIn_rangeFunc_hands hro hn1 (gf := 69) (lb := #[.pointer (some ⟨nb, 0, none⟩)]) rfl h3 (enters_of Tryd.func69 (by kernel_rfl) rfl)
    (groups1_in F (n - 1) h3 hro (by omega) nb m hm64 _ HNB.out) (fun _ => rfl) hnl
    (UintInv w ao w.heap.size [nb, w2.heap.size, w2.heap.size + 1] xs)
    (fun pre A B S hS hI hm => hI.mod hm (fun k hk => by simpa using hS k hk) (by simp; omega) (by simp; omega))
    (fun W hW => ⟨ao, cap, by simpa using hW.get HBX.out (by simp), by simpa using HO.out.mod0 hW, (HM.out.trans' hW).nil, .inl rfl, fun k hk => by have := hltown k hk; simp; omega⟩)
    (fun x => { tmps := #[.slice ao xs.length cap, .int .u64 (m : Int), .pointer (some ⟨w.heap.size, 0, none⟩), undef, .slice none 0 0, .int .u8 ((x.1.toNat : Nat) : Int), .bool x.2, .int .u64 (m : Int), .func (.func 69) #[] #[.pointer (some ⟨nb, 0, none⟩)], .int .u8 ((x.1.toNat : Nat) : Int), .bool x.2, undef, undef, undef, undef, undef, undef, undef, undef, undef], defers := [] }) ?assign ?body ?done
  case assign =>
    intro l x W K hK
    gi_wp2
    exact hK
  case body =>
    rintro l pre x W hI hx hsize
    obtain ⟨ao', cap', hbox, ho, hm, hsn, hbad⟩ := hI
    have hxm : x ∈ grp m := hx.subset (by simp)
    have hxw := grp_wf m hm64 x hxm
    have hplen : pre.length < 11 := by
      have h1 := hx.length_le
      have h2 := grp_length m hm64
      have h3 := (enc7_length m).2
      simp at h1; omega
    obtain ⟨ys, hys⟩ : ∃ ys, ys = xs ++ pre.map grpB := ⟨_, rfl⟩
    have hylen : ys.length ≤ 140737488355020 := by rw [hys]; simp; omega
    rw [← hys] at hbox ho
    have HYS := Lib.hid hys
    have hcell := cell_of_one hbox
    have HB := Lib.hid hbox
    have HW := Lib.hid ho
    have HMW := Lib.hid hm
    have HSN := Lib.hid hsn
    have HBAD := Lib.hid hbad
    clear hys hbox ho hm hsn hbad
    obtain ⟨g, b⟩ := x
    have fin : ∀ (v : Value) (y : UInt8) (a2 : Option Addr) (c2 : Nat) (w4 : World), grpB (g, b) = y → OwnB w4 a2 c2 (ys ++ [y]) → Mod (blk ao') (W.alloc (.cells #[v] 5)) w4 → SameOrNew (W.alloc (.cells #[v] 5)) w4 ao' a2 →
        (w4.heap[w.heap.size]? = some (.cells #[.slice ao' ys.length cap'] 27 (0, 0)) ∧
        goesOn nb (UintInv w ao w.heap.size [nb, w2.heap.size, w2.heap.size + 1] xs) (pre ++ [(g, b)]) W .normal { tmps := #[], defers := [] } (w4.setCell ⟨w.heap.size, 0, none⟩ (.slice a2 (ys.length + 1) c2))) := by
      intro v y a2 c2 w4 hy ho4 hm4 hsn4
      have hma := Mod.alloc (blk ao') W (.cells #[v] 5)
      have hm5 : Mod (blk ao') W w4 := hma.trans' hm4
      have hb4 : w4.heap[w.heap.size]? = some (.cells #[.slice ao' ys.length cap'] 27 (0, 0)) := hm5.get HB.out (fun h => by have := HBAD.out _ h; simp at this)
      refine ⟨hb4, ?_, ?_, ?_⟩
      · refine (keepsOthers_of hm5 (Own.isCells HW.out)).trans ?_
        exact keepsOthers_of (Mod.setCell w4 _ _ (S := [w.heap.size]) (by simp)) (by intro k hk o ho; simp only [List.mem_singleton] at hk; subst hk; rw [hb4] at ho; cases ho; rfl)
      · rw [(Mod.setCell (S := [w.heap.size]) w4 ⟨w.heap.size, 0, none⟩ (.slice a2 (ys.length + 1) c2) (by simp)).block nb (by have := hm5.size; omega) (by simp; omega)]
        exact hm5.block nb (by omega) (fun h => by have := HBAD.out _ h; simp at this)
      · have e1 : xs ++ (pre ++ [(g, b)]).map grpB = ys ++ [y] := by rw [HYS.out]; simp [hy]
        have hblk2 : ∀ k, k ∈ blk a2 → k ∈ blk ao' ∨ W.heap.size + 1 ≤ k := fun k hk => by have := hsn4.blk k hk; simpa using this
        have hnin : ∀ k, k ∈ blk a2 → k ∉ [w.heap.size, nb, w2.heap.size, w2.heap.size + 1] := fun k hk hk2 => by
          rcases hblk2 k hk with h | h
          · exact HBAD.out k h hk2
          · simp at hk2; omega
        have hms := Mod.setCell (S := [w.heap.size]) w4 ⟨w.heap.size, 0, none⟩ (.slice a2 (ys.length + 1) c2) (by simp)
        refine ⟨a2, c2, ?_, ?_, ?_, ?_, hnin⟩
        · rw [e1]; simpa using one_setCell (u := .slice a2 (ys.length + 1) c2) hb4
        · rw [e1]; exact ho4.mod hms (fun k hk hs => by have := hnin k hk; simp at hs; simp [hs] at this)
        · refine (HMW.out.trans hm5 ?_).trans hms (by intro i hi hl; simp at hi; omega)
          intro i hi hl
          rcases HSN.out.blk i hi with h | h
          · exact h
          · omega
        · have hsz4 := hm5.size
          have hsz5 := HMW.out.size
          rcases hsn4 with rfl | ⟨g4, rfl, h1, h2⟩
          · rcases HSN.out with h | ⟨g5, h, h1, h2⟩
            · exact .inl h
            · exact .inr ⟨g5, h, h1, hms.lt (hm5.lt h2)⟩
          · exact .inr ⟨g4, rfl, by simp at h1; omega, hms.lt h2⟩
    have FIN := Lib.hid fin
    clear fin
    cases b with
    | true =>
      gi_wp2_with (gi_at_builtin; refine wplIn_app8 (dst := some 18) _ _ ao' _ cap' ys rfl rfl (HW.out.mod0 (Mod.alloc _ _ _)) _ 1 1 [g] rfl rfl (Sees.one _ _ _ _ rfl) (by omega) ?_; intro a2 c2 w4 ho4 hm4 hsn4; obtain ⟨hb4, hgo⟩ := FIN.out _ g a2 c2 w4 rfl ho4 hm4 hsn4; have hc4 := cell_of_one hb4; have hf4 := free_of_one hb4; have HGO := Lib.hid hgo; clear hgo hb4 ho4 hm4 hsn4)
      exact HGO.out
    | false =>
      obtain ⟨y, hy⟩ : ∃ y, grpB (g, false) = y := ⟨_, rfl⟩
      have e8 : bits BinOp.or IntKind.u8 (g.toNat : Int) 128 = (y.toNat : Int) := by
        have hxw' : g.toNat < 128 := hxw
        rw [u8_or128_right _ (by omega) (by omega), ← hy]
        show _ = ((UInt8.ofNat (128 + g.toNat)).toNat : Int)
        rw [UInt8.toNat_ofNat']; omega
      have HY := Lib.hid hy
      clear hy
      gi_wp2_with (gi_at_builtin; refine wplIn_app8 (dst := some 18) _ _ ao' _ cap' ys rfl rfl (HW.out.mod0 (Mod.alloc _ _ _)) _ 1 1 [y] rfl rfl (Sees.one _ _ _ _ rfl) (by omega) ?_; intro a2 c2 w4 ho4 hm4 hsn4; obtain ⟨hb4, hgo⟩ := FIN.out _ y a2 c2 w4 HY.out ho4 hm4 hsn4; have hc4 := cell_of_one hb4; have hf4 := free_of_one hb4; have HGO := Lib.hid hgo; clear hgo hb4 ho4 hm4 hsn4)
      exact HGO.out
  case done =>
    rintro W ⟨ao', cap', hbox, ho, hm, hsn, hbad⟩ hD
    rw [grp_enc m hm64] at hbox ho
    have hcell := cell_of_one hbox
    have HW := Lib.hid ho
    have HMW := Lib.hid hm
    have HSN := Lib.hid hsn
    have HBAD := Lib.hid hbad
    have HD := Lib.hid hD
    obtain ⟨ys, hys⟩ : ∃ ys, ys = xs ++ enc7 m := ⟨_, rfl⟩
    rw [← hys] at hcell HW
    have HYS := Lib.hid hys
    clear hbox ho hm hsn hbad hD hys
    gi_wp2
    refine ⟨by simp, .inl ⟨_, _, rfl, run_takeDeferred HD.out, ?_⟩⟩
    refine ⟨_, results_tmp rfl _ _ _, ?_⟩
    show RetApp w ao (xs ++ enc7 m) _ _
    rw [← HYS.out]
    refine ⟨ao', ys.length, cap', rfl, rfl, ?_, ?_, ?_⟩
    · exact HW.out.mod (mod_putObj (S := [w2.heap.size]) _ _ _ (by simp)) (fun k hk hs => by have := HBAD.out k hk; simp at hs; simp [hs] at this)
    · exact HMW.out.trans (mod_putObj (S := [w2.heap.size]) _ _ _ (by simp)) (by intro i hi hl; simp at hi; omega)
    · rcases HSN.out with h | ⟨g5, h, h1, h2⟩
      · exact .inl h
      · exact .inr ⟨g5, h, h1, (mod_putObj (S := [w2.heap.size]) W w2.heap.size _ (by simp)).lt h2⟩

theorem vuint_any (ao : Option Addr) (len cap m : Nat) (xs : List UInt8) (w : World)
    (hlen : xs.length = len) (hown : OwnB w ao cap xs) (hm64 : m < 18446744073709551616) (hb : len ≤ 140737488355000) :
    Calls Tryd.prog 29 #[.slice ao len cap, .int .u64 (m : Int)] w (RetApp w ao (xs ++ enc7 m)) :=
  (callsIn_wide (n := 3)).1 (vuint_in Fence.wide 3 trivial trivial trivial rfl (by omega) ao len cap m xs w hlen hown hm64 hb)
end Go.Proofs.YtekdnljincbghaaDoor
