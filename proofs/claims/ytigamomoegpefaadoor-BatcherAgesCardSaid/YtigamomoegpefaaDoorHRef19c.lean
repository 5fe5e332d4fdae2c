/- The batcher laws' reference: Take. -/
import Derived.Test.YtigamomoegpefaaDoorHRef19b
namespace Go.Proofs.YtigamomoegpefaaDoor
open Go Go.RowKit Go.Lib

structure TkS (w0 w : World) (g : Nat) (ba ag now : Int) (la : Option Addr) (l : List Wt) (n j : Nat) (ao : Option Addr) (cap : Nat) (out : List Cm) (la' : Option Addr) (lc' : Nat) (l' : List Wt) (wr : World) : Prop where
  ref : RefW w0 wr g ba ag now la' lc' l'
  mod : Mod (g :: blk la) w wr
  lnew : ∀ k, k ∈ blk la' → k ∈ blk la ∨ w.heap.size ≤ k
  own : OwnC wr ao cap out
  each : ∀ c ∈ out, SeesT w0 c.2.1 c.1.keys ∧ Wf c.1
  onew : ∀ k, k ∈ blk ao → w.heap.size ≤ k ∧ k ∉ blk la'
  len : out.length = j
  one : out.map Prod.fst ++ (takeN (n - j) (rL l')).1 = (takeN n (rL l)).1
  two : (takeN (n - j) (rL l')).2 = (takeN n (rL l)).2
  left : l'.length + j = l.length
def Take19W (w0 w : World) (g : Nat) (ba ag now : Int) (la : Option Addr) (l : List Wt) (n : Nat) (e : Ending) (w' : World) : Prop :=
  ∃ ao cap out la' lc' l', e = .returned (.slice ao out.length cap) ∧ out.map Prod.fst = (takeN n (rL l)).1 ∧ OwnC w' ao cap out ∧ (∀ c ∈ out, SeesT w0 c.2.1 c.1.keys ∧ Wf c.1) ∧ RefW w0 w' g ba ag now la' lc' l' ∧ rL l' = (takeN n (rL l)).2 ∧
    Mod (g :: blk la) w w' ∧ (∀ k, k ∈ blk la' → k ∈ blk la ∨ w.heap.size ≤ k) ∧ ∀ k, k ∈ blk ao → w.heap.size ≤ k
theorem rL_erase (l : List Wt) (k : Nat) : rL (l.eraseIdx k) = (rL l).eraseIdx k := by
  unfold rL
  apply List.ext_getElem?
  intro i
  rw [List.getElem?_map, List.getElem?_eraseIdx, List.getElem?_eraseIdx]
  split <;> rw [List.getElem?_map]

theorem TkS.step {w0 w : World} {g : Nat} {ba ag now : Int} {la : Option Addr} {l : List Wt} {n j : Nat} {ao : Option Addr} {cap : Nat} {out : List Cm} {la' : Option Addr} {lc' : Nat} {l' : List Wt} {wr w2 w3 w4 w5 : World} {k : Nat} {x : Wt} {a3 a4 a5 : Option Addr} {cp3 cp4 cp5 N : Nat}
    (E : TkS w0 w g ba ag now la l n j ao cap out la' lc' l' wr) (hjn : j < n) (hgw : g < w.heap.size) (hx : l'[k]? = some x) (hk : eldI (rL l') = k) (hN : N + 1 = l'.length)
    (m2 : Mod [] wr w2) (o3 : OwnC w3 a3 cp3 (out ++ [x.1])) (m3 : Mod (blk ao) w2 w3) (n3 : SameOrNew w2 w3 ao a3) (_ : OwnW w4 a4 cp4 (l'.take k)) (m4 : Mod (blk none) w3 w4) (n4 : SameOrNew w3 w4 none a4)
    (o5 : OwnW w5 a5 cp5 (l'.take k ++ l'.drop (k + 1))) (m5 : Mod (blk a4) w4 w5) (n5 : SameOrNew w4 w5 a4 a5) :
    TkS w0 w g ba ag now la l n (j + 1) a3 cp3 (out ++ [x.1]) a5 cp5 (l'.eraseIdx k) (w5.setCell ⟨g, 3, none⟩ (.slice a5 N cp5)) := by
  obtain ⟨hkl, hxk⟩ := List.getElem?_eq_some_iff.1 hx
  have er : l'.take k ++ l'.drop (k + 1) = l'.eraseIdx k := (List.eraseIdx_eq_take_drop_succ ..).symm
  rw [er] at o5
  have z1 := E.mod.size
  have z2 := m2.size
  have z3 := m3.size
  have z4 := m4.size
  have z5 := m5.size
  have ha4 : ∀ q, q ∈ blk a4 → w3.heap.size ≤ q := fun q hq => (n4.blk q hq).resolve_left List.not_mem_nil
  have ha5 : ∀ q, q ∈ blk a5 → w3.heap.size ≤ q := fun q hq => by
    rcases n5.blk q hq with h | h
    · exact ha4 q h
    · omega
  have ha3 : ∀ q, q ∈ blk a3 → w.heap.size ≤ q ∧ q < w3.heap.size := fun q hq => by
    refine ⟨?_, Own.lt o3 q hq⟩
    rcases n3.blk q hq with h | h
    · exact (E.onew q h).1
    · omega
  have hg4 : g ∉ blk a4 := fun h => by have := ha4 g h; omega
  have hg5 : g ∉ blk a5 := fun h => by have := ha5 g h; omega
  have hgo : g ∉ blk ao := fun h => by have := (E.onew g h).1; omega
  have hb : w5.heap[g]? = some (.cells #[.int .i64 ba, .int .i64 ag, .int .i64 now, .slice la' l'.length lc'] 49 (0, 0)) := m5.get (m4.get (m3.get (m2.get E.ref.blk List.not_mem_nil) hgo) List.not_mem_nil) hg4
  have hb6 := heap_setCell_same (i := 3) hb (.slice a5 N cp5)
  have m6 : Mod [g] w5 (w5.setCell ⟨g, 3, none⟩ (.slice a5 N cp5)) := Mod.setCell _ _ _ (by simp)
  have hel : (l'.eraseIdx k).length = N := by rw [List.length_eraseIdx, if_pos hkl]; omega
  have m35 : Mod [] w3 w5 := (show Mod [] w3 w4 from m4).trans m5 (fun q hq hl => by have := ha4 q hq; omega)
  have key : takeN (n - j) (rL l') = (x.1.1 :: (takeN (n - (j + 1)) (rL (l'.eraseIdx k))).1, (takeN (n - (j + 1)) (rL (l'.eraseIdx k))).2) := by
    have h1 : (rL l')[eldI (rL l')]? = some (x.1.1, x.2) := by
      rw [hk]
      unfold rL
      rw [List.getElem?_map, hx]
      rfl
    rw [show n - j = (n - (j + 1)) + 1 by omega, takeN_succ _ _ _ h1, hk, rL_erase]
  refine ⟨⟨?_, ?_, hg5, fun y hy => E.ref.each y (List.mem_of_mem_eraseIdx hy)⟩, ?_, fun q hq => .inr ?_, ?_, ?_, fun q hq => ⟨(ha3 q hq).1, fun h => ?_⟩, ?_, ?_, ?_, ?_⟩
  · rw [hel]; exact hb6
  · exact Own.mod o5 m6 (fun q hq h => by simp at h; subst h; exact hg5 hq)
  · have h1 : Mod (g :: blk la) w w3 := (E.mod.trans0 m2).trans m3 (fun q hq hl => by have := (E.onew q hq).1; omega)
    exact (h1.trans0 m35).trans m6 (fun q hq _ => by simp at hq; simp [hq])
  · have := ha5 q hq; omega
  · exact Own.mod (Own.mod0 o3 m35) m6 (fun q hq h => by simp at h; subst h; have := (ha3 _ hq).1; omega)
  · intro c hc
    rcases List.mem_append.1 hc with hc | hc
    · exact E.each c hc
    · simp only [List.mem_singleton] at hc
      subst hc
      exact E.ref.each x (List.mem_of_getElem? hx)
  · have := (ha3 q hq).2; have := ha5 q h; omega
  · rw [List.length_append, E.len]; rfl
  · have h1 := E.one
    rw [key] at h1
    rw [List.map_append, List.append_assoc]
    exact h1
  · have h1 := E.two
    rw [key] at h1
    exact h1
  · have := E.left; omega

set_option maxRecDepth 100000 in
set_option maxHeartbeats 4000000 in
theorem take19_any (w0 : World) (g : Nat) (ba ag now : Int) (la : Option Addr) (lc : Nat) (l : List Wt) (n : Nat) (w : World) (h : RefW w0 w g ba ag now la lc l) (hl : l.length ≤ 64) (hn : n ≤ 1000) :
    Calls Tryd.prog 31 #[.pointer (some ⟨g, 0, none⟩), .int .i64 (n : Int)] w (Take19W w0 w g ba ag now la l n) := by
  have H0 : Hid (TkS w0 w g ba ag now la l n 0 none 0 [] la lc l w) := Lib.hid ⟨h, Mod.refl _ _, fun k hk => .inl hk, Own.nil0 _ _ _, fun c hc => absurd hc (by simp), fun k hk => absurd hk (by simp [blk]), rfl, rfl, rfl, rfl⟩
  have hgw : g < w.heap.size := lt_of_block h.blk
  have HLA := Lib.hid (Own.lt h.own)
  clear h
  go_enter Tryd.func31, Tryd.ntmps31
  go_wp2_with fail
  go_loopw [5, 6] (fun o i wr => ∃ (j : Nat) (ao : Option Addr) (cap : Nat) (out : List Cm) (la' : Option Addr) (lc' : Nat) (l' : List Wt), i = .int .i64 (j : Int) ∧ o = .slice ao j cap ∧ j ≤ n ∧ TkS w0 w g ba ag now la l n j ao cap out la' lc' l' wr) (fun _ i _ => n - (intOf i).toNat)
  case atStart => exact ⟨0, none, 0, [], la, lc, l, rfl, rfl, by omega, H0.out⟩
  case round =>
    obtain ⟨j, ao, cap, out, la', lc', l', rfl, rfl, hj, hs⟩ := hrel
    have E := Lib.hid hs
    obtain ⟨m, hm⟩ : ∃ m, l'.length = m := ⟨_, rfl⟩
    have HM := Lib.hid hm
    have c3 := cell_of_block (i := 3) hs.ref.blk
    rw [hm] at c3
    have hm64 : m ≤ 64 := by have := hs.left; omega
    clear hs H0 hm
    by_cases hjn : j < n
    case neg =>
      have hje : j = n := by omega
      subst hje
      go_wp2_with fail
      go_ret
      have h1 := E.out.one
      have h2 := E.out.two
      rw [Nat.sub_self] at h1 h2
      have h1 : out.map Prod.fst = (takeN j (rL l)).1 := by rw [← h1]; simp [takeN]
      exact ⟨ao, cap, out, la', lc', l', by rw [E.out.len]; rfl, h1, E.out.own, E.out.each, E.out.ref, h2, E.out.mod, E.out.lnew, fun k hk => (E.out.onew k hk).1⟩
    by_cases hm0 : m = 0
    · subst hm0
      go_wp2_with fail
      go_ret
      have hr : l' = [] := List.eq_nil_of_length_eq_zero HM.out
      subst hr
      have h1 := E.out.one
      have h2 := E.out.two
      rw [show rL ([] : List Wt) = [] from rfl, takeN_nil] at h1 h2
      rw [List.append_nil] at h1
      exact ⟨ao, cap, out, la', lc', [], by rw [E.out.len]; rfl, h1, E.out.own, E.out.each, E.out.ref, h2, E.out.mod, E.out.lnew, fun k hk => (E.out.onew k hk).1⟩
    have hmp : 0 < m := by omega
    obtain ⟨he, hk, _, _⟩ := eldI_some (rL l') (by rw [rL_length, HM.out]; omega)
    rw [rL_length] at he hk
    have HE := Lib.hid (eldest19_any w0 g ba ag now la' lc' l' wr E.out.ref (by rw [HM.out]; omega))
    rw [he] at HE
    dsimp only at HE
    obtain ⟨k, hkk⟩ : ∃ k, eldI (rL l') = k := ⟨_, rfl⟩
    rw [hkk] at HE hk
    obtain ⟨x, hx⟩ : ∃ x, l'[k] = x := ⟨_, rfl⟩
    have HX : Hid (l'[k]? = some x) := Lib.hid (by rw [List.getElem?_eq_getElem hk, hx])
    have HKK := Lib.hid hkk
    have hkm : k < m := by rw [← HM.out]; exact hk
    obtain ⟨b, rfl, q⟩ := E.out.ref.own.at' hk
    rw [hx] at q
    have Q := Lib.hid q
    clear he hk hkk hx q
    go_wp2_with fail
    refine HE.out.mono ?_
    rintro e w1 ⟨rfl, m1⟩
    have R1 := Lib.hid (E.out.ref.mod0 m1)
    have O1 := Lib.hid (Own.mod0 E.out.own m1)
    have M1 := Lib.hid (E.out.mod.trans0 m1)
    have S1 : Hid (wr.heap.size ≤ w1.heap.size) := Lib.hid m1.size
    obtain ⟨⟨q0, q1, q2, q3, q4, q5, q6⟩, q7⟩ := Q.out
    have q0 := m1.cell q0 List.not_mem_nil
    have q1 := m1.cell q1 List.not_mem_nil
    have q2 := m1.cell q2 List.not_mem_nil
    have q3 := m1.cell q3 List.not_mem_nil
    have q4 := m1.cell q4 List.not_mem_nil
    have q5 := m1.cell q5 List.not_mem_nil
    have q6 := m1.cell q6 List.not_mem_nil
    have c3 := m1.cell c3 List.not_mem_nil
    have hki : (k : Int) < (m : Int) := by omega
    have hk0 : (0 : Int) ≤ (k : Int) := by omega
    have MW1 := Lib.hid m1
    clear m1 HE q7 Q
    have hb2 := heap_alloc_new w1 (.cells #[.int .u32 (x.1.1.client : Int), .int .u32 (x.1.1.seq : Int), .int .u8 (x.1.1.kind : Int), .slice x.1.2.1 x.1.1.keys.length x.1.2.2, .string x.1.1.old, .string x.1.1.fresh, .int .i64 x.1.1.n] 36)
    have m2 := Mod.alloc [] w1 (.cells #[.int .u32 (x.1.1.client : Int), .int .u32 (x.1.1.seq : Int), .int .u8 (x.1.1.kind : Int), .slice x.1.2.1 x.1.1.keys.length x.1.2.2, .string x.1.1.old, .string x.1.1.fresh, .int .i64 x.1.1.n] 36)
    have SH := Lib.hid (showsC (x := x.1) hb2)
    have O2 := Lib.hid (Own.mod0 O1.out m2)
    have R2 := Lib.hid (R1.out.mod0 m2)
    have M2 := Lib.hid (M1.out.trans0 m2)
    have S2 : Hid _ := Lib.hid m2.size
    have hol := E.out.len
    have hol6 : j + 1 ≤ 1000000 := by omega
    have MW2 := Lib.hid (MW1.out.trans' m2)
    clear hb2 m2 O1 R1 M1
    have hgo : g ∉ blk ao := fun h => by have := (E.out.onew g h).1; omega
    have hlo : ∀ k, k ∈ blk (some (⟨b, 0, none⟩ : Addr)) → k ∉ blk ao := fun k hk h => (E.out.onew k h).2 hk
    have hlc : m ≤ lc' := by have := Own.le R2.out.own; rw [HM.out] at this; exact this
    have hcm : lc' ≤ 9223372036854775807 := by have := Own.cap_le R2.out.own; unfold maxLen at this; omega
    have hsl : (0 : Int) ≤ (k : Int) ∧ (k : Int) ≤ (lc' : Int) := by omega
    have htk : (l'.take k).length = k := by rw [List.length_take, HM.out]; omega
    have hw1 : IntKind.i64.wrap ((k : Int) + 1) = (k : Int) + 1 := IntWalk.i64_in _ (by omega)
    have hki1 : (k : Int) + 1 ≤ (m : Int) := by omega
    have hki2 : (0 : Int) ≤ (k : Int) + 1 ∧ (k : Int) + 1 ≤ (m : Int) := by omega
    have hdl : (l'.drop (k + 1)).length = m - (k + 1) := by rw [List.length_drop, HM.out]
    by_cases hrc : lc' = k + 1
    · have hmk : m = k + 1 := by omega
      have HL8 : Hid (l'.drop (k + 1) = []) := Lib.hid (List.drop_eq_nil_of_le (by rw [HM.out]; omega))
      subst hrc
      subst hmk
      rw [Nat.sub_self] at hdl
      go_wp2_with (first
        | (at_builtin; refine wpl_appC (dst := some 34) _ _ ao j cap out rfl hol O2.out _ x.1 rfl SH.out hol6 ?_; intro a3 cp3 w3 o3 m3 n3; have O3 := Lib.hid o3; have N3 := Lib.hid n3; have R3 := Lib.hid (R2.out.mod m3 hgo hlo); have MM3 := Lib.hid m3; have c3 := cell_of_block (i := 3) R3.out.blk; rw [HM.out] at c3; clear o3 m3 n3)
        | (at_builtin; refine wpl_appW (dst := some 42) _ _ none 0 0 [] rfl rfl (Own.nil0 _ _ _) _ k _ (l'.take k) rfl htk (OwnW.takes R3.out.own k) (by omega) ?_; intro a4 cp4 w4 o4 m4 n4; have O4 := Lib.hid o4; have N4 := Lib.hid n4; have R4 := Lib.hid (R3.out.mod0 m4); have MM4 := Lib.hid m4; have c3 := cell_of_block (i := 3) R4.out.blk; rw [HM.out] at c3; clear o4 m4 n4)
        | (at_builtin; refine wpl_appW (dst := some 52) _ _ a4 k cp4 (l'.take k) rfl htk O4.out _ _ _ (l'.drop (k + 1)) rfl hdl (by rw [HL8.out]; exact Shows.nil _ _) (by omega) ?_; intro a5 cp5 w5 o5 m5 n5; have O5 := Lib.hid o5; have N5 := Lib.hid n5; have MM5 := Lib.hid m5; have HG4 : Hid (g ∉ blk a4) := Lib.hid (fun hk => by (rcases N4.out.blk g hk with h | h; exact absurd h List.not_mem_nil; have h6 := MM3.out.size; have h7 := M2.out.size; omega)); have HB5 := Lib.hid (m5.get R4.out.blk HG4.out); have c3 := cell_of_block (i := 3) HB5.out; have f3 := free_of_block (i := 3) HB5.out; clear o5 m5 n5)
        | fail)
      go_roundw
      case rel => exact ⟨j + 1, a3, cp3, out ++ [x.1], a5, cp5, l'.eraseIdx k, by go_num, rfl, by omega, E.out.step hjn hgw HX.out HKK.out (by rw [HM.out]) MW2.out O3.out MM3.out N3.out O4.out MM4.out N4.out O5.out MM5.out N5.out⟩
      case measure => simp [intOf]; omega
    · go_wp2_with (first
        | (at_builtin; refine wpl_appC (dst := some 34) _ _ ao j cap out rfl hol O2.out _ x.1 rfl SH.out hol6 ?_; intro a3 cp3 w3 o3 m3 n3; have O3 := Lib.hid o3; have N3 := Lib.hid n3; have R3 := Lib.hid (R2.out.mod m3 hgo hlo); have MM3 := Lib.hid m3; have c3 := cell_of_block (i := 3) R3.out.blk; rw [HM.out] at c3; clear o3 m3 n3)
        | (at_builtin; refine wpl_appW (dst := some 42) _ _ none 0 0 [] rfl rfl (Own.nil0 _ _ _) _ k _ (l'.take k) rfl htk (OwnW.takes R3.out.own k) (by omega) ?_; intro a4 cp4 w4 o4 m4 n4; have O4 := Lib.hid o4; have N4 := Lib.hid n4; have R4 := Lib.hid (R3.out.mod0 m4); have MM4 := Lib.hid m4; have c3 := cell_of_block (i := 3) R4.out.blk; rw [HM.out] at c3; clear o4 m4 n4)
        | (at_builtin; refine wpl_appW (dst := some 52) _ _ a4 k cp4 (l'.take k) rfl htk O4.out _ _ _ (l'.drop (k + 1)) rfl hdl (OwnW.drops R4.out.own (k + 1)) (by omega) ?_; intro a5 cp5 w5 o5 m5 n5; have O5 := Lib.hid o5; have N5 := Lib.hid n5; have MM5 := Lib.hid m5; have HG4 : Hid (g ∉ blk a4) := Lib.hid (fun hk => by (rcases N4.out.blk g hk with h | h; exact absurd h List.not_mem_nil; have h6 := MM3.out.size; have h7 := M2.out.size; omega)); have HB5 := Lib.hid (m5.get R4.out.blk HG4.out); have c3 := cell_of_block (i := 3) HB5.out; have f3 := free_of_block (i := 3) HB5.out; clear o5 m5 n5)
        | fail)
      go_roundw
      case rel => exact ⟨j + 1, a3, cp3, out ++ [x.1], a5, cp5, l'.eraseIdx k, by go_num, rfl, by omega, E.out.step hjn hgw HX.out HKK.out (by rw [HM.out]; omega) MW2.out O3.out MM3.out N3.out O4.out MM4.out N4.out O5.out MM5.out N5.out⟩
      case measure => simp [intOf]; omega
end Go.Proofs.YtigamomoegpefaaDoor
