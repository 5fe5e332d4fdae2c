/- The reference's reader of a message: numbers, ballots, texts. -/
import Derived.Test.YtekdnljincbghaaDoorHMsgT1
import Derived.Test.YtekdnljincbghaaDoorZ5
namespace Go.Proofs.YtekdnljincbghaaDoor
open Go Go.RowKit Go.Lib

/-- A reader: what is left, and whether all was as it must be. -/
structure RS where
  l : List UInt8
  ok : Bool
def RS.num (s : RS) : Nat × RS := if s.ok = true ∧ (uintE 10 0 0 0 s.l).2.1 = 0 then ((uintE 10 0 0 0 s.l).1, ⟨(uintE 10 0 0 0 s.l).2.2, true⟩) else (0, ⟨s.l, false⟩)
def RS.ball (s : RS) : (Nat × Nat) × RS := if 6 < s.num.2.num.1 then ((0, 0), ⟨s.num.2.num.2.l, false⟩) else ((s.num.1, s.num.2.num.1), s.num.2.num.2)
def RS.text (s : RS) : List UInt8 × RS := if s.num.2.ok = true ∧ s.num.1 ≤ s.num.2.l.length then (s.num.2.l.take s.num.1, ⟨s.num.2.l.drop s.num.1, true⟩) else ([], ⟨s.num.2.l, false⟩)
theorem RS.num_lt (s : RS) : s.num.1 < 18446744073709551616 := by
  unfold RS.num
  split
  · exact uintE_lt 0 s.l
  · show 0 < 18446744073709551616
    omega
theorem RS.num_dec {s : RS} {x k : Nat} (hok : s.ok = true) (h : Dec s.l x (s.l.drop k)) : s.num = (x, ⟨s.l.drop k, true⟩) := by
  unfold RS.num
  rw [dec_uint h, if_pos ⟨hok, rfl⟩]
theorem RS.num_bad {s : RS} (h : s.ok = false ∨ ∀ v rest, ¬ Dec s.l v rest) : s.num = (0, ⟨s.l, false⟩) := by
  unfold RS.num
  rw [if_neg]
  rintro ⟨h1, h2⟩
  rcases h with h | h
  · rw [h] at h1; cases h1
  · exact h _ _ (dec_of_uint h2)
/-- A reader in memory. -/
def RRd (w : World) (g : Nat) (bs : List Nat) (s : RS) : Prop :=
  (∀ k, k ∈ bs → k < g) ∧ ∃ ao cap, w.heap[g]? = some (.cells #[.slice ao s.l.length cap, .bool s.ok] 80 (0, 0)) ∧
    s.l.length ≤ cap ∧ cap ≤ 9223372036854775807 ∧ Sees w ao s.l ∧ (s.l ≠ [] → ∀ k, k ∈ blk ao → k ∈ bs)
theorem RRd.mod {S : List Nat} {w w' : World} {g : Nat} {bs : List Nat} {s : RS} (h : RRd w g bs s) (hm : Mod S w w') (hg : g ∉ S) (hb : ∀ k, k ∈ bs → k ∉ S) : RRd w' g bs s := by
  obtain ⟨h1, ao, cap, h2, h3, h4, h5, h6⟩ := h
  exact ⟨h1, ao, cap, hm.get h2 hg, h3, h4, h5.mod' hm (fun h0 k hk => hb k (h6 h0 k hk)), h6⟩
theorem RRd.mod0 {w w' : World} {g : Nat} {bs : List Nat} {s : RS} (h : RRd w g bs s) (hm : Mod [] w w') : RRd w' g bs s := h.mod hm List.not_mem_nil (fun _ _ => List.not_mem_nil)
theorem RRd.off {S : List Nat} {w w' : World} {g : Nat} {bs : List Nat} {s : RS} (h : RRd w g bs s) (hm : Mod S w w') (hS : ∀ k, k ∈ S → g < k) : RRd w' g bs s :=
  h.mod hm (fun hk => by have := hS _ hk; omega) (fun k hk hs => by have := hS _ hs; have := h.1 k hk; omega)
theorem RRd.lt {w : World} {g : Nat} {bs : List Nat} {s : RS} (h : RRd w g bs s) : g < w.heap.size := by
  obtain ⟨h1, ao, cap, h2, _⟩ := h
  exact lt_of_block h2
theorem RRd.bad {w : World} {g : Nat} {bs : List Nat} {s : RS} (h : RRd w g bs s) (b : Bool) : RRd (w.setCell ⟨g, 1, none⟩ (.bool b)) g bs ⟨s.l, b⟩ := by
  obtain ⟨h1, ao, cap, h2, h3, h4, h5, h6⟩ := h
  refine ⟨h1, ao, cap, ?_, h3, h4, h5.mod' (Mod.setCell (S := [g]) w ⟨g, 1, none⟩ _ (by simp)) (fun h0 k hk hg => by simp only [List.mem_singleton] at hg; have := h1 k (h6 h0 _ hk); omega), h6⟩
  rw [heap_setCell_same h2]; rfl
theorem RRd.pass {w : World} {g : Nat} {bs : List Nat} {s : RS} {l' : List UInt8} (h : RRd w g bs s) {ao : Option Addr} {cap n : Nat} (hl : l'.length = n) (hc : n ≤ cap) (hm : cap ≤ 9223372036854775807) (hs : Sees w ao l') (hb : l' ≠ [] → ∀ k, k ∈ blk ao → k ∈ bs) :
    RRd (w.setCell ⟨g, 0, none⟩ (.slice ao n cap)) g bs ⟨l', s.ok⟩ := by
  subst hl
  obtain ⟨h1, ao0, cap0, h2, h3, h4, h5, h6⟩ := h
  refine ⟨h1, ao, cap, ?_, hc, hm, hs.mod' (Mod.setCell (S := [g]) w ⟨g, 0, none⟩ _ (by simp)) (fun h0 k hk hg => by simp only [List.mem_singleton] at hg; have := h1 k (hb h0 _ hk); omega), hb⟩
  rw [heap_setCell_same h2]; rfl
theorem RRd.open {w : World} {g : Nat} {bs : List Nat} {s : RS} (h : RRd w g bs s) :
    ∃ ao cap, w.cell? ⟨g, 0, none⟩ = some (.slice ao s.l.length cap) ∧ w.cell? ⟨g, 1, none⟩ = some (.bool s.ok) ∧
      (∀ i, w.frozen? ⟨g, i, none⟩ = false) ∧ s.l.length ≤ cap ∧ cap ≤ 9223372036854775807 ∧ Sees w ao s.l ∧ (s.l ≠ [] → ∀ k, k ∈ blk ao → k ∈ bs) := by
  obtain ⟨h1, ao, cap, h2, h3, h4, h5, h6⟩ := h
  exact ⟨ao, cap, by rw [cell_of_block h2]; rfl, by rw [cell_of_block h2]; rfl, fun i => free_of_block h2, h3, h4, h5, h6⟩

set_option maxRecDepth 100000 in
set_option maxHeartbeats 1000000 in
theorem rnum_any (g : Nat) (bs : List Nat) (s : RS) (w : World) (h : RRd w g bs s) :
    Calls Tryd.prog 43 #[.pointer (some ⟨g, 0, none⟩)] w fun e w' => e = .returned (.int .u64 (s.num.1 : Int)) ∧ RRd w' g bs s.num.2 ∧ Mod [g] w w' := by
  obtain ⟨l, ok⟩ := s
  obtain ⟨ao, cap, c0, c1, fr, h3, h4, h5, h6⟩ := h.open
  dsimp only at c0 c1 h3 h5 h6
  have H := Lib.hid h
  have HT := Lib.hid (refTake_any ao l.length cap l w rfl h3 h4 h5)
  have HB := Lib.hid h6
  clear h fr h5 h6
  obtain ⟨ln, hln⟩ : ∃ n, l.length = n := ⟨_, rfl⟩
  rw [hln] at c0 h3 HT
  have HLN := Lib.hid hln
  clear hln
  go_enter Tryd.func43, Tryd.ntmps43
  go_wp2_with fail
  refine HT.out.mono ?_
  rintro e w1 ⟨⟨x, k, er, rfl, htk⟩, m1⟩
  have H1 := Lib.hid (H.out.mod0 m1)
  have M1 := Lib.hid (m1.nil (S := [g]))
  clear m1 H HT c0 c1
  obtain ⟨ao1, cap1, d0, d1, fr, h31, h41, h51, h61⟩ := H1.out.open
  dsimp only at d0 d1 h31 h51 h61
  rw [HLN.out] at d0 h31
  have fr0 := fr 0
  have fr1 := fr 1
  have HS := Lib.hid h51
  have HB1 := Lib.hid h61
  have HTK := Lib.hid htk
  clear fr h51 h61 htk h3 h4 HB
  by_cases her : er = 0
  case neg =>
    have D : (er != 0) = true := by rw [bne_iff_ne]; exact her
    have HV : Hid ((⟨l, ok⟩ : RS).num = (0, ⟨l, false⟩)) := Lib.hid (by
      refine RS.num_bad (.inr ?_)
      rcases HTK.out with h | h
      · exact absurd h.1 her
      · exact h.2)
    have HE := Lib.hid her
    clear her HTK
    go_wp2_with fail
    go_ret
    rw [HV.out]
    exact ⟨rfl, H1.out.bad false, M1.out.trans' (Mod.setCell _ _ _ (by simp))⟩
  subst her
  cases ok with
  | false =>
    have HV : Hid ((⟨l, false⟩ : RS).num = (0, ⟨l, false⟩)) := Lib.hid (RS.num_bad (.inl rfl))
    clear HTK
    go_wp2_with fail
    go_ret
    rw [HV.out]
    exact ⟨rfl, H1.out.bad false, M1.out.trans' (Mod.setCell _ _ _ (by simp))⟩
  | true =>
    have hd : k ≤ l.length ∧ Dec l x (l.drop k) := by
      rcases HTK.out with h | h
      · exact h.2
      · exact absurd rfl h.1
    have HV : Hid ((⟨l, true⟩ : RS).num = (x, ⟨l.drop k, true⟩)) := Lib.hid (RS.num_dec rfl hd.2)
    have hne : l ≠ [] := by
      have h1 := hd.2.2
      have h2 := (enc7_length x).1
      intro h
      rw [h] at h1
      have h3 := congrArg List.length h1
      rw [List.length_append, List.length_nil] at h3
      omega
    have hkl := hd.1
    rw [HLN.out] at hkl
    have hdl : (l.drop k).length = ln - k := by rw [List.length_drop, HLN.out]
    have hpos : 0 < l.length := List.length_pos_iff.2 hne
    obtain ⟨b, off, rfl, -⟩ := HS.out 0 hpos
    have HNE := Lib.hid hne
    have HDL := Lib.hid hdl
    clear hd hne hdl hpos HTK
    by_cases hkc : k = cap1
    · have hd0 : l.drop k = [] := List.drop_eq_nil_of_le (by rw [HLN.out]; omega)
      have hln : ln = k := by omega
      have HD0 := Lib.hid hd0
      clear hd0
      subst hln
      subst hkc
      go_wp2_with fail
      go_ret
      rw [HV.out, HD0.out]
      exact ⟨rfl, H1.out.pass (by simp) (by omega) (by omega) (Sees.nil _ _) (fun h => absurd rfl h), M1.out.trans' (Mod.setCell _ _ _ (by simp))⟩
    · have hk1 : (k : Int) ≤ (ln : Int) := by omega
      go_wp2_with fail
      go_ret
      rw [HV.out]
      exact ⟨rfl, H1.out.pass HDL.out (by omega) (by omega) (HS.out.drop k) (by intro h0 j hj; exact HB1.out HNE.out j (by simpa [blk] using hj)), M1.out.trans' (Mod.setCell _ _ _ (by simp))⟩
theorem RS.num_le (s : RS) : s.num.2.l.length ≤ s.l.length := by
  unfold RS.num
  split
  · exact uintR_le 10 0 0 s.l
  · exact Nat.le_refl _
set_option maxRecDepth 100000 in
set_option maxHeartbeats 1000000 in
theorem rtx_any (g : Nat) (bs : List Nat) (s : RS) (w : World) (h : RRd w g bs s) (hb : s.l.length ≤ 1000000) :
    Calls Tryd.prog 45 #[.pointer (some ⟨g, 0, none⟩)] w fun e w' => ∃ ao cap, e = .returned (bsV (s.text.1, ao, cap)) ∧ NewB w.heap.size w' (s.text.1, ao, cap) ∧ RRd w' g bs s.text.2 ∧ Mod [g] w w' := by
  have HT := Lib.hid (rnum_any g bs s w h)
  have hle := s.num_le
  have hlt := s.num_lt
  have HX : Hid (s.text = if s.num.2.ok = true ∧ s.num.1 ≤ s.num.2.l.length then (s.num.2.l.take s.num.1, ⟨s.num.2.l.drop s.num.1, true⟩) else ([], ⟨s.num.2.l, false⟩)) := Lib.hid rfl
  have hg := h.lt
  obtain ⟨⟨n, l, ok⟩, hn⟩ : ∃ p, s.num = p := ⟨_, rfl⟩
  rw [hn] at HT hle hlt HX
  dsimp only at HT hle hlt HX
  have hlb : l.length ≤ 1000000 := by omega
  clear h hn hb hle
  go_enter Tryd.func45, Tryd.ntmps45
  go_wp2_with fail
  refine HT.out.mono ?_
  rintro e w1 ⟨rfl, r1, m1⟩
  have H1 := Lib.hid r1
  have M1 := Lib.hid m1
  obtain ⟨ao, cap, c0, c1, fr, h3, h4, h5, h6⟩ := r1.open
  dsimp only at c0 c1 h3 h5 h6
  have fr0 := fr 0
  have fr1 := fr 1
  have HS := Lib.hid h5
  have HB := Lib.hid h6
  clear fr h5 h6 r1 m1 HT
  have HV : Hid ((ok = false ∨ l.length < n) → s.text = ([], ⟨l, false⟩)) := Lib.hid (fun h => by
    rw [HX.out, if_neg]
    rintro ⟨h1, h2⟩
    rcases h with h | h
    · rw [h] at h1; cases h1
    · omega)
  cases ok with
  | false =>
    clear HX
    go_wp2_with fail
    go_ret
    rw [HV.out (.inl (by trivial))]
    exact ⟨none, 0, rfl, NewB.nil _ _, H1.out.bad false, M1.out.trans' (Mod.setCell _ _ _ (by simp))⟩
  | true =>
    obtain ⟨ln, hln⟩ : ∃ n, l.length = n := ⟨_, rfl⟩
    rw [hln] at c0 h3 hlb
    have HLN := Lib.hid hln
    clear hln
    have ew : IntKind.u64.wrap (ln : Int) = (ln : Int) := IntWalk.u64_in _ (by omega)
    by_cases hnl : ln < n
    · have D : decide ((ln : Int) < (n : Int)) = true := decide_eq_true (by omega)
      have D2 : decide (ln < n) = true := decide_eq_true (by omega)
      clear HX
      go_wp2_with fail
      go_ret
      rw [HV.out (.inr (by rw [HLN.out]; exact hnl))]
      exact ⟨none, 0, rfl, NewB.nil _ _, H1.out.bad false, M1.out.trans' (Mod.setCell _ _ _ (by simp))⟩
    have D : decide ((ln : Int) < (n : Int)) = false := decide_eq_false (by omega)
    have D2 : decide (ln < n) = false := decide_eq_false (by omega)
    have HX2 : Hid (s.text = (l.take n, ⟨l.drop n, true⟩)) := Lib.hid (by rw [HX.out, if_pos ⟨rfl, by rw [HLN.out]; omega⟩])
    have hnc : n ≤ cap := by omega
    have hnc2 : (n : Int) ≤ (cap : Int) := by omega
    have hnl2 : (n : Int) ≤ (ln : Int) := by omega
    have htl : (l.take n).length = n := by rw [List.length_take, HLN.out]; omega
    have hdl : (l.drop n).length = ln - n := by rw [List.length_drop, HLN.out]
    have HTL := Lib.hid htl
    have HDL := Lib.hid hdl
    clear HX HV htl hdl
    have me := Mod.alloc [] w1 (.cells #[] 5)
    have he := ob_empty w1
    obtain ⟨w2, hw2⟩ : ∃ x, w1.alloc (.cells #[] 5) = x := ⟨_, rfl⟩
    rw [hw2] at me he
    have hz2 : w2.heap.size = w1.heap.size + 1 := by rw [← hw2]; simp
    have HE := Lib.hid he
    have ME := Lib.hid me
    have HS2 := Lib.hid ((HS.out.mod0 me).take n)
    have d0 := me.cell c0 List.not_mem_nil
    have hz1 : w.heap.size ≤ w1.heap.size := M1.out.size
    clear me he
    go_wp2_with (first | (at_builtin; refine wpl_app8 (dst := some 32) _ _ (some ⟨w1.heap.size, 0, none⟩) 0 0 [] rfl rfl HE.out ao n cap (l.take n) rfl HTL.out HS2.out (by omega) ?_) | fail)
    intro a3 c3 w3 o3 m3 s3
    rw [List.nil_append] at o3
    have hm3 : ∀ k, k ∈ blk (some (⟨w1.heap.size, 0, none⟩ : Addr)) → w1.heap.size ≤ k := by intro k hk; simp [blk] at hk; omega
    have hg1 : g < w1.heap.size := by omega
    have e0 := m3.cell d0 (fun hk => absurd (hm3 _ hk) (by show ¬ w1.heap.size ≤ g; omega))
    have H3 := Lib.hid ((H1.out.mod0 ME.out).off m3 (fun k hk => by have := hm3 _ hk; omega))
    have M3 := Lib.hid ((M1.out.trans0 ME.out).trans m3 (fun i hi hl => by have := hm3 _ hi; omega))
    have HD3 := Lib.hid (((HS.out.mod0 ME.out).dropMap n).mod' m3 (fun h0 k hk hs => by
      rw [blk_map] at hk
      have h1 := hm3 _ hs
      have h2 := HB.out (fun h => h0 (by rw [h]; simp)) k hk
      have := H1.out.1 k h2
      omega))
    have f0 : w3.frozen? ⟨g, 0, none⟩ = false := by
      obtain ⟨_, _, _, _, f, _⟩ := H3.out.open
      exact f 0
    have N3 : Hid (NewB w.heap.size w3 (l.take n, a3, c3)) := Lib.hid ⟨o3, fun k hk => by
      rcases s3.blk k hk with h | h
      · have := hm3 k h; omega
      · omega⟩
    have hnn : 0 + n = n := Nat.zero_add n
    clear o3 m3 s3 HS2 ME HE d0 c0 c1 fr0 fr1 H1 M1 HS
    by_cases hcc : n = cap
    · have hd0 : l.drop n = [] := List.drop_eq_nil_of_le (by rw [HLN.out]; omega)
      have HD0 := Lib.hid hd0
      have hln : ln = n := by omega
      clear hd0
      subst hln
      subst hcc
      go_wp2_with fail
      go_ret
      rw [HX2.out, HD0.out]
      refine ⟨a3, c3, ?_, N3.out.mod (Mod.setCell (S := [g]) _ _ _ (by simp)) (fun k hk hs => by simp at hs; have := N3.out.2 k hk; omega), H3.out.pass (by simp) (by omega) (by omega) (Sees.nil _ _) (fun h => absurd rfl h), M3.out.trans' (Mod.setCell _ _ _ (by simp))⟩
      unfold bsV
      rw [HTL.out]
      rfl
    · go_wp2_with fail
      go_ret
      rw [HX2.out]
      refine ⟨a3, c3, ?_, N3.out.mod (Mod.setCell (S := [g]) _ _ _ (by simp)) (fun k hk hs => by simp at hs; have := N3.out.2 k hk; omega), H3.out.pass HDL.out (by omega) (by omega) HD3.out (by intro h0 k hk; exact HB.out (fun h => h0 (by rw [h]; simp)) k (by rwa [blk_map] at hk)), M3.out.trans' (Mod.setCell _ _ _ (by simp))⟩
      unfold bsV
      rw [HTL.out]
      rfl

theorem RRd.two {w0 w : World} {g : Nat} {bs : List Nat} {s : RS} (h : RRd w g bs s) (hg : g < w0.heap.size) (m : Mod [g] w0 w) (a b : Value) :
    RRd ((w.setCell ⟨w0.heap.size, 0, none⟩ a).setCell ⟨w0.heap.size, 1, none⟩ b) g bs s ∧ Mod [g] w0 ((w.setCell ⟨w0.heap.size, 0, none⟩ a).setCell ⟨w0.heap.size, 1, none⟩ b) := by
  have k : Mod [w0.heap.size] w ((w.setCell ⟨w0.heap.size, 0, none⟩ a).setCell ⟨w0.heap.size, 1, none⟩ b) := (Mod.setCell _ _ _ (by simp)).trans' (Mod.setCell _ _ _ (by simp))
  exact ⟨h.off k (by simp; omega), m.trans k (by simp)⟩
set_option maxRecDepth 100000 in
set_option maxHeartbeats 1000000 in
theorem rbl_any (g : Nat) (bs : List Nat) (s : RS) (w : World) (h : RRd w g bs s) :
    Calls Tryd.prog 44 #[.pointer (some ⟨g, 0, none⟩)] w fun e w' => e = .returned (.agg #[.int .u64 (s.ball.1.1 : Int), .int .i64 (s.ball.1.2 : Int)]) ∧ RRd w' g bs s.ball.2 ∧ Mod [g] w w' := by
  have hg := h.lt
  have m1 := Mod.alloc [] w (.cells #[.int .u64 0, .int .i64 0] 24)
  have hb1 := heap_alloc_new w (.cells #[.int .u64 0, .int .i64 0] 24)
  obtain ⟨w1, hw1⟩ : ∃ x, w.alloc (.cells #[.int .u64 0, .int .i64 0] 24) = x := ⟨_, rfl⟩
  rw [hw1] at m1 hb1
  have HA := Lib.hid (rnum_any g bs s w1 (h.mod0 m1))
  have HB : Hid (∀ w', RRd w' g bs s.num.2 → Calls Tryd.prog 43 #[.pointer (some ⟨g, 0, none⟩)] w' fun e w'' => e = .returned (.int .u64 (s.num.2.num.1 : Int)) ∧ RRd w'' g bs s.num.2.num.2 ∧ Mod [g] w' w'') := Lib.hid (fun w' h' => rnum_any g bs s.num.2 w' h')
  have HX : Hid (s.ball = if 6 < s.num.2.num.1 then ((0, 0), ⟨s.num.2.num.2.l, false⟩) else ((s.num.1, s.num.2.num.1), s.num.2.num.2)) := Lib.hid rfl
  have hlt1 := s.num_lt
  have hlt2 := s.num.2.num_lt
  obtain ⟨n1, hn1⟩ : ∃ p, s.num.1 = p := ⟨_, rfl⟩
  obtain ⟨n2, hn2⟩ : ∃ p, s.num.2.num.1 = p := ⟨_, rfl⟩
  obtain ⟨s1, hs1⟩ : ∃ p, s.num.2 = p := ⟨_, rfl⟩
  rw [hn2] at hlt2 HB HX
  rw [hn1] at HA hlt1 HX
  rw [hs1] at HA HB HX
  obtain ⟨⟨l2, ok2⟩, hs2⟩ : ∃ p, s1.num.2 = p := ⟨_, rfl⟩
  rw [hs2] at HB HX
  dsimp only at HX
  have M1 := Lib.hid (m1.nil (S := [g]))
  have B1 := Lib.hid hb1
  clear h m1 hb1 hn1 hn2 hs1 hs2
  go_enter Tryd.func44, Tryd.ntmps44
  go_wp2_with fail
  refine HA.out.mono ?_
  rintro e w2 ⟨rfl, r2, m2⟩
  have HC := Lib.hid (HB.out w2 r2)
  have M2 := Lib.hid (M1.out.trans' m2)
  have B2 := Lib.hid (m2.get B1.out (by simp; omega))
  clear r2 m2 HA HB M1 B1 hw1
  go_wp2_with fail
  refine HC.out.mono ?_
  rintro e w3 ⟨rfl, r3, m3⟩
  have H3 := Lib.hid r3
  have M3 := Lib.hid (M2.out.trans' m3)
  have hb3 := m3.get B2.out (by simp; omega)
  have z0 := cell_of_block (i := 0) hb3
  have y0 := free_of_block (i := 0) hb3
  have z1 := cell_of_block (i := 1) hb3
  have y1 := free_of_block (i := 1) hb3
  simp only [List.getElem?_toArray, List.getElem?_cons_succ, List.getElem?_cons_zero] at z0 z1
  obtain ⟨ao, cap, c0, c1, fr, -⟩ := r3.open
  dsimp only at c0 c1
  have fr1 := fr 1
  have hz3 : w.heap.size < w3.heap.size := lt_of_block hb3
  clear fr r3 m3 HC M2 B2 hb3
  by_cases h6 : 6 < n2
  · have D : decide ((6 : Int) < (n2 : Int)) = true := decide_eq_true (by omega)
    have HX2 : Hid (s.ball = ((0, 0), ⟨l2, false⟩)) := Lib.hid (by rw [HX.out, if_pos h6])
    have hne : (g == w.heap.size) = false := by rw [beq_eq_false_iff_ne]; omega
    clear HX
    go_wp2_with fail
    refine bodyPost_ret (by simp [results, Tryd.results44, go_sem, *]; try rfl) rfl ?_
    rw [HX2.out]
    obtain ⟨h1, h2⟩ := (H3.out.bad false).two hg (M3.out.trans' (Mod.setCell _ _ _ (by simp))) (.int .u64 0) (.int .i64 0)
    exact ⟨rfl, h1, h2⟩
  · have D : decide ((6 : Int) < (n2 : Int)) = false := decide_eq_false (by omega)
    have HX2 : Hid (s.ball = ((n1, n2), ⟨l2, ok2⟩)) := Lib.hid (by rw [HX.out, if_neg h6])
    have ew : IntKind.i64.wrap (n2 : Int) = (n2 : Int) := IntWalk.i64_in _ (by omega)
    clear HX
    go_wp2_with fail
    refine bodyPost_ret (by simp [results, Tryd.results44, go_sem, *]; try rfl) rfl ?_
    rw [HX2.out]
    obtain ⟨h1, h2⟩ := H3.out.two hg M3.out (.int .u64 (n1 : Int)) (.int .i64 (n2 : Int))
    exact ⟨rfl, h1, h2⟩
end Go.Proofs.YtekdnljincbghaaDoor
