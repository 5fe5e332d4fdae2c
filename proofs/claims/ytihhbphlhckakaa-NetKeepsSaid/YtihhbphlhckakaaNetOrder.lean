/- The walk of NetOrder. -/
import Derived.Test.YtihhbphlhckakaaNet11
namespace Go.Proofs.Ytihhbphlhckakaa
open Go Go.RowKit Go.Lib

theorem str_run2 {w : World} {ao : Option Addr} {c : Nat} {l : List UInt8} (h : Sees w ao l) : (convert 22 9 (.slice ao l.length c)).run Try.prog w = .ok (strV l) w :=
  run_string_of w _ _ _ Try.underlying22 Try.underlying5 Try.underlying9 ao c l h
theorem Mod.only2 {a b c : World} {S : List Nat} (h : Mod [] a b) (k : Mod S b c) (hs : ∀ j, j ∈ S → a.heap.size ≤ j) : Mod [] a c :=
  h.trans k (fun i hi hl => by have := hs i hi; omega)
theorem take_outw (g : Nat) (F : List Nat) (L : List (Int × Int × List UInt8)) (k : Int) (w : World) (h : NetW w g F L) (hk : k < 0 ∨ (L.length : Int) ≤ k) :
    Calls Try.prog 14 #[.pointer (some ⟨g, 0, none⟩), .int .i64 k] w fun e w' => e = .returned (.tuple #[.agg #[.int .i64 0, .int .i64 0, .slice none 0 0], .int .i64 1]) ∧ Mod [] w w' := by
  obtain ⟨ra, rc, l, h1, rfl, rfl⟩ := h
  exact take_out g ra rc l k w h1 (by simpa using hk)
theorem drop_outw (g : Nat) (F : List Nat) (L : List (Int × Int × List UInt8)) (k : Int) (w : World) (h : NetW w g F L) (hk : k < 0 ∨ (L.length : Int) ≤ k) :
    Calls Try.prog 18 #[.pointer (some ⟨g, 0, none⟩), .int .i64 k] w fun e w' => e = .returned (.int .i64 1) ∧ Mod [] w w' := by
  obtain ⟨ra, rc, l, h1, rfl, rfl⟩ := h
  exact drop_out g ra rc l k w h1 (by simpa using hk)
set_option maxRecDepth 100000 in
set_option maxHeartbeats 1000000 in
theorem alike_eq (fr to : Int) (ao ao' : Option Addr) (n c c' : Nat) (bs : List UInt8) (w : World) (hn : bs.length = n) (h1 : Sees w ao bs) (h2 : Sees w ao' bs) :
    Calls Try.prog 21 #[.agg #[.int .i64 fr, .int .i64 to, .slice ao n c], .agg #[.int .i64 fr, .int .i64 to, .slice ao' n c']] w fun e w' => e = .returned (.bool true) ∧ Mod [] w w' := by
  have ma := Mod.alloc [] w (.cells #[.int .i64 fr, .int .i64 to, .slice ao n c] 29)
  have mb := Mod.alloc [] (w.alloc (.cells #[.int .i64 fr, .int .i64 to, .slice ao n c] 29)) (.cells #[.int .i64 fr, .int .i64 to, .slice ao' n c'] 29)
  have M := Lib.hid (ma.trans' mb)
  have H1 := Lib.hid (h1.mod0 M.out)
  have H2 := Lib.hid (h2.mod0 M.out)
  clear h1 h2 ma mb
  have cv1 := str_run2 (c := c) H1.out
  have cv2 := str_run2 (c := c') H2.out
  rw [hn] at cv1 cv2
  go_enter Try.func21, Try.ntmps21
  go_wp2
  go_ret
  exact ⟨rfl, M.out⟩

/-- Letters that came in. -/
def SeesLt (w : World) (ao : Option Addr) (l : List Lt) : Prop :=
  ∀ j (h : j < l.length), ∃ b off, ao = some ⟨b, off, none⟩ ∧ w.cell? ⟨b, off + j * 3, none⟩ = some (.int .i64 l[j].1) ∧ w.cell? ⟨b, off + j * 3 + 1, none⟩ = some (.int .i64 l[j].2.1) ∧
    w.cell? ⟨b, off + j * 3 + 2, none⟩ = some (.slice l[j].2.2.1 l[j].2.2.2.2.length l[j].2.2.2.1) ∧ Sees w l[j].2.2.1 l[j].2.2.2.2
theorem SeesLt.mod0 {w w' : World} {ao : Option Addr} {l : List Lt} (h : SeesLt w ao l) (hm : Mod [] w w') : SeesLt w' ao l := by
  intro j hj
  obtain ⟨b, off, h1, h2, h3, h4, h5⟩ := h j hj
  exact ⟨b, off, h1, hm.cell h2 (by simp), hm.cell h3 (by simp), hm.cell h4 (by simp), h5.mod0 hm⟩
def SeesI (w : World) (ao : Option Addr) (l : List Int) : Prop :=
  ∀ j (h : j < l.length), ∃ b off, ao = some ⟨b, off, none⟩ ∧ w.cell? ⟨b, off + j, none⟩ = some (.int .i64 l[j])
theorem SeesI.mod0 {w w' : World} {ao : Option Addr} {l : List Int} (h : SeesI w ao l) (hm : Mod [] w w') : SeesI w' ao l := by
  intro j hj
  obtain ⟨b, off, h1, h2⟩ := h j hj
  exact ⟨b, off, h1, hm.cell h2 (by simp)⟩

set_option maxRecDepth 100000 in
set_option maxHeartbeats 8000000 in
theorem netOrder_any (ao : Option Addr) (len cap : Nat) (l : List Lt) (bo : Option Addr) (len2 cap2 : Nat) (ls : List Int) (w : World) (hl : l.length = len) (hs : SeesLt w ao l) (hl2 : ls.length = len2) (hs2 : SeesI w bo ls)
    (hlen : len ≤ 9223372036854775807) (hlen2 : len2 ≤ 9223372036854775807) :
    Calls Try.prog 7 #[.slice ao len cap, .slice bo len2 cap2] w fun e w' => e = .returned (.bool true) ∧ Mod [] w w' := by
  subst hl hl2
  have HS := Lib.hid hs
  have HI := Lib.hid hs2
  clear hs hs2
  by_cases hbig : 60 < l.length
  · go_enter Try.func7, Try.ntmps7
    go_wp2_with fail
    refine (wakes18_any _).mono ?_
    rintro e wz ⟨rfl, mz⟩
    have MZ := Lib.hid mz
    clear mz
    go_wp2
    go_ret
    exact ⟨rfl, MZ.out⟩
  by_cases hbig2 : 60 < ls.length
  · go_enter Try.func7, Try.ntmps7
    go_wp2_with fail
    refine (wakes18_any _).mono ?_
    rintro e wz ⟨rfl, mz⟩
    have MZ := Lib.hid mz
    clear mz
    go_wp2
    go_ret
    exact ⟨rfl, MZ.out⟩
  go_enter Try.func7, Try.ntmps7
  go_wp2_with fail
  refine (new_any _).mono ?_
  rintro e w1 ⟨g, rfl, h1, m1, z1⟩
  have H1 := Lib.hid h1
  have M1 := Lib.hid m1
  have Z1 := Lib.hid z1
  clear h1 m1 z1
  go_wp2_with fail
  go_loopw [6, 7] (fun row i wr => ∃ (k : Nat) (ra : Option Addr) (rc : Nat) (lr : List Lt) (F : List Nat), k ≤ l.length ∧ i = .int .i64 (k : Int) ∧ row = .slice ra lr.length rc ∧ OwnL wr ra rc lr ∧ (∀ x, x ∈ lr → x ∈ l) ∧ lr.length ≤ k ∧
      NetW wr g F (lr.map stripL) ∧ (∀ j, j ∈ blk ra → w.heap.size ≤ j ∧ j ∉ F) ∧ (∀ j, j ∈ F → w.heap.size ≤ j) ∧ Mod [] w wr) (fun _ i _ => l.length - (intOf i).toNat)
  case atStart => exact ⟨0, none, 0, [], [g], Nat.zero_le _, rfl, rfl, Own.nil0 _ _ _, by simp, Nat.le_refl _, H1.out, by simp [blk], fun j hj => by simp at hj; subst hj; exact Z1.out, M1.out⟩
  case round =>
    obtain ⟨k, ra, rc, lr, F, hk, rfl, rfl, hown, hsub, hlk, hnet, hra, hF, hm⟩ := hrel
    have HO := Lib.hid hown
    have HB := Lib.hid hsub
    have HN := Lib.hid hnet
    have HR := Lib.hid hra
    have HF := Lib.hid hF
    have M := Lib.hid hm
    clear hown hsub hnet hra hF hm
    by_cases hlt : k < l.length
    · obtain ⟨b, off, rfl, p0, p1, p2, ps⟩ := (HS.out.mod0 M.out) k hlt
      obtain ⟨⟨fr, to, xa, xc, bs⟩, hx⟩ : ∃ x, l[k] = x := ⟨_, rfl⟩
      have hmem : l[k] ∈ l := List.getElem_mem hlt
      have hxx := hx
      rw [hx] at p0 p1 p2 ps hmem
      dsimp only at p0 p1 p2 ps
      have PS := Lib.hid ps
      have HM := Lib.hid hmem
      clear ps hx hmem
      by_cases hbl : 100 < bs.length
      · go_wp2_with fail
        refine (wakes18_any _).mono ?_
        rintro e wz ⟨rfl, mz⟩
        have MZ := Lib.hid (M.out.trans' mz)
        clear mz
        go_wp2
        go_ret
        exact ⟨rfl, MZ.out⟩
      · by_cases hbad : ¬ (0 ≤ fr ∧ fr < 7) ∨ ¬ (0 ≤ to ∧ to < 7) ∨ fr = to
        · have HBD := Lib.hid hbad
          clear hbad
          go_wp2_with fail
          refine (send_bad _ fr to xa bs.length xc _ HBD.out rfl).mono ?_
          rintro e w2 ⟨rfl, m2⟩
          have HO2 := Lib.hid (Own.mod0 HO.out m2)
          have HN2 := Lib.hid (HN.out.mod0 m2)
          have M2 := Lib.hid (M.out.trans' m2)
          clear m2
          go_wp2
          go_roundw
          case rel => exact ⟨k + 1, ra, rc, lr, F, by omega, by go_num, rfl, HO2.out, HB.out, by omega, HN2.out, HR.out, HF.out, M2.out⟩
          case measure => simp [intOf]; omega
        · have hfr : decide (0 ≤ fr ∧ fr < 7) = true := by simp; omega
          have hto : decide (0 ≤ to ∧ to < 7) = true := by simp; omega
          have hne : ¬ fr = to := fun h => hbad (.inr (.inr h))
          have HFR := Lib.hid hfr
          have HTO := Lib.hid hto
          have HNE := Lib.hid hne
          clear hbad hfr hto hne
          go_wp2_with fail
          refine (send_ok g F _ fr to xa bs.length xc bs _ HN.out (by simp; omega) rfl PS.out (by omega) HFR.out HTO.out HNE.out).mono ?_
          rintro e w2 ⟨rfl, F2, h2, m2, f2⟩
          have hltO := Own.lt HO.out
          have HO2 := Lib.hid (Own.mod HO.out m2 (fun j hj => (HR.out j hj).2))
          have HN2 := Lib.hid h2
          have M2 := Lib.hid (M.out.only2 m2 HF.out)
          have HF2 : Hid (∀ j, j ∈ F2 → w.heap.size ≤ j) := fun j hj => (f2 j hj).elim (HF.out j) (fun h => Nat.le_trans M.out.size h)
          have HR2 : Hid (∀ j, j ∈ blk ra → w.heap.size ≤ j ∧ j ∉ F2) := fun j hj => ⟨(HR.out j hj).1, fun hm => (f2 j hm).elim (HR.out j hj).2 (fun h => by have := hltO j hj; omega)⟩
          have q0 := m2
          clear q0 h2 m2 f2
          obtain ⟨b', off', hbb, q0, q1, q2, -⟩ := (HS.out.mod0 M2.out) k hlt
          cases hbb
          rw [hxx] at q0 q1 q2
          dsimp only at q0 q1 q2
          clear p0 p1 p2
          have mb := Mod.alloc [] w2 (.cells #[.int .i64 fr, .int .i64 to, .slice xa bs.length xc] 29)
          have HSH := Lib.hid (shows1 (x := (fr, to, xa, xc, bs)) (heap_alloc_new w2 (.cells #[.int .i64 fr, .int .i64 to, .slice xa bs.length xc] 29)))
          have HL3 := Lib.hid (Own.mod0 HO2.out mb)
          have HN3 := Lib.hid (HN2.out.mod0 mb)
          have M3 := Lib.hid (M2.out.trans' mb)
          have hlt3 := HN3.out.lt
          clear mb HO2
          go_wp2_with (first | (at_builtin; refine wpl_appL (dst := some 53) _ _ ra lr.length rc lr rfl rfl HL3.out _ 1 1 [(fr, to, xa, xc, bs)] rfl rfl HSH.out (by omega) ?_) | fail)
          intro a4 c4 w4 o4 m4 s4
          have HO4 := Lib.hid o4
          have HN4 := Lib.hid (HN3.out.mod m4 (fun j hj hj2 => (HR2.out j hj2).2 hj))
          have M4 := Lib.hid (M3.out.only2 m4 (fun j hj => (HR2.out j hj).1))
          have HR4 : Hid (∀ j, j ∈ blk a4 → w.heap.size ≤ j ∧ j ∉ F2) := fun j hj => by
            rcases s4.blk j hj with h | h
            · exact HR2.out j h
            · exact ⟨Nat.le_trans M3.out.size h, fun hm => by have := hlt3 j hm; omega⟩
          clear o4 m4 s4 hlt3 HSH HL3 HN3 M3
          go_wp2
          go_roundw
          case rel =>
            refine ⟨k + 1, a4, c4, lr ++ [(fr, to, xa, xc, bs)], F2, by omega, by go_num, by simp, HO4.out, ?_, by simp; omega, ?_, HR4.out, HF2.out, M4.out⟩
            · intro x hx
              rcases List.mem_append.1 hx with h | h
              · exact HB.out x h
              · simp only [List.mem_singleton] at h; subst h; exact HM.out
            · rw [List.map_append]; exact HN4.out
          case measure => simp [intOf]; omega
    · have hke : k = l.length := by omega
      subst hke
      have hlr : lr.length ≤ 60 := by omega
      have HSL : Hid (∀ x, x ∈ l → Sees w x.2.2.1 x.2.2.2.2) := fun x hx => by
        obtain ⟨j, hj, rfl⟩ := List.getElem_of_mem hx
        obtain ⟨_, _, _, _, _, _, h⟩ := HS.out j hj
        exact h
      clear H1 M1 Z1 hlk
      go_wp2_with fail
      go_loopw [6, 8] (fun row i wr => ∃ (k : Nat) (ra : Option Addr) (rc : Nat) (lr : List Lt) (F : List Nat), k ≤ ls.length ∧ i = .int .i64 (k : Int) ∧ row = .slice ra lr.length rc ∧ OwnL wr ra rc lr ∧ (∀ x, x ∈ lr → x ∈ l) ∧ lr.length ≤ 60 ∧
          NetW wr g F (lr.map stripL) ∧ (∀ j, j ∈ blk ra → w.heap.size ≤ j ∧ j ∉ F) ∧ (∀ j, j ∈ F → w.heap.size ≤ j) ∧ Mod [] w wr) (fun _ i _ => ls.length - (intOf i).toNat)
      case atStart => exact ⟨0, ra, rc, lr, F, Nat.zero_le _, rfl, rfl, HO.out, HB.out, hlr, HN.out, HR.out, HF.out, M.out⟩
      case round =>
        clear HO HB HN HR HF M hlr
        obtain ⟨k2, ra, rc, lr, F, hk2, rfl, rfl, hown, hsub, hlk, hnet, hra, hF, hm⟩ := hrel
        have HO := Lib.hid hown
        have HB := Lib.hid hsub
        have HN := Lib.hid hnet
        have HR := Lib.hid hra
        have HF := Lib.hid hF
        have M := Lib.hid hm
        clear hown hsub hnet hra hF hm
        by_cases hlt2 : k2 < ls.length
        · obtain ⟨b, off, rfl, p0⟩ := (HI.out.mod0 M.out) k2 hlt2
          obtain ⟨kk, hkk⟩ : ∃ kk, ls[k2] = kk := ⟨_, rfl⟩
          rw [hkk] at p0
          clear hkk
          by_cases hk0 : kk < 0
          · have hk0' : decide (0 ≤ kk) = false := by simp; omega
            go_wp2_with fail
            refine (drop_outw g F _ kk _ HN.out (.inl hk0)).mono ?_
            rintro e w2 ⟨rfl, m2⟩
            have HO2 := Lib.hid (Own.mod0 HO.out m2)
            have HN2 := Lib.hid (HN.out.mod0 m2)
            have M2 := Lib.hid (M.out.trans' m2)
            clear m2
            go_wp2
            go_roundw
            case rel => exact ⟨k2 + 1, ra, rc, lr, F, by omega, by go_num, rfl, HO2.out, HB.out, hlk, HN2.out, HR.out, HF.out, M2.out⟩
            case measure => simp [intOf]; omega
          · obtain ⟨m, rfl⟩ := Int.eq_ofNat_of_zero_le (Int.not_lt.1 hk0)
            by_cases hkl : m < lr.length
            · have hmi : decide ((m : Int) < (lr.length : Int)) = true := by simp; omega
              go_wp2_with fail
              refine (drop_w g F _ m _ HN.out (by simpa using hkl) (by simp; omega)).mono ?_
              rintro e w2 ⟨rfl, F2, h2, m2, f2⟩
              have hltO := Own.lt HO.out
              have HO2 := Lib.hid (Own.mod HO.out m2 (fun j hj => (HR.out j hj).2))
              have HN2 : Hid (NetW w2 g F2 ((lr.eraseIdx m).map stripL)) := by rw [map_erase]; exact h2
              have M2 := Lib.hid (M.out.only2 m2 HF.out)
              have HF2 : Hid (∀ j, j ∈ F2 → w.heap.size ≤ j) := fun j hj => (f2 j hj).elim (HF.out j) (fun h => Nat.le_trans M.out.size h)
              clear h2 m2 f2 HO HN M HF HR p0 hltO
              obtain ⟨br, hbr, -, -, -⟩ := OwnL.at' HO2.out hkl
              subst hbr
              have hmc : lr.length ≤ rc := Own.le HO2.out
              have hmc2 : rc ≤ 9223372036854775807 := by have := Own.cap_le HO2.out; unfold maxLen at this; omega
              go_upto_region 20 with (fail)
              refine rest_start [] 10 #[false, false, false, false, false, false, false, false, false, false] rfl (by kernel_rfl) (by kernel_rfl) ?_
              intro w3 m3
              have HO3 := Lib.hid (Own.mod0 HO2.out m3)
              have HN3 := Lib.hid (HN2.out.mod0 m3)
              have M3 := Lib.hid (M2.out.trans' m3)
              have hk1 : m ≤ rc := by omega
              have hk1i : (m : Int) ≤ (rc : Int) := by omega
              have hwk : IntKind.i64.wrap ((m : Int) + 1) = (m : Int) + 1 := IntWalk.i64_in _ (by omega)
              have hki1 : (m : Int) ≤ (m : Int) + 1 := by omega
              have hki2 : (m : Int) + 1 ≤ (m : Int) + 1 := by omega
              have hsl : (0 : Int) ≤ (m : Int) + 1 ∧ (m : Int) + 1 ≤ (lr.length : Int) := by omega
              have hm1 : m + 1 ≤ lr.length := by omega
              have SD := Lib.hid (OwnL.drop HO3.out (m + 1))
              have ST := Lib.hid (Own.shows (Own.take HO3.out m (by omega)))
              have hln : (lr.drop (m + 1)).length = lr.length - (m + 1) := List.length_drop
              clear m3 HO2 HN2 M2
              by_cases hrc : rc = m + 1
              · have hll : lr.length = m + 1 := by omega
                have hl0 : lr.drop (m + 1) = [] := List.drop_eq_nil_of_le (by omega)
                refine rest_got (i := 0) (v := ?v1) rfl (by kernel_rfl) (by kernel_rfl) (by kernel_rfl) (fun _ _ _ h => h) (by rfl) ?y1 ?r1
                case y1 => (intro w9q hSwq; clear hSwq; go_simp; with_reducible rfl)
                try simp only [Act.put, List.setIfInBounds_toArray, List.set_cons_zero, List.set_cons_succ]
                refine rest_got (i := 1) (v := ?v2) rfl (by kernel_rfl) (by kernel_rfl) (by kernel_rfl) (fun _ _ _ h => h) (by rfl) ?y2 ?r2
                case y2 => (intro w9q hSwq; clear hSwq; go_simp; with_reducible rfl)
                try simp only [Act.put, List.setIfInBounds_toArray, List.set_cons_zero, List.set_cons_succ]
                refine rest_got (i := 2) (v := ?v3) rfl (by kernel_rfl) (by kernel_rfl) (by kernel_rfl) (fun _ _ _ h => h) (by rfl) ?y3 ?r3
                case y3 => (intro w9q hSwq; clear hSwq; go_simp; with_reducible rfl)
                try simp only [Act.put, List.setIfInBounds_toArray, List.set_cons_zero, List.set_cons_succ]
                refine rest_got (i := 4) (v := ?v4) rfl (by kernel_rfl) (by kernel_rfl) (by kernel_rfl) (fun _ _ _ h => h) (by rfl) ?y4 ?r4
                case y4 => (intro w9q hSwq; clear hSwq; go_simp; with_reducible rfl)
                try simp only [Act.put, List.setIfInBounds_toArray, List.set_cons_zero, List.set_cons_succ]
                refine rest_got (i := 5) (v := ?v5) rfl (by kernel_rfl) (by kernel_rfl) (by kernel_rfl) (fun _ _ _ h => h) (by rfl) ?y5 ?r5
                case y5 => (intro w9q hSwq; clear hSwq; go_simp; with_reducible rfl)
                try simp only [Act.put, List.setIfInBounds_toArray, List.set_cons_zero, List.set_cons_succ]
                refine rest_got (i := 6) (v := ?v6) rfl (by kernel_rfl) (by kernel_rfl) (by kernel_rfl) (fun _ _ _ h => h) (by rfl) ?y6 ?r6
                case y6 => (intro w9q hSwq; clear hSwq; go_simp; with_reducible rfl)
                try simp only [Act.put, List.setIfInBounds_toArray, List.set_cons_zero, List.set_cons_succ]
                refine rest_got (i := 7) (v := ?v7) rfl (by kernel_rfl) (by kernel_rfl) (by kernel_rfl) (fun _ _ _ h => h) (by rfl) ?y7 ?r7
                case y7 => (intro w9q hSwq; clear hSwq; go_simp; with_reducible rfl)
                try simp only [Act.put, List.setIfInBounds_toArray, List.set_cons_zero, List.set_cons_succ]
                refine rest_one (i := 3) (by kernel_rfl) rfl (by rfl) ?_
                go_wp2_with (first | (at_builtin; refine wpl_appL (dst := some 82) _ _ none 0 0 [] rfl rfl (Own.nil0 _ _ _) _ m _ (lr.take m) rfl (by rw [List.length_take]; omega) (by rw [← cellsL_take]; exact ST.out) (by omega) ?_) | fail)
                intro a4 c4 w4 o4 m4 s4
                rw [List.nil_append] at o4
                have hlt4 : (lr.take m).length = m := by rw [List.length_take]; omega
                have HO4 := Lib.hid o4
                have M4 := Lib.hid (M3.out.only2 m4 (by simp [blk]))
                have HN4 := Lib.hid (HN3.out.mod m4 (by simp [blk]))
                have HA4 : Hid (∀ j, j ∈ blk a4 → w3.heap.size ≤ j) := fun j hj => by
                  rcases s4.blk j hj with h | h
                  · simp [blk] at h
                  · exact h
                have SD4 := Lib.hid (OwnL.drop (Own.mod (S := blk none) HO3.out m4 (by simp [blk])) (m + 1))
                have hlt3 := HN3.out.lt
                simp only [Nat.zero_add]
                go_wp2_with fail
                refine back_to (K1 := blk a4) (by exact m4) (fun k hk hl => by have := HA4.out k hk; omega) ?_
                clear o4 m4 s4
                
                refine rest_one (i := 8) (by kernel_rfl) rfl (by rfl) ?_
                go_wp2_with (first | (at_builtin; refine wpl_appL (dst := some 87) _ _ a4 m c4 (lr.take m) rfl hlt4 HO4.out _ 0 _ [] rfl rfl (fun j u hj => by simp [cellsL] at hj) (by omega) ?_) | fail)
                intro a5 c5 w5 o5 m5 s5
                have o5' : OwnL w5 a5 c5 (lr.eraseIdx m) := by
                  rw [List.append_nil] at o5
                  rw [List.eraseIdx_eq_take_drop_succ, hl0, List.append_nil]; exact o5
                clear o5
                have o5 := o5'
                clear o5'
                have HO5 := Lib.hid o5
                have M5 := Lib.hid (M4.out.only2 m5 (fun j hj => Nat.le_trans M3.out.size (HA4.out j hj)))
                have HN5 := Lib.hid (HN4.out.mod m5 (fun j hj hj2 => by have := hlt3 j hj; have := HA4.out j hj2; omega))
                have HR5 : Hid (∀ j, j ∈ blk a5 → w.heap.size ≤ j ∧ j ∉ F2) := fun j hj => by
                  rcases s5.blk j hj with h | h
                  · exact ⟨Nat.le_trans M3.out.size (HA4.out j h), fun hm => by have := hlt3 j hm; have := HA4.out j h; omega⟩
                  · exact ⟨Nat.le_trans M4.out.size h, fun hm => by have := HN4.out.lt j hm; omega⟩
                have hlen : m + 0 = (lr.eraseIdx m).length := by rw [List.length_eraseIdx]; simp only [hkl, if_true]; omega
                go_wp2_with fail
                refine back_to (K1 := []) (by exact m5) (by simp) ?_
                clear o5 m5 s5
                refine rest_got (i := 9) (v := ?v8) rfl (by kernel_rfl) (by kernel_rfl) (by kernel_rfl) (fun _ _ _ h => h) (by rfl) ?y8 ?r8
                case y8 => (intro w9q hSwq; clear hSwq; go_simp; with_reducible rfl)
                try simp only [Act.put, List.setIfInBounds_toArray, List.set_cons_zero, List.set_cons_succ]
                refine rest_done (by kernel_rfl) ?_ _
                go_wp2
                go_roundw
                case rel =>
                  exact ⟨k2 + 1, a5, c5, lr.eraseIdx m, F2, by omega, by go_num, by rw [← hlen], HO5.out, fun x hx => HB.out x (List.mem_of_mem_eraseIdx hx), by omega, HN5.out, HR5.out, HF2.out, M5.out⟩
                case measure => simp [intOf]; omega
              · refine rest_got (i := 0) (v := ?v9) rfl (by kernel_rfl) (by kernel_rfl) (by kernel_rfl) (fun _ _ _ h => h) (by rfl) ?y9 ?r9
                case y9 => (intro w9q hSwq; clear hSwq; go_simp; with_reducible rfl)
                try simp only [Act.put, List.setIfInBounds_toArray, List.set_cons_zero, List.set_cons_succ]
                refine rest_got (i := 1) (v := ?v10) rfl (by kernel_rfl) (by kernel_rfl) (by kernel_rfl) (fun _ _ _ h => h) (by rfl) ?y10 ?r10
                case y10 => (intro w9q hSwq; clear hSwq; go_simp; with_reducible rfl)
                try simp only [Act.put, List.setIfInBounds_toArray, List.set_cons_zero, List.set_cons_succ]
                refine rest_got (i := 2) (v := ?v11) rfl (by kernel_rfl) (by kernel_rfl) (by kernel_rfl) (fun _ _ _ h => h) (by rfl) ?y11 ?r11
                case y11 => (intro w9q hSwq; clear hSwq; go_simp; with_reducible rfl)
                try simp only [Act.put, List.setIfInBounds_toArray, List.set_cons_zero, List.set_cons_succ]
                refine rest_got (i := 4) (v := ?v12) rfl (by kernel_rfl) (by kernel_rfl) (by kernel_rfl) (fun _ _ _ h => h) (by rfl) ?y12 ?r12
                case y12 => (intro w9q hSwq; clear hSwq; go_simp; with_reducible rfl)
                try simp only [Act.put, List.setIfInBounds_toArray, List.set_cons_zero, List.set_cons_succ]
                refine rest_got (i := 5) (v := ?v13) rfl (by kernel_rfl) (by kernel_rfl) (by kernel_rfl) (fun _ _ _ h => h) (by rfl) ?y13 ?r13
                case y13 => (intro w9q hSwq; clear hSwq; go_simp; with_reducible rfl)
                try simp only [Act.put, List.setIfInBounds_toArray, List.set_cons_zero, List.set_cons_succ]
                refine rest_got (i := 6) (v := ?v14) rfl (by kernel_rfl) (by kernel_rfl) (by kernel_rfl) (fun _ _ _ h => h) (by rfl) ?y14 ?r14
                case y14 => (intro w9q hSwq; clear hSwq; go_simp; with_reducible rfl)
                try simp only [Act.put, List.setIfInBounds_toArray, List.set_cons_zero, List.set_cons_succ]
                refine rest_got (i := 7) (v := ?v15) rfl (by kernel_rfl) (by kernel_rfl) (by kernel_rfl) (fun _ _ _ h => h) (by rfl) ?y15 ?r15
                case y15 => (intro w9q hSwq; clear hSwq; go_simp; with_reducible rfl)
                try simp only [Act.put, List.setIfInBounds_toArray, List.set_cons_zero, List.set_cons_succ]
                refine rest_one (i := 3) (by kernel_rfl) rfl (by rfl) ?_
                go_wp2_with (first | (at_builtin; refine wpl_appL (dst := some 82) _ _ none 0 0 [] rfl rfl (Own.nil0 _ _ _) _ m _ (lr.take m) rfl (by rw [List.length_take]; omega) (by rw [← cellsL_take]; exact ST.out) (by omega) ?_) | fail)
                intro a4 c4 w4 o4 m4 s4
                rw [List.nil_append] at o4
                have hlt4 : (lr.take m).length = m := by rw [List.length_take]; omega
                have HO4 := Lib.hid o4
                have M4 := Lib.hid (M3.out.only2 m4 (by simp [blk]))
                have HN4 := Lib.hid (HN3.out.mod m4 (by simp [blk]))
                have HA4 : Hid (∀ j, j ∈ blk a4 → w3.heap.size ≤ j) := fun j hj => by
                  rcases s4.blk j hj with h | h
                  · simp [blk] at h
                  · exact h
                have SD4 := Lib.hid (OwnL.drop (Own.mod (S := blk none) HO3.out m4 (by simp [blk])) (m + 1))
                have hlt3 := HN3.out.lt
                simp only [Nat.zero_add]
                go_wp2_with fail
                refine back_to (K1 := blk a4) (by exact m4) (fun k hk hl => by have := HA4.out k hk; omega) ?_
                clear o4 m4 s4
                
                refine rest_one (i := 8) (by kernel_rfl) rfl (by rfl) ?_
                go_wp2_with (first | (at_builtin; refine wpl_appL (dst := some 87) _ _ a4 m c4 (lr.take m) rfl hlt4 HO4.out _ _ _ (lr.drop (m + 1)) rfl hln SD4.out (by omega) ?_) | fail)
                intro a5 c5 w5 o5 m5 s5
                rw [(List.eraseIdx_eq_take_drop_succ lr m).symm] at o5
                have HO5 := Lib.hid o5
                have M5 := Lib.hid (M4.out.only2 m5 (fun j hj => Nat.le_trans M3.out.size (HA4.out j hj)))
                have HN5 := Lib.hid (HN4.out.mod m5 (fun j hj hj2 => by have := hlt3 j hj; have := HA4.out j hj2; omega))
                have HR5 : Hid (∀ j, j ∈ blk a5 → w.heap.size ≤ j ∧ j ∉ F2) := fun j hj => by
                  rcases s5.blk j hj with h | h
                  · exact ⟨Nat.le_trans M3.out.size (HA4.out j h), fun hm => by have := hlt3 j hm; have := HA4.out j h; omega⟩
                  · exact ⟨Nat.le_trans M4.out.size h, fun hm => by have := HN4.out.lt j hm; omega⟩
                have hlen : m + (lr.length - (m + 1)) = (lr.eraseIdx m).length := by rw [List.length_eraseIdx]; simp only [hkl, if_true]; omega
                go_wp2_with fail
                refine back_to (K1 := []) (by exact m5) (by simp) ?_
                clear o5 m5 s5
                refine rest_got (i := 9) (v := ?v16) rfl (by kernel_rfl) (by kernel_rfl) (by kernel_rfl) (fun _ _ _ h => h) (by rfl) ?y16 ?r16
                case y16 => (intro w9q hSwq; clear hSwq; go_simp; with_reducible rfl)
                try simp only [Act.put, List.setIfInBounds_toArray, List.set_cons_zero, List.set_cons_succ]
                refine rest_done (by kernel_rfl) ?_ _
                go_wp2
                go_roundw
                case rel =>
                  exact ⟨k2 + 1, a5, c5, lr.eraseIdx m, F2, by omega, by go_num, by rw [← hlen], HO5.out, fun x hx => HB.out x (List.mem_of_mem_eraseIdx hx), by omega, HN5.out, HR5.out, HF2.out, M5.out⟩
                case measure => simp [intOf]; omega
            · have hmi : decide ((m : Int) < (lr.length : Int)) = false := by simp; omega
              go_wp2_with fail
              refine (drop_outw g F _ (m : Int) _ HN.out (.inr (by simp; omega))).mono ?_
              rintro e w2 ⟨rfl, m2⟩
              have HO2 := Lib.hid (Own.mod0 HO.out m2)
              have HN2 := Lib.hid (HN.out.mod0 m2)
              have M2 := Lib.hid (M.out.trans' m2)
              clear m2
              go_wp2
              go_roundw
              case rel => exact ⟨k2 + 1, ra, rc, lr, F, by omega, by go_num, rfl, HO2.out, HB.out, hlk, HN2.out, HR.out, HF.out, M2.out⟩
              case measure => simp [intOf]; omega
        · have hke : k2 = ls.length := by omega
          subst hke
          clear HI
          go_wp2_with fail
          go_loopw [11] (fun i wr => ∃ (k : Nat) (F : List Nat), k ≤ lr.length ∧ i = .int .i64 (k : Int) ∧ OwnL wr ra rc lr ∧
              NetW wr g F ((lr.drop k).map stripL) ∧ (∀ j, j ∈ blk ra → j ∉ F) ∧ (∀ j, j ∈ F → w.heap.size ≤ j) ∧ Mod [] w wr) (fun i _ => lr.length - (intOf i).toNat)
          case atStart => exact ⟨0, F, Nat.zero_le _, rfl, HO.out, HN.out, fun j hj => (HR.out j hj).2, HF.out, M.out⟩
          case round =>
            clear HO HN HR HF M
            obtain ⟨k3, F, hk3, rfl, hown, hnet, hra, hF, hm⟩ := hrel
            have HO := Lib.hid hown
            have HN := Lib.hid hnet
            have HR := Lib.hid hra
            have HF := Lib.hid hF
            have M := Lib.hid hm
            clear hown hnet hra hF hm
            by_cases hlt3 : k3 < lr.length
            · have hmem : lr[k3] ∈ l := HB.out _ (List.getElem_mem hlt3)
              have hps := HSL.out _ hmem
              have hdr : lr.drop k3 = lr[k3] :: lr.drop (k3 + 1) := List.drop_eq_getElem_cons hlt3
              rw [hdr, List.map_cons] at HN
              obtain ⟨br, hbr, q0, q1, q2⟩ := OwnL.at' HO.out hlt3
              obtain ⟨⟨fr, to, xa, xc, bs⟩, hx⟩ : ∃ x, lr[k3] = x := ⟨_, rfl⟩
              have hxx := hx
              rw [hx] at HN hps
              dsimp only [stripL] at HN hps
              subst hbr
              have PS := Lib.hid hps
              clear hx hmem hps hdr q0 q1 q2
              go_wp2_with fail
              refine (take_w g F _ 0 _ HN.out (by simp) (by simp; omega)).mono ?_
              simp only [List.getElem_cons_zero, List.eraseIdx_cons_zero]
              rintro e w2 ⟨a2, c2, rfl, o2, F2, h2, m2, f2, d2⟩
              have HO2 := Lib.hid (Own.mod HO.out m2 (fun j hj => HR.out j hj))
              have HN2 := Lib.hid h2
              have M2 := Lib.hid (M.out.only2 m2 HF.out)
              have hltO := Own.lt HO.out
              have HF2 : Hid (∀ j, j ∈ F2 → w.heap.size ≤ j) := fun j hj => (f2 j hj).elim (HF.out j) (fun h => Nat.le_trans M.out.size h)
              have HR2 : Hid (∀ j, j ∈ blk (some (⟨br, 0, none⟩ : Addr)) → j ∉ F2) := fun j hj hm => (f2 j hm).elim (HR.out j hj) (fun h => by have := hltO j hj; omega)
              have OX := Lib.hid o2.sees
              clear h2 m2 f2 d2 o2 hltO HO HN HR HF M
              go_upto_region 25 with (fail)
              have mb := Mod.alloc [] w2 (.cells #[.int .i64 fr, .int .i64 to, .slice a2 bs.length c2] 29)
              have hb := heap_alloc_new w2 (.cells #[.int .i64 fr, .int .i64 to, .slice a2 bs.length c2] 29)
              refine rest_start [] 11 #[false, false, false, false, false, false, false, false, false, false, false] rfl (by kernel_rfl) (by kernel_rfl) ?_
              intro w3 m3
              have hb3 := m3.get hb (by simp)
              have mm := mb.trans' m3
              have X0 := Lib.hid (cell_of_block (i := 0) hb3)
              have X1 := Lib.hid (cell_of_block (i := 1) hb3)
              have X2 := Lib.hid (cell_of_block (i := 2) hb3)
              have HO3 := Lib.hid (Own.mod0 HO2.out mm)
              have HN3 := Lib.hid (HN2.out.mod0 mm)
              have M3 := Lib.hid (M2.out.trans' mm)
              have OX3 := Lib.hid (OX.out.mod0 mm)
              have PS3 := Lib.hid (PS.out.mod0 M3.out)
              obtain ⟨br', hbr, r0, r1, r2⟩ := OwnL.at' HO3.out hlt3
              cases hbr
              rw [hxx] at r0 r1 r2
              dsimp only at r0 r1 r2
              have R0 := Lib.hid r0
              have R1 := Lib.hid r1
              have R2 := Lib.hid r2
              clear mb hb m3 hb3 mm HO2 HN2 M2 OX r0 r1 r2
              refine rest_got (i := 0) (v := ?v17) rfl (by kernel_rfl) (by kernel_rfl) (by kernel_rfl) (fun _ _ _ h => h) (by rfl) ?y17 ?r17
              case y17 => (intro w9q hSwq; clear hSwq; go_simp; with_reducible rfl)
              try simp only [Act.put, List.setIfInBounds_toArray, List.set_cons_zero, List.set_cons_succ]
              refine rest_got (i := 1) (v := ?v18) rfl (by kernel_rfl) (by kernel_rfl) (by kernel_rfl) (fun _ _ _ h => h) (by rfl) ?y18 ?r18
              case y18 => (intro w9q hSwq; clear hSwq; go_simp; with_reducible rfl)
              try simp only [Act.put, List.setIfInBounds_toArray, List.set_cons_zero, List.set_cons_succ]
              refine rest_got (i := 2) (v := ?v19) rfl (by kernel_rfl) (by kernel_rfl) (by kernel_rfl) (fun _ _ _ h => h) (by rfl) ?y19 ?r19
              case y19 => (intro w9q hSwq; clear hSwq; go_simp; with_reducible rfl)
              try simp only [Act.put, List.setIfInBounds_toArray, List.set_cons_zero, List.set_cons_succ]
              refine rest_got (i := 3) (v := ?v20) rfl (by kernel_rfl) (by kernel_rfl) (by kernel_rfl) (fun _ _ _ h => h) (by rfl) ?y20 ?r20
              case y20 => ((intro w9' hm9'; have hc9' := Mod.cell hm9' X0.out (by first | exact List.not_mem_nil | (simp; omega)); have hd9' := Mod.cell hm9' X1.out (by first | exact List.not_mem_nil | (simp; omega)); have he9' := Mod.cell hm9' X2.out (by first | exact List.not_mem_nil | (simp; omega)); clear hm9'; go_simp; with_reducible rfl))
              try simp only [Act.put, List.setIfInBounds_toArray, List.set_cons_zero, List.set_cons_succ]
              refine rest_got (i := 4) (v := ?v21) rfl (by kernel_rfl) (by kernel_rfl) (by kernel_rfl) (fun _ _ _ h => h) (by rfl) ?y21 ?r21
              case y21 => (intro w9q hSwq; clear hSwq; go_simp; with_reducible rfl)
              try simp only [Act.put, List.setIfInBounds_toArray, List.set_cons_zero, List.set_cons_succ]
              refine rest_got (i := 5) (v := ?v22) rfl (by kernel_rfl) (by kernel_rfl) (by kernel_rfl) (fun _ _ _ h => h) (by rfl) ?y22 ?r22
              case y22 => (intro w9q hSwq; clear hSwq; go_simp; with_reducible rfl)
              try simp only [Act.put, List.setIfInBounds_toArray, List.set_cons_zero, List.set_cons_succ]
              refine rest_got (i := 6) (v := ?v23) rfl (by kernel_rfl) (by kernel_rfl) (by kernel_rfl) (fun _ _ _ h => h) (by rfl) ?y23 ?r23
              case y23 => (intro w9q hSwq; clear hSwq; go_simp; with_reducible rfl)
              try simp only [Act.put, List.setIfInBounds_toArray, List.set_cons_zero, List.set_cons_succ]
              refine rest_got (i := 7) (v := ?v24) rfl (by kernel_rfl) (by kernel_rfl) (by kernel_rfl) (fun _ _ _ h => h) (by rfl) ?y24 ?r24
              case y24 => ((intro w9' hm9'; have hc9' := Mod.cell hm9' R0.out (by first | exact List.not_mem_nil | (simp; omega)); have hd9' := Mod.cell hm9' R1.out (by first | exact List.not_mem_nil | (simp; omega)); have he9' := Mod.cell hm9' R2.out (by first | exact List.not_mem_nil | (simp; omega)); clear hm9'; go_simp; with_reducible rfl))
              try simp only [Act.put, List.setIfInBounds_toArray, List.set_cons_zero, List.set_cons_succ]
              refine rest_one (i := 8) (by kernel_rfl) rfl (by rfl) ?_
              go_wp2_with fail
              refine (alike_eq fr to a2 xa bs.length c2 xc bs _ rfl OX3.out PS3.out).mono ?_
              rintro e w4 ⟨rfl, m4⟩
              have HO4 := Lib.hid (Own.mod0 HO3.out m4)
              have HN4 := Lib.hid (HN3.out.mod0 m4)
              have M4 := Lib.hid (M3.out.trans' m4)
              go_wp2_with fail
              refine back_to (K1 := []) m4 (by simp) ?_
              clear m4 HO3 HN3 M3 OX3 PS3 X0 X1 X2 R0 R1 R2
              refine rest_got (i := 9) (v := ?v25) rfl (by kernel_rfl) (by kernel_rfl) (by kernel_rfl) (fun _ _ _ h => h) (by rfl) ?y25 ?r25
              case y25 => (intro w9q hSwq; clear hSwq; go_simp; with_reducible rfl)
              try simp only [Act.put, List.setIfInBounds_toArray, List.set_cons_zero, List.set_cons_succ]
              refine rest_got (i := 10) (v := ?v26) rfl (by kernel_rfl) (by kernel_rfl) (by kernel_rfl) (fun _ _ _ h => h) (by rfl) ?y26 ?r26
              case y26 => (intro w9q hSwq; clear hSwq; go_simp; with_reducible rfl)
              try simp only [Act.put, List.setIfInBounds_toArray, List.set_cons_zero, List.set_cons_succ]
              refine rest_done (by kernel_rfl) ?_ _
              go_wp2
              go_roundw
              case rel => exact ⟨k3 + 1, F2, by omega, by go_num, HO4.out, HN4.out, HR2.out, HF2.out, M4.out⟩
              case measure => simp [intOf]; omega
            · have hke : k3 = lr.length := by omega
              subst hke
              rw [List.drop_length, List.map_nil] at HN
              go_wp2_with fail
              refine (take_outw g F [] 0 _ HN.out (.inr (by simp))).mono ?_
              rintro e w2 ⟨rfl, m2⟩
              have mb := Mod.alloc [] w2 (.cells #[.int .i64 0, .int .i64 0, .slice none 0 0] 29)
              have HN2 := Lib.hid ((HN.out.mod0 m2).mod0 mb)
              have M2 := Lib.hid ((M.out.trans' m2).trans' mb)
              clear m2 mb HN HO HR HF M
              go_wp2_with fail
              refine (len_w g F [] _ HN2.out).mono ?_
              rintro e w3 ⟨rfl, rfl⟩
              go_wp2_with fail
              refine (wakes18_any _).mono ?_
              rintro e wz ⟨rfl, mz⟩
              have MZ := Lib.hid (M2.out.trans' mz)
              clear mz
              go_wp2
              go_ret
              exact ⟨rfl, MZ.out⟩
end Go.Proofs.Ytihhbphlhckakaa
