/- The reference's text, and bytes behind their sum. -/
import Derived.Test.YtekdnljincbghaaDoorZ6
namespace Go.Proofs.YtekdnljincbghaaDoor
open Go Go.RowKit Go.Lib

set_option maxRecDepth 100000 in
theorem rtext17_any (ao : Option Addr) (n c : Nat) (l : List UInt8) (w : World) (hl : l.length = n) (hs : Sees w ao l) (hb : n ≤ 1000000) : Calls Tryd.prog 37 #[.slice ao n c] w (RetApp w none (txL l)) := by
  subst hl
  have e1 : (⟨l.toArray⟩ : ByteArray).size = l.length := by show l.toArray.size = _; simp
  have h := refText_any ⟨l.toArray⟩ w (by rw [e1]; exact hb)
  rw [e1] at h
  have HT : Hid (Calls Tryd.prog 58 #[strV l] w (RetApp w none (txL l))) := Lib.hid h
  have cv := str_run (c := c) hs
  clear h hs e1
  go_enter Tryd.func37, Tryd.ntmps37
  go_wp2_with fail
  refine HT.out.mono ?_
  rintro e w1 ⟨a, m, cp, rfl, h1⟩
  have H1 := Lib.hid h1
  clear h1 HT cv
  go_wp2_with fail
  go_ret
  exact ⟨a, m, cp, rfl, H1.out⟩
theorem refSum_sumN (l : List UInt8) : refSum l = (sumN l : Int) := by
  rw [sumN_eq, refSum_crcB, sum_B T0 (fun _ _ => rfl)]
set_option maxRecDepth 100000 in
set_option maxHeartbeats 4000000 in
theorem rsummed_any (ao : Option Addr) (n c : Nat) (l : List UInt8) (w : World) (hl : l.length = n) (hs : Sees w ao l) (hb : n ≤ 100000000000) : Calls Tryd.prog 18 #[.slice ao n c] w (RetApp w none (sum4 l ++ l)) := by
  have HC := Lib.hid (refSum_any ao n c l w hl (by omega) hs)
  rw [refSum_sumN] at HC
  have HSM : Hid (sum4 l = [UInt8.ofNat (sumN l % 256), UInt8.ofNat (sumN l / 256 % 256), UInt8.ofNat (sumN l / 65536 % 256), UInt8.ofNat (sumN l / 16777216 % 256)]) := Lib.hid rfl
  have hlo := moreC_lo l
  rw [← sumN_eq] at hlo
  obtain ⟨s, hs'⟩ : ∃ s, sumN l = s := ⟨_, rfl⟩
  rw [hs'] at HC HSM hlo
  have HS := Lib.hid hs
  have HL := Lib.hid hl
  clear hs hs' hl
  go_enter Tryd.func18, Tryd.ntmps18
  go_wp2_with fail
  refine HC.out.mono ?_
  rintro e w1 ⟨rfl, rfl⟩
  have e1 : IntKind.u8.wrap ((s : Int) % 256) = (s : Int) % 256 := IntWalk.u8_in _ (by omega)
  have e2 : IntKind.u8.wrap ((s : Int) / 256 % 256) = (s : Int) / 256 % 256 := IntWalk.u8_in _ (by omega)
  have e3 : IntKind.u8.wrap ((s : Int) / 65536 % 256) = (s : Int) / 65536 % 256 := IntWalk.u8_in _ (by omega)
  have e4 : IntKind.u8.wrap ((s : Int) / 16777216) = (s : Int) / 16777216 := IntWalk.u8_in _ (by omega)
  clear HC
  go_upto_region 3 with (fail)
  have hb1 := heap_alloc_new w (.cells #[.int .u8 ((s : Int) % 256), .int .u8 ((s : Int) / 256 % 256), .int .u8 ((s : Int) / 65536 % 256), .int .u8 ((s : Int) / 16777216)] 5)
  have m1 := Mod.alloc [] w (.cells #[.int .u8 ((s : Int) % 256), .int .u8 ((s : Int) / 256 % 256), .int .u8 ((s : Int) / 65536 % 256), .int .u8 ((s : Int) / 16777216)] 5)
  have ho : OwnB (w.alloc (.cells #[.int .u8 ((s : Int) % 256), .int .u8 ((s : Int) / 256 % 256), .int .u8 ((s : Int) / 65536 % 256), .int .u8 ((s : Int) / 16777216)] 5)) (some ⟨w.heap.size, 0, none⟩) 4 (sum4 l) := by
    have h := Own.new (sz := 1) (n := 4) hb1 (.inl rfl) (by simp) (by unfold maxLen; omega)
    have he : (sum4 l).map u8v = [.int .u8 ((s : Int) % 256), .int .u8 ((s : Int) / 256 % 256), .int .u8 ((s : Int) / 65536 % 256), .int .u8 ((s : Int) / 16777216)] := by
      rw [HSM.out]
      have e : ∀ k : Nat, (((UInt8.ofNat (k % 256)).toNat : Nat) : Int) = (k : Int) % 256 := by
        intro k
        rw [UInt8.toNat_ofNat']
        omega
      have e5 : (s : Int) / 16777216 = (s : Int) / 16777216 % 256 := by omega
      rw [e5]
      simp only [List.map_cons, List.map_nil, u8v, e, Int.natCast_ediv]
      rfl
    have hl4 : (sum4 l).length = 4 := by rw [HSM.out]; rfl
    unfold OwnB
    rw [he, hl4]
    exact h
  obtain ⟨w2, hw2⟩ : ∃ x, w.alloc (.cells #[.int .u8 ((s : Int) % 256), .int .u8 ((s : Int) / 256 % 256), .int .u8 ((s : Int) / 65536 % 256), .int .u8 ((s : Int) / 16777216)] 5) = x := ⟨_, rfl⟩
  rw [hw2] at m1 ho ⊢
  have O2 := Lib.hid ho
  have M2 := Lib.hid m1
  have H4 : Hid ((sum4 l).length = 4) := Lib.hid rfl
  have S2 := Lib.hid (HS.out.mod0 m1)
  have hz : w2.heap.size = w.heap.size + 1 := by rw [← hw2]; simp
  have HZ := Lib.hid hz
  clear hb1 m1 ho hw2 e1 e2 e3 e4 HSM hz
  have hbn : 4 + n ≤ 140737488355328 := by omega
  go_wp2_with (first | (at_builtin; refine wpl_app8 (dst := some 24) _ _ (some ⟨w.heap.size, 0, none⟩) 4 4 _ rfl H4.out O2.out ao n c _ rfl HL.out S2.out hbn ?_) | fail)
  intro a7 c7 w7 o7 m7 s7
  have O7 := Lib.hid o7
  have M7 := Lib.hid (M2.out.trans m7 (fun k hk hl => by simp [blk] at hk; omega))
  have S7 : Hid (SameOrNew w w7 none a7) := Lib.hid (by
    rcases s7 with rfl | ⟨g, rfl, h1, h2⟩
    · exact .inr ⟨w.heap.size, rfl, Nat.le_refl _, by have := m7.size; have := HZ.out; omega⟩
    · exact .inr ⟨g, rfl, by have := HZ.out; omega, h2⟩)
  clear o7 m7 s7
  go_wp2_with fail
  go_ret
  exact ⟨a7, 4 + n, c7, rfl, by rw [List.length_append, H4.out, HL.out], O7.out, M7.out, S7.out⟩
end Go.Proofs.YtekdnljincbghaaDoor
