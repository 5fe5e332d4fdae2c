/- The walks of the document's answer for the varint package: Uint, Int, Text. -/
import Derived.Test.YtekdnljincbghaaDoorBytes
import Derived.Test.YtekdnljincbghaaDoorStr
import Derived.Test.YtekdnljincbghaaDoorEnc
namespace Go.Proofs.YtekdnljincbghaaDoor
open Go Go.RowKit

set_option maxRecDepth 100000 in
set_option maxHeartbeats 1000000 in
theorem refUint_any (n : Nat) : ∀ (w : World), n < 18446744073709551616 → Calls Tryd.prog 36 #[.int .u64 (n : Int)] w (RetApp w none (enc7 n)) := by
  induction n using Nat.strongRecOn with
  | _ n ih =>
    intro w h64
    have hU := enc7_small n
    have hB := fun h => enc7_big n h h64
    have hd64 : n / 128 < 18446744073709551616 := by omega
    have H64 := Lib.hid hd64
    have HU := Lib.hid hU
    have HBB := Lib.hid hB
    clear h64 hd64 hU hB
    by_cases hlt : n < 128
    · have hw8 : IntKind.u8.wrap (n : Int) = (n : Int) := IntWalk.u8_in _ (by omega)
      clear ih
      go_enter Tryd.func36, Tryd.ntmps36
      go_wp2
      go_ret
      rw [HU.out hlt]
      exact ⟨some ⟨w.heap.size, 0, none⟩, 1, 1, rfl, rfl, OwnB.lit1 (heap_alloc_new w _) (UInt8.ofNat n) (by rw [UInt8.toNat_ofNat']; omega) (.inl rfl), Mod.alloc _ _ _, .inr ⟨w.heap.size, rfl, Nat.le_refl _, by simp⟩⟩
    · have HE := Lib.hid (HBB.out (by omega))
      have HI := Lib.hid (ih (n / 128) (by omega))
      have HD : Hid (IntKind.u64.wrap ((n : Int) / 128) = ((n / 128 : Nat) : Int)) := by
        have := H64.out
        show _ = _; rw [IntWalk.u64_in _ (by omega)]; omega
      have hl11 := (enc7_length (n / 128)).2
      have hw8 : IntKind.u8.wrap (128 + (n : Int) % 128) = 128 + (n : Int) % 128 := IntWalk.u8_in _ (by omega)
      clear ih
      go_enter Tryd.func36, Tryd.ntmps36
      go_wp2_with fail
      rw [HD.out]
      have ho := OwnB.lit1 (heap_alloc_new w (.cells #[.int .u8 (128 + (n : Int) % 128)] 5)) (UInt8.ofNat (128 + n % 128)) (by rw [UInt8.toNat_ofNat']; omega) (.inl rfl)
      have hm0 := Mod.alloc [] w (.cells #[.int .u8 (128 + (n : Int) % 128)] 5)
      refine (HI.out _ H64.out).mono ?_
      rintro e w2 ⟨a2, k2, c2, rfl, hk2, o2, m2, n2⟩
      have hkb : k2 ≤ 11 := by omega
      have HK := Lib.hid hk2
      clear hk2
      have HO := Lib.hid (ho.mod0 m2)
      have HM := Lib.hid (hm0.trans' m2)
      have HN : Hid (SameOrNew w w2 none (some ⟨w.heap.size, 0, none⟩)) := .inr ⟨w.heap.size, rfl, Nat.le_refl _, by have := m2.size; simp at this; omega⟩
      have HO2 := Lib.hid o2
      clear ho hm0 o2 m2 n2
      go_wp2_with (at_builtin; refine wpl_app8 (dst := some 16) _ _ (some ⟨w.heap.size, 0, none⟩) 1 1 [UInt8.ofNat (128 + n % 128)] rfl rfl HO.out a2 k2 c2 (enc7 (n / 128)) rfl HK.out HO2.out.sees (by omega) ?_; intro a3 c3 w3 o3 m3 n3)
      go_ret
      show RetApp w none (enc7 n) _ _
      refine RetApp.chain HM.out HN.out ?_
      rw [HE.out]
      exact ⟨a3, _, c3, rfl, by simp [HK.out]; omega, o3, m3, n3⟩

set_option maxHeartbeats 1000000 in
theorem refText_any (s : ByteArray) (w : World) (h1 : s.size ≤ 1000000) : Calls Tryd.prog 58 #[.string s] w (RetApp w none (enc7 s.size ++ s.data.toList)) := by
  have hl11 := (enc7_length s.size).2
  go_enter Tryd.func58, Tryd.ntmps58
  go_wp2_with fail
  refine (refUint_any _ _ (by omega)).mono ?_
  rintro e w2 ⟨a2, k2, c2, rfl, hk2, o2, m2, n2⟩
  have hkb : k2 ≤ 11 := by omega
  have HK := Lib.hid hk2
  have HO := Lib.hid o2
  have HM := Lib.hid m2
  have HN := Lib.hid n2
  clear o2 m2 n2 hk2
  go_wp2_with (at_builtin; refine wpl_app8s _ _ a2 k2 c2 (enc7 s.size) rfl HK.out HO.out s rfl (by omega) ?_; intro a3 c3 w3 o3 m3 n3)
  go_ret
  exact RetApp.chain HM.out HN.out ⟨a3, _, c3, rfl, by rw [List.length_append, HK.out, size_data], o3, m3, n3⟩
end Go.Proofs.YtekdnljincbghaaDoor
