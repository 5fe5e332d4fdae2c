/- The walks of varint.Int and varint.Text. -/
import Derived.Test.YtekdnljincbghaaDoorUint2
import Derived.Test.YtekdnljincbghaaDoorStr
namespace Go.Proofs.YtekdnljincbghaaDoor
open Go Go.RowKit

set_option maxHeartbeats 1000000 in
theorem vtext_any (ao : Option Addr) (len cap : Nat) (s : ByteArray) (xs : List UInt8) (w : World) (hlen : xs.length = len) (hown : OwnB w ao cap xs) (hb : len ≤ 140737400000000) (hs : s.size ≤ 1000000) :
    Calls Tryd.prog 51 #[.slice ao len cap, .string s] w (RetApp w ao (xs ++ enc7 s.size ++ s.data.toList)) := by
  have HO := Lib.hid hown
  have hl11 := (enc7_length s.size).2
  clear hown
  go_enter Tryd.func51, Tryd.ntmps51
  go_wp2_with fail
  refine (vuint_any _ _ _ _ xs _ hlen HO.out (by omega) (by omega)).mono ?_
  rintro e w2 ⟨a2, k2, c2, rfl, hk2, o2, m2, n2⟩
  have hkb : k2 ≤ 140737400000011 := by rw [← hk2]; simp; omega
  have HK := Lib.hid hk2
  have HO2 := Lib.hid o2
  have HM := Lib.hid m2
  have HN := Lib.hid n2
  clear o2 m2 n2 hk2
  go_wp2_with (at_builtin; refine wpl_app8s _ _ a2 k2 c2 (xs ++ enc7 s.size) rfl HK.out HO2.out s rfl (by omega) ?_; intro a3 c3 w3 o3 m3 n3)
  go_ret
  exact RetApp.chain HM.out HN.out ⟨a3, _, c3, rfl, by rw [List.length_append, HK.out, size_data], o3, m3, n3⟩
end Go.Proofs.YtekdnljincbghaaDoor
