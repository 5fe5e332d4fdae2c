/- PoolPlays returns true, whatever comes in. -/
import Derived.Test.YtfpmdacpmcdleaaPoolPlays
namespace Go.Proofs.Ytfpmdacpmcdleaa
open Go Go.RowKit Go.Lib

theorem poolPlays_any (n size : Int) (ao : Option Addr) (len cap : Nat) (l : List Ac) (w : World) (hl : l.length = len) (hs : SeesA w ao l) :
    Calls Try.prog 3 #[.int .i64 n, .int .i64 size, .slice ao len cap] w fun e w' => e = .returned (.bool true) ∧ Mod [] w w' := by
  by_cases hb : n < 1 ∨ 4096 < n ∨ size < 1 ∨ 65536 < size
  · exact plays_bad n size ao len cap w hb
  · obtain ⟨n, rfl⟩ := Int.eq_ofNat_of_zero_le (show 0 ≤ n by omega)
    obtain ⟨sz, rfl⟩ := Int.eq_ofNat_of_zero_le (show 0 ≤ size by omega)
    by_cases hg : 50 < n ∨ 100 < sz ∨ 200 < len
    · exact plays_big n sz ao len cap w (by omega) (by omega) (by omega) (by omega) hg
    · subst hl
      exact plays_ok n sz ao cap l w (by omega) (by omega) (by omega) (by omega) (by omega) hs
end Go.Proofs.Ytfpmdacpmcdleaa
