/- The walks of the ballot package: the order of two ballots. -/
import Derived.Test.YtekdnljincbghaaDoorRegion
namespace Go.Proofs.YtekdnljincbghaaDoor
open Go Go.RowKit Go.Lib

def cmpI (a b : Int) : Int := if a < b then -1 else if b < a then 1 else 0
/-- The order of two ballots, as a number. -/
def ordB (aN aR bN bR : Int) : Int := if cmpI aN bN = 0 then cmpI aR bR else cmpI aN bN
def ballot (n r : Int) : Value := .agg #[.int .u64 n, .int .i64 r]
def lessB (aN aR bN bR : Int) : Bool := decide (aN < bN ∨ (aN = bN ∧ aR < bR))
theorem ordB_less (aN aR bN bR : Int) : decide (ordB aN aR bN bR < 0) = lessB aN aR bN bR := by
  unfold ordB cmpI lessB
  repeat' split
  all_goals simp_all
  all_goals omega
end Go.Proofs.YtekdnljincbghaaDoor
