/- The walks of the ballot package: the next ballot; one that a law makes. -/
import Derived.Test.YtekdnljincbghaaDoorBallot
import Derived.Handy
namespace Go.Proofs.YtekdnljincbghaaDoor
open Go Go.RowKit Go.Lib

theorem Mod.frozen {S : List Nat} {w w' : World} (h : Mod S w w') {p : Addr} (hb : p.block < w.heap.size) (hn : p.block ∉ S) : w'.frozen? p = w.frozen? p := by
  simp only [World.frozen?, h.block p.block hb hn]
/-- A replica's next ballot, and the error. -/
def nextB (bN bR r : Int) : Int × Int × Int :=
  if r < 0 ∨ 7 ≤ r then (0, 0, 1)
  else if 0 < bN ∧ lessB bN bR bN r = true then (bN, r, 0)
  else if bN = 18446744073709551615 then (0, 0, 30)
  else (bN + 1, r, 0)
end Go.Proofs.YtekdnljincbghaaDoor
