/- The walks of the ballot package: the greatest one. -/
import Derived.Test.YtekdnljincbghaaDoorBallot2
namespace Go.Proofs.YtekdnljincbghaaDoor
open Go Go.RowKit Go.Lib

/-- The slice at 'ao' shows these ballots. -/
def SeesB (w : World) (ao : Option Addr) (l : List (Int × Int)) : Prop :=
  ∀ j (h : j < l.length), ∃ b off, ao = some ⟨b, off, none⟩ ∧ w.cell? ⟨b, off + j * 2, none⟩ = some (.int .u64 l[j].1) ∧ w.cell? ⟨b, off + j * 2 + 1, none⟩ = some (.int .i64 l[j].2)
theorem SeesB.mod0 {w w' : World} {ao : Option Addr} {l : List (Int × Int)} (h : SeesB w ao l) (hm : Mod [] w w') : SeesB w' ao l := by
  intro j hj
  obtain ⟨b, off, h1, h2, h3⟩ := h j hj
  exact ⟨b, off, h1, hm.cell h2 (by simp), hm.cell h3 (by simp)⟩

theorem two_set {w : World} {g : Nat} {t : TypeId} {a b : Value} (h : w.heap[g]? = some (.cells #[a, b] t (0, 0))) (u v : Value) :
    ((w.setCell ⟨g, 0, none⟩ u).setCell ⟨g, 1, none⟩ v).heap[g]? = some (.cells #[u, v] t (0, 0)) := by
  rw [heap_setCell_same (heap_setCell_same h u) v]; rfl
theorem two_mod (w : World) (g : Nat) (u v : Value) : Mod [g] w ((w.setCell ⟨g, 0, none⟩ u).setCell ⟨g, 1, none⟩ v) :=
  (Mod.setCell _ _ _ (by simp)).trans' (Mod.setCell _ _ _ (by simp))
/-- The greatest of the first k. -/
def maxK (l : List (Int × Int)) : Nat → Int × Int
  | 0 => (0, 0)
  | k + 1 => if k = 0 ∨ lessB (maxK l k).1 (maxK l k).2 (l.getD k (0, 0)).1 (l.getD k (0, 0)).2 = true then l.getD k (0, 0) else maxK l k

end Go.Proofs.YtekdnljincbghaaDoor
