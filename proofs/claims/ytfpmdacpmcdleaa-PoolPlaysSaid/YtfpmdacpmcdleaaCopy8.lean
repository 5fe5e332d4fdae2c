/- copy of bytes into a row of the call's own. -/
import Derived.Test.YtfpmdacpmcdleaaBytes
import Derived.Laws.CopyRow
import Derived.Laws.IdiomCopy
namespace Go.Proofs.Ytfpmdacpmcdleaa
open Go Go.RowKit

theorem run_copy_fz {P : Program} (w : World) (dT sT ty elem : TypeId) (g o dLen dCap : Nat) (a : Addr) (sLen sCap : Nat) (cur : Array Value) (t : TypeId) (fz : Nat × Nat) (cs : List Value)
    (hu : P.underlying dT = some (.slice elem)) (hs : (P.info? elem).map (·.size) = some 1)
    (hg : w.heap[g]? = some (.cells cur t fz)) (hz : fz = (0, 0) ∨ cur.size ≤ fz.1) (hn : cs.length = Nat.min sLen dLen)
    (hsrc : ∀ j v, cs[j]? = some v → w.cell? (a.add j) = some v) (hfit : o + cs.length ≤ cur.size) (h1 : ∀ v ∈ cs, v.oneCell' = true) :
    (Builtin.copy_ #[dT, sT] ty #[.slice (some ⟨g, o, none⟩) dLen dCap, .slice (some a) sLen sCap]).run P w =
      .ok (goInt cs.length) (w.setRow g (cur.toList.take o ++ cs ++ cur.toList.drop (o + cs.length)).toArray) := by
  have hl := run_loadCells_list (P := P) w a cs hsrc
  have hst := run_storeCells_fz (P := P) g o t fz cs 0 cur w hg hz (by simpa using hfit) h1
  cases hq : P.info? elem with
  | none => simp [hq] at hs
  | some i =>
    have hi : i.size = 1 := by simpa [hq] using hs
    simp [Builtin.copy_, run_underlying hu, Builtin.lenOf, Builtin.firstCells, sizeOf, typeInfo, hq, hi, ← hn, hl, hst]

theorem take_over (L : List Value) (tl l : List Value) (off : Nat) (h : off + l.length ≤ L.length) :
    ((L ++ tl).take off ++ l ++ (L ++ tl).drop (off + l.length)).take L.length = L.take off ++ l ++ L.drop (off + l.length) := by
  rw [List.take_append_of_le_length (l₁ := L) (i := off) (by omega), List.drop_append_of_le_length (l₁ := L) (by omega), ← List.append_assoc]
  exact List.take_left' (by simp; omega)

/-- copy of bytes l into a row of bytes of the call's own, from 'off' on. -/
theorem wpl_copy8 {w : World} {ops : Array Oper} {rest : List Oper} {a : Act} {Q : Exit → Act → World → Prop} {dst : Option Tmp} {ty : TypeId} {pos : String} {after : Array Edge} (d s : Operand)
    (g off dLen dCap : Nat) (so : Option Addr) (m c : Nat) (hd : a.eval d = .slice (some ⟨g, off, none⟩) dLen dCap) (hs : a.eval s = .slice so m c)
    (l : List UInt8) (hl : l.length = m) (hsees : Sees w so l) (cap : Nat) (L : List UInt8) (hown : OwnB w (some ⟨g, 0, none⟩) cap L) (hle : m ≤ dLen) (hfit : off + m ≤ L.length)
    (h : ∀ w', OwnB w' (some ⟨g, 0, none⟩) cap (L.take off ++ l ++ L.drop (off + m)) → Mod [g] w w' → wpList Try.prog ops Q rest (a.put dst (.int .i64 (m : Int))) w') :
    wpList Try.prog ops Q (⟨dst, .call { callee := .builtin .copy, args := #[d, s], argTypes := #[32, 32] }, ty, pos, after, none⟩ :: rest) a w := by
  have hinfo : (Try.prog.info? 5).map (·.size) = some 1 := by kernel_rfl
  refine wpList_plain rfl fun K hK => ?_
  subst hl
  by_cases h0 : l.length = 0
  · have hl0 : l = [] := List.eq_nil_of_length_eq_zero h0
    subst hl0
    have hrun := run_copy_none (P := Try.prog) w 32 32 ty 5 (some ⟨g, off, none⟩) so dLen dCap 0 c Try.underlying32 hinfo (by simp)
    have hk := h w (by simpa using hown) (Mod.refl _ _)
    simp only [List.length_nil] at hs hk
    unfold Oper.wp
    simp [execOp, resolve, invoke, builtin, hd, hs, hrun, Result.andThen, goInt]
    exact hK _ _ (by simpa using hk)
  · obtain ⟨ad, rfl⟩ : ∃ ad, so = some ad := by
      obtain ⟨b, o, hb, _⟩ := hsees 0 (by omega)
      exact ⟨_, hb⟩
    rcases hown.2 with ⟨hx, _⟩ | ⟨g', cur, fz, hg', hg, hz, hn, hm, hcs, ht⟩
    · cases hx
    · cases hg'
      have hsrc : ∀ j v, (l.map u8v)[j]? = some v → w.cell? (ad.add j) = some v := fun j v hj => by
        obtain ⟨ad', e, h2⟩ := hsees.shows j v hj
        cases e; exact h2
      have hrun := run_copy_fz (P := Try.prog) w 32 32 ty 5 g off dLen dCap ad l.length c cur 5 fz (l.map u8v) Try.underlying32 hinfo hg hz (by rw [List.length_map]; exact (Nat.min_eq_left hle).symm) hsrc (by rw [List.length_map]; simp at hcs; omega) (one_u8 _)
      unfold Oper.wp
      simp only [List.length_map] at hrun
      simp [execOp, resolve, invoke, builtin, hd, hs, hrun, Result.andThen, goInt]
      refine hK _ _ (h _ ⟨by simp, .inr ⟨g, _, fz, rfl, setRow_heap w g cur _ 5 _ hg, hz.imp id (fun h => by simp; omega), by simp; omega, hm, by simp; omega, ?_⟩⟩ ⟨rfl, rfl, rfl, by simp, fun k _ hk => setRow_other w g k _ (fun e => hk (by simp [e]))⟩)
      have e1 : cur.toList = L.map u8v ++ cur.toList.drop L.length := by rw [← List.take_append_drop L.length cur.toList]; simp only [Nat.mul_one] at ht; rw [ht]; simp
      have e2 := take_over (L.map u8v) (cur.toList.drop L.length) (l.map u8v) off (by simpa using hfit)
      rw [← e1] at e2
      simp only [List.length_map] at e2
      simp only [Nat.mul_one, List.map_append, List.map_take, List.map_drop]
      have e3 : (L.take off ++ l ++ L.drop (off + l.length)).length = L.length := by simp; omega
      rw [e3]
      simpa using e2
end Go.Proofs.Ytfpmdacpmcdleaa
