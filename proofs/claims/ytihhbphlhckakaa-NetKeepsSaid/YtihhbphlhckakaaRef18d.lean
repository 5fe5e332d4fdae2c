/- The walks of the net laws' reference: a letter is spoilt. -/
import Derived.Test.YtihhbphlhckakaaRef18c
namespace Go.Proofs.Ytihhbphlhckakaa
open Go Go.RowKit Go.Lib

theorem cellsR_set (l : List Lr) : ∀ (k : Nat) (hk : k < l.length) (bs : List UInt8), (cellsR l).set (k * 3 + 2) (strV bs) = cellsR (l.set k (l[k].1, l[k].2.1, bs)) := by
  induction l with
  | nil => intro k hk; exact absurd hk (by simp)
  | cons a r ih =>
    intro k hk bs
    cases k with
    | zero => rfl
    | succ k =>
      have e : (k + 1) * 3 + 2 = (k * 3 + 2) + 1 + 1 + 1 := by omega
      rw [e]
      show [Value.int .i64 a.1, .int .i64 a.2.1, strV a.2.2] ++ (cellsR r).set (k * 3 + 2) (strV bs) = [Value.int .i64 a.1, .int .i64 a.2.1, strV a.2.2] ++ cellsR (r.set k ((r[k]'(by simpa using hk)).1, (r[k]'(by simpa using hk)).2.1, bs))
      rw [ih k (by simpa using hk) bs]
theorem OwnR.set {w : World} {b c : Nat} {l : List Lr} (h : OwnR w (some ⟨b, 0, none⟩) c l) (k : Nat) (hk : k < l.length) (bs : List UInt8) : OwnR (w.setCell ⟨b, k * 3 + 2, none⟩ (strV bs)) (some ⟨b, 0, none⟩) c (l.set k (l[k].1, l[k].2.1, bs)) := by
  have := Own.set (j := k * 3 + 2) h (strV bs)
  unfold OwnR
  rw [List.length_set, ← cellsR_set l k hk bs]
  exact this
theorem str_run3 {w : World} {ao : Option Addr} {c : Nat} {l : List UInt8} (h : Sees w ao l) : (convert 22 9 (.slice ao l.length c)).run Try.prog w = .ok (strV l) w :=
  run_string_of w _ _ _ Try.underlying22 Try.underlying5 Try.underlying9 ao c l h

set_option maxRecDepth 100000 in
set_option maxHeartbeats 4000000 in
theorem refdo_spoilbad (a : Option Addr) (c : Nat) (L : List Lr) (k : Nat) (bit : Int) (w : World) (h : OwnR w a c L) (hk : k < L.length) (fr to : Int) (bs : List UInt8) (hx : L[k] = (fr, to, bs)) (hb : bit < 0 ∨ (bs.length : Int) ≤ bit / 8) (hmx : bit ≤ 9223372036854775807) :
    Calls Try.prog 31 #[.slice a L.length c, .int .u8 5, .int .i64 (k : Int), .int .i64 bit] w fun e w' => e = .returned (.tuple #[.slice a L.length c, .agg #[.int .i64 0, .int .i64 0, .string ⟨#[]⟩], .int .i64 1]) ∧ Mod [] w w' := by
  have H := Lib.hid h
  obtain ⟨b, rfl, p0, p1, p2, -⟩ := OwnR.at' h hk
  rw [hx] at p0 p1 p2
  dsimp only at p0 p1 p2
  unfold strV at p2
  have hlb := World.block_lt_of_cell? w _ p0
  have hsz : ByteArray.size ⟨bs.toArray⟩ = bs.length := by simp [ByteArray.size]
  clear h H
  by_cases h0 : bit < 0
  · clear hb
    go_enter Try.func31, Try.ntmps31
    go_wp2
    ((try simp only [Exit.inBlock, Exit.then]); refine bodyPost_ret (by simp [results, Try.results31, go_sem, *]; try rfl) rfl ?_)
    exact ⟨rfl, .ofBelow (by go_grown)⟩
  · obtain ⟨m, rfl⟩ := Int.eq_ofNat_of_zero_le (Int.not_lt.1 h0)
    have hw : wrap64 ((m : Int) / 8) = (m : Int) / 8 := by unfold wrap64; omega
    have hw2 : IntKind.i64.wrap ((m : Int) / 8) = (m : Int) / 8 := IntWalk.i64_in _ (by omega)
    have hmi : (bs.length : Int) ≤ (m : Int) / 8 := by omega
    clear hb h0
    go_enter Try.func31, Try.ntmps31
    go_wp2
    ((try simp only [Exit.inBlock, Exit.then]); refine bodyPost_ret (by simp [results, Try.results31, go_sem, *]; try rfl) rfl ?_)
    exact ⟨rfl, .ofBelow (by go_grown)⟩

end Go.Proofs.Ytihhbphlhckakaa
