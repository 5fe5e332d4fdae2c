/- What the net laws' does leaves. -/
import Derived.Test.YtihhbphlhckakaaNetSame
import Derived.BigQuiet
namespace Go.Proofs.Ytihhbphlhckakaa
open Go Go.RowKit Go.Lib

def sent (fr to : Int) (bs : List UInt8) (L : List Lr) : Int × List Lr :=
  if fr < 0 ∨ 6 < fr ∨ to < 0 ∨ 6 < to ∨ fr = to then (1, L) else if L.length < 256 then (0, L ++ [(fr, to, bs)]) else (30, L)
theorem sent_keeps (fr to : Int) (bs : List UInt8) (L : List Lr) (hl : L.length ≤ 256) (hz : ∀ x ∈ L, x.2.2.length ≤ 100) (hb : bs.length ≤ 100) :
    (sent fr to bs L).2.length ≤ 256 ∧ ∀ x ∈ (sent fr to bs L).2, x.2.2.length ≤ 100 := by
  unfold sent
  by_cases h1 : fr < 0 ∨ 6 < fr ∨ to < 0 ∨ 6 < to ∨ fr = to
  · rw [if_pos h1]; exact ⟨hl, hz⟩
  · rw [if_neg h1]
    by_cases h2 : L.length < 256
    · rw [if_pos h2]
      refine ⟨by simp; omega, fun x hx => ?_⟩
      rcases List.mem_append.mp hx with hx | hx
      · exact hz x hx
      · simp at hx; subst hx; exact hb
    · rw [if_neg h2]; exact ⟨hl, hz⟩
theorem refsend_all (a : Option Addr) (c : Nat) (L : List Lr) (fr to : Int) (bs : List UInt8) (w : World) (h : OwnR w a c L) (hl : L.length ≤ 256) :
    Calls Try.prog 30 #[.slice a L.length c, .agg #[.int .i64 fr, .int .i64 to, strV bs]] w fun e w' => ∃ a' c',
      e = .returned (.tuple #[.slice a' (sent fr to bs L).2.length c', .int .i64 (sent fr to bs L).1]) ∧ OwnR w' a' c' (sent fr to bs L).2 ∧ Mod [] w w' ∧ ∀ j, j ∈ blk a' → j ∈ blk a ∨ w.heap.size ≤ j := by
  unfold sent
  by_cases h1 : fr < 0 ∨ 6 < fr ∨ to < 0 ∨ 6 < to ∨ fr = to
  · rw [if_pos h1]
    refine (refsend_bad (.slice a L.length c) fr to _ w h1).mono ?_
    rintro e w1 ⟨rfl, m⟩
    exact ⟨a, c, rfl, Own.mod0 h m, m, fun j hj => .inl hj⟩
  · rw [if_neg h1]
    by_cases h2 : L.length < 256
    · rw [if_pos h2]
      refine (refsend_ok a c L fr to bs w h (by omega) (by omega) (by omega) (by omega) (by omega) h2).mono ?_
      rintro e w1 ⟨a', c', rfl, o, m, f⟩
      exact ⟨a', c', by simp, o, m, fun j hj => .inr (f j hj)⟩
    · rw [if_neg h2]
      refine (refsend_full a L.length c fr to _ w (by omega) (by omega) (by omega) (by omega) (by omega) (by omega)).mono ?_
      rintro e w1 ⟨rfl, m⟩
      exact ⟨a, c, rfl, Own.mod0 h m, m, fun j hj => .inl hj⟩
theorem send_all (g : Nat) (F : List Nat) (L : List Lr) (fr to : Int) (ao : Option Addr) (n c : Nat) (bs : List UInt8) (w : World) (h : NetW w g F L) (hl : L.length ≤ 256) (hn : bs.length = n) (hs : Sees w ao bs) (hb : n ≤ 100) :
    Calls Try.prog 10 #[.pointer (some ⟨g, 0, none⟩), .agg #[.int .i64 fr, .int .i64 to, .slice ao n c]] w fun e w' => e = .returned (.int .i64 (sent fr to bs L).1) ∧ Moved w w' g F (sent fr to bs L).2 := by
  unfold sent
  by_cases h1 : fr < 0 ∨ 6 < fr ∨ to < 0 ∨ 6 < to ∨ fr = to
  · rw [if_pos h1]
    refine (send_bad _ fr to ao n c w (by omega) rfl).mono ?_
    rintro e w1 ⟨rfl, m⟩
    exact ⟨rfl, Moved.same h m⟩
  · rw [if_neg h1]
    by_cases h2 : L.length < 256
    · rw [if_pos h2]
      exact send_ok g F L fr to ao n c bs w h h2 hn hs (by omega) (by simp; omega) (by simp; omega) (by omega)
    · rw [if_neg h2]
      refine (send_full g F L fr to ao n c bs w h (by omega) hn hs (by omega) (by simp; omega) (by simp; omega) (by omega)).mono ?_
      rintro e w1 ⟨rfl, m⟩
      exact ⟨rfl, Moved.same h m⟩

theorem heap_size_alloc (w : World) (o : Obj) : (w.alloc o).heap.size = w.heap.size + 1 := by simp
/-- What an act leaves. -/
def Did (w : World) (g : Nat) (F : List Nat) (a : Option Addr) (e : Ending) (w' : World) : Prop :=
  ∃ (a' : Option Addr) (c' : Nat) (L' : List Lr) (F' : List Nat), e = .returned (.tuple #[.slice a' L'.length c', .bool true]) ∧ NetW w' g F' L' ∧ OwnR w' a' c' L' ∧ L'.length ≤ 256 ∧ (∀ x ∈ L', x.2.2.length ≤ 100) ∧
    Mod F w w' ∧ (∀ j, j ∈ F' → j ∈ F ∨ w.heap.size ≤ j) ∧ (∀ j, j ∈ blk a' → j ∉ F') ∧ ∀ j, j ∈ blk a' → j ∈ blk a ∨ w.heap.size ≤ j

/-- The world behind the act's own three blocks. -/
def w3 (w : World) (d : Nat) (k bit fr to : Int) (xa : Option Addr) (xc : Nat) (bs : List UInt8) : World :=
  ((w.alloc (.cells #[.int .u8 (d : Int), .int .i64 k, .int .i64 bit, .int .i64 fr, .int .i64 to, .slice xa bs.length xc] 43)).alloc (.cells #[.int .i64 fr, .int .i64 to, strV bs] 58)).alloc (.cells #[.int .i64 0, .int .i64 0, .slice none 0 0] 29)
end Go.Proofs.Ytihhbphlhckakaa
