/- The walk of PoolPlays, where no act is looked at. -/
import Derived.Test.YtfpmdacpmcdleaaPoolPlays0
namespace Go.Proofs.Ytfpmdacpmcdleaa
open Go Go.RowKit Go.Lib

set_option maxRecDepth 100000 in
set_option maxHeartbeats 8000000 in
theorem plays_bad (n size : Int) (ao : Option Addr) (len cap : Nat) (w : World) (hb : n < 1 ∨ 4096 < n ∨ size < 1 ∨ 65536 < size) :
    Calls Try.prog 3 #[.int .i64 n, .int .i64 size, .slice ao len cap] w fun e w' => e = .returned (.bool true) ∧ Mod [] w w' := by
  have hcases : n < 1 ∨ (¬ n < 1 ∧ 4096 < n) ∨ (¬ n < 1 ∧ ¬ 4096 < n ∧ size < 1) ∨ (¬ n < 1 ∧ ¬ 4096 < n ∧ ¬ size < 1 ∧ 65536 < size) := by omega
  have HB := Lib.hid hb
  clear hb
  rcases hcases with h1 | ⟨h1, h2⟩ | ⟨h1, h2, h3⟩ | ⟨h1, h2, h3, h4⟩
  all_goals
    go_enter Try.func3, Try.ntmps3
    go_wp2_with fail
    refine (new_bad n size w HB.out).mono ?_
    rintro e w1 ⟨rfl, rfl⟩
    go_wp2_with fail
    refine (get_nil _).mono ?_
    rintro e w2 ⟨rfl, m2⟩
    have M2 := Lib.hid (m2.trans' (Mod.alloc [] w2 (.cells #[.int .i64 0, .int .u32 0] 29)))
    clear m2
    go_wp2_with fail
    refine (bytes_nilw 0 0 _).mono ?_
    rintro e w3 ⟨rfl, m3⟩
    have M3 := Lib.hid (M2.out.trans' m3)
    clear m3 M2
    go_wp2_with fail
    refine (back_nilw 0 0 _).mono ?_
    rintro e w4 ⟨rfl, m4⟩
    have M4 := Lib.hid (M3.out.trans' m4)
    clear m4 M3
    go_wp2_with fail
    refine (set_nilw 0 0 none 0 0 _).mono ?_
    rintro e w5 ⟨rfl, m5⟩
    have M5 := Lib.hid (M4.out.trans' m5)
    clear m5 M4
    go_wp2_with fail
    refine (free_nil _).mono ?_
    rintro e w6 ⟨rfl, rfl⟩
    go_wp2_with fail
    refine (wakes_any _).mono ?_
    rintro e w7 ⟨rfl, m7⟩
    have M7 := Lib.hid (M5.out.trans' m7)
    clear m7 M5
    go_wp2
    go_ret
    exact ⟨rfl, M7.out⟩

set_option maxRecDepth 100000 in
set_option maxHeartbeats 8000000 in
theorem plays_big (n sz : Nat) (ao : Option Addr) (len cap : Nat) (w : World) (h1 : 1 ≤ n) (h2 : n ≤ 4096) (h3 : 1 ≤ sz) (h4 : sz ≤ 65536) (hb : 50 < n ∨ 100 < sz ∨ 200 < len) :
    Calls Try.prog 3 #[.int .i64 (n : Int), .int .i64 (sz : Int), .slice ao len cap] w fun e w' => e = .returned (.bool true) ∧ Mod [] w w' := by
  have hcases : 50 < n ∨ (¬ 50 < n ∧ 100 < sz) ∨ (¬ 50 < n ∧ ¬ 100 < sz ∧ 200 < len) := by omega
  have HB := Lib.hid hb
  clear hb
  rcases hcases with g1 | ⟨g1, g2⟩ | ⟨g1, g2, g3⟩
  all_goals
    go_enter Try.func3, Try.ntmps3
    go_wp2_with fail
    refine (new_ok n sz w h1 h2 h3 h4).mono ?_
    rintro e w1 ⟨g, F, rfl, -, m1, -⟩
    have M1 := Lib.hid m1
    clear m1
    go_wp2_with fail
    refine (wakes_any _).mono ?_
    rintro e w7 ⟨rfl, m7⟩
    have M7 := Lib.hid (M1.out.trans' m7)
    clear m7 M1
    go_wp2
    go_ret
    exact ⟨rfl, M7.out⟩
end Go.Proofs.Ytfpmdacpmcdleaa
