/- The walk of NetNil. -/
import Derived.Test.YtihhbphlhckakaaNet11
namespace Go.Proofs.Ytihhbphlhckakaa
open Go Go.RowKit Go.Lib

set_option maxRecDepth 100000 in
set_option maxHeartbeats 4000000 in
theorem netNil_any (fr to : Int) (ao : Option Addr) (n c : Nat) (k bit : Int) (w : World) : Calls Try.prog 5 #[.agg #[.int .i64 fr, .int .i64 to, .slice ao n c], .int .i64 k, .int .i64 bit] w fun e w' => e = .returned (.bool true) ∧ Mod [] w w' := by
  go_enter Try.func5, Try.ntmps5
  go_wp2_with fail
  have ma := Mod.alloc [] w (.cells #[.int .i64 fr, .int .i64 to, .slice ao n c] 29)
  have hx := heap_alloc_new w (.cells #[.int .i64 fr, .int .i64 to, .slice ao n c] 29)
  refine (take_nil k _).mono ?_
  rintro e w1 ⟨rfl, m1⟩
  have X1 := m1.get hx (by simp)
  have c0 := cell_of_block (i := 0) X1
  have c1 := cell_of_block (i := 1) X1
  have c2 := cell_of_block (i := 2) X1
  have hlt := lt_of_block X1
  have M1 := Lib.hid (ma.trans' m1)
  clear ma hx m1
  go_wp2_with fail
  have mb := Mod.alloc [] w1 (.cells #[.int .i64 0, .int .i64 0, .slice none 0 0] 29)
  have hy := heap_alloc_new w1 (.cells #[.int .i64 0, .int .i64 0, .slice none 0 0] 29)
  refine (send_nil .nilFunc fr to ao n c _).mono ?_
  rintro e w2 ⟨rfl, m2⟩
  have Y2 := m2.get hy (by simp)
  have d2 : w2.cell? ⟨w1.heap.size, 2, none⟩ = some (.slice none 0 0) := by rw [cell_of_block Y2]; rfl
  have M2 := Lib.hid ((M1.out.trans' mb).trans' m2)
  clear mb hy m2 Y2 X1 c0 c1 c2 hlt M1
  go_wp2_with fail
  refine (drop_nil k _).mono ?_
  rintro e w3 ⟨rfl, m3⟩
  have M3 := Lib.hid (M2.out.trans' m3)
  clear m3 d2 M2
  go_wp2_with fail
  refine (double_nil k _).mono ?_
  rintro e w4 ⟨rfl, m4⟩
  have M4 := Lib.hid (M3.out.trans' m4)
  clear m4 M3
  go_wp2_with fail
  refine (hold_nil k _).mono ?_
  rintro e w5 ⟨rfl, m5⟩
  have M5 := Lib.hid (M4.out.trans' m5)
  clear m5 M4
  go_wp2_with fail
  refine (spoil_nil k bit _).mono ?_
  rintro e w6 ⟨rfl, m6⟩
  have M6 := Lib.hid (M5.out.trans' m6)
  clear m6 M5
  go_wp2_with fail
  refine (letters_nil _).mono ?_
  rintro e w7 ⟨rfl, rfl⟩
  go_wp2_with fail
  refine (len_nil _).mono ?_
  rintro e w8 ⟨rfl, rfl⟩
  go_wp2_with fail
  refine (wakes18_any _).mono ?_
  rintro e w9 ⟨rfl, m9⟩
  have M9 := Lib.hid (M6.out.trans' m9)
  clear m9
  go_wp2
  go_ret
  exact ⟨rfl, M9.out⟩
end Go.Proofs.Ytihhbphlhckakaa
