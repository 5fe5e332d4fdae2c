/- The walk of the law BatcherNil. -/
import Derived.Test.YtigamomoegpefaaDoorZ7
namespace Go.Proofs.YtigamomoegpefaaDoor
open Go Go.RowKit Go.Lib

set_option maxRecDepth 100000 in
set_option maxHeartbeats 4000000 in
theorem batcherNil_any (c : Cm) (wt : Int) (w : World) (ht : Cnt w) :
    Calls Tryd.prog 5 #[cmdV c, .int .i64 wt] w fun e w' => e = .returned (.bool true) ∧ Mod [] w w' := by
  obtain ⟨⟨client, seq, kind, keys, old, fresh, n⟩, kao, kcap⟩ := c
  obtain ⟨w1, hw1, A1, m1⟩ : ∃ w1, w.alloc (.cells #[.int .u32 (client : Int), .int .u32 (seq : Int), .int .u8 (kind : Int), .slice kao keys.length kcap, .string old, .string fresh, .int .i64 n] 36) = w1 ∧ CmdAt w1 w.heap.size (⟨client, seq, kind, keys, old, fresh, n⟩, kao, kcap) ∧ Mod [] w w1 :=
    ⟨_, rfl, box_at (⟨client, seq, kind, keys, old, fresh, n⟩, kao, kcap) w, Mod.alloc _ _ _⟩
  have M1 := Lib.hid m1
  have HA := Lib.hid A1
  have HT := Lib.hid ht
  clear A1 m1 ht
  show Calls Tryd.prog 5 #[.agg #[.int .u32 (client : Int), .int .u32 (seq : Int), .int .u8 (kind : Int), .slice kao keys.length kcap, .string old, .string fresh, .int .i64 n], .int .i64 wt] w fun e w' => e = .returned (.bool true) ∧ Mod [] w w'
  go_enter Tryd.func5, Tryd.ntmps5
  have HC := Lib.hid (btick_nil w1)
  go_wp2_with fail
  refine HC.out.mono ?_
  rintro e w2 ⟨rfl, rfl⟩
  clear HC hw1
  have HC := Lib.hid (bnext_nil w2)
  go_wp2_with fail
  refine HC.out.mono ?_
  rintro e w3 ⟨rfl, m3⟩
  have M3 := Lib.hid (M1.out.trans' m3)
  have HA3 := Lib.hid (HA.out.mod0 m3)
  clear m3 HC HA M1
  obtain ⟨p0, p1, p2, p3, p4, p5, p6⟩ := HA3.out
  dsimp only at p0 p1 p2 p3 p4 p5 p6
  have HC := Lib.hid (bput_nil (⟨client, seq, kind, keys, old, fresh, n⟩, kao, kcap) wt w3)
  go_wp2_with fail
  refine HC.out.mono ?_
  rintro e w4 ⟨rfl, m4⟩
  have M4 := Lib.hid (M3.out.trans' m4)
  clear m4 HC M3 HA3 p0 p1 p2 p3 p4 p5 p6
  have HC := Lib.hid (bflush_nil w4)
  go_wp2_with fail
  refine HC.out.mono ?_
  rintro e w5 ⟨rfl, m5⟩
  have M5 := Lib.hid (M4.out.trans' m5)
  clear m5 HC M4
  have HC := Lib.hid (blen_nil w5)
  go_wp2_with fail
  refine HC.out.mono ?_
  rintro e w6 ⟨rfl, rfl⟩
  clear HC
  have HC := Lib.hid (bready_nil w6)
  go_wp2_with fail
  refine HC.out.mono ?_
  rintro e w7 ⟨rfl, m7⟩
  have M7 := Lib.hid (M5.out.trans' m7)
  clear m7 HC M5
  have HC := Lib.hid (wakes19_any w7 (HT.out.mod0 M7.out))
  go_wp2_with fail
  refine HC.out.mono ?_
  rintro e w8 ⟨rfl, m8⟩
  have M8 := Lib.hid (M7.out.trans' m8)
  clear m8 HC M7
  go_wp2_with fail
  go_ret
  exact ⟨rfl, M8.out⟩
end Go.Proofs.YtigamomoegpefaaDoor
