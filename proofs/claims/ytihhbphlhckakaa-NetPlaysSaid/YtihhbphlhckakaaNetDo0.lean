/- The walk of the net laws' does: send. -/
import Derived.Test.YtihhbphlhckakaaNetDid
namespace Go.Proofs.Ytihhbphlhckakaa
open Go Go.RowKit Go.Lib

set_option maxRecDepth 100000 in
set_option maxHeartbeats 4000000 in
theorem does_send (g : Nat) (F : List Nat) (L : List Lr) (a : Option Addr) (c d : Nat) (k bit fr to : Int) (xa : Option Addr) (xc : Nat) (bs : List UInt8) (w : World) (h : NetW w g F L) (ho : OwnR w a c L) (hl : L.length ≤ 256) (hz : ∀ x ∈ L, x.2.2.length ≤ 100)
    (hd : ∀ j, j ∈ blk a → j ∉ F) (hs : Sees w xa bs) (hb : bs.length ≤ 100) (hmx : bit ≤ 9223372036854775807) (hr : ((d : Int)).tmod 7 = 0) :
    Calls Try.prog 16 #[.pointer (some ⟨g, 0, none⟩), .slice a L.length c, .agg #[.int .u8 (d : Int), .int .i64 k, .int .i64 bit, .int .i64 fr, .int .i64 to, .slice xa bs.length xc]] w fun e w' => Did w g F a e w' := by
  have H := Lib.hid h
  have HO := Lib.hid ho
  have HZ := Lib.hid hz
  have HD := Lib.hid hd
  have HS := Lib.hid hs
  have HLT := Lib.hid h.lt
  have HLO := Lib.hid (Own.lt ho)
  have ma := Mod.alloc [] w (.cells #[.int .u8 (d : Int), .int .i64 k, .int .i64 bit, .int .i64 fr, .int .i64 to, .slice xa bs.length xc] 43)
  have mb := Mod.alloc [] (w.alloc (.cells #[.int .u8 (d : Int), .int .i64 k, .int .i64 bit, .int .i64 fr, .int .i64 to, .slice xa bs.length xc] 43)) (.cells #[.int .i64 fr, .int .i64 to, strV bs] 58)
  have mc := Mod.alloc [] ((w.alloc (.cells #[.int .u8 (d : Int), .int .i64 k, .int .i64 bit, .int .i64 fr, .int .i64 to, .slice xa bs.length xc] 43)).alloc (.cells #[.int .i64 fr, .int .i64 to, strV bs] 58)) (.cells #[.int .i64 0, .int .i64 0, .slice none 0 0] 29)
  have M3 : Hid (Mod [] w (w3 w d k bit fr to xa xc bs)) := (ma.trans' mb).trans' mc
  have A3 : Hid ((w3 w d k bit fr to xa xc bs).heap[w.heap.size]? = some (.cells #[.int .u8 (d : Int), .int .i64 k, .int .i64 bit, .int .i64 fr, .int .i64 to, .slice xa bs.length xc] 43)) := mc.get (mb.get (heap_alloc_new w _) (by simp)) (by simp)
  have X3 : Hid ((w3 w d k bit fr to xa xc bs).heap[w.heap.size + 1]? = some (.cells #[.int .i64 fr, .int .i64 to, strV bs] 58)) := by
    have := mc.get (heap_alloc_new (w.alloc (.cells #[.int .u8 (d : Int), .int .i64 k, .int .i64 bit, .int .i64 fr, .int .i64 to, .slice xa bs.length xc] 43)) (.cells #[.int .i64 fr, .int .i64 to, strV bs] 58)) (by simp)
    rw [heap_size_alloc] at this
    exact this
  have G3 : Hid ((w3 w d k bit fr to xa xc bs).heap[w.heap.size + 1 + 1]? = some (.cells #[.int .i64 0, .int .i64 0, .slice none 0 0] 29)) := by
    have := heap_alloc_new ((w.alloc (.cells #[.int .u8 (d : Int), .int .i64 k, .int .i64 bit, .int .i64 fr, .int .i64 to, .slice xa bs.length xc] 43)).alloc (.cells #[.int .i64 fr, .int .i64 to, strV bs] 58)) (.cells #[.int .i64 0, .int .i64 0, .slice none 0 0] 29)
    rw [heap_size_alloc, heap_size_alloc] at this
    exact this
  have cv := str_run3 (c := xc) (Sees.mod0 hs ma)
  clear h ho hz hd hs ma mb mc
  unfold strV at cv
  have hrm : IntKind.u8.wrap 0 = 0 := by rfl
  go_enter Try.func16, Try.ntmps16
  go_upto_region 3 with (fail)
  change Code.wp _ _ _ _ (w3 w d k bit fr to xa xc bs)
  generalize w3 w d k bit fr to xa xc bs = W at M3 A3 X3 G3 ⊢
  clear cv
  have H3 := Lib.hid (H.out.mod0 M3.out)
  have HO3 := Lib.hid (Own.mod0 HO.out M3.out)
  have HS3 := Lib.hid (HS.out.mod0 M3.out)
  have hsz : Hid (w.heap.size + 3 ≤ W.heap.size) := by have := lt_of_block G3.out; show _ ≤ _; omega
  have CR := refsend_all a c L fr to bs W HO3.out hl
  have CT := fun (w' : World) (h' : NetW w' g F L) (hs' : Sees w' xa bs) => send_all g F L fr to xa bs.length xc bs w' h' hl rfl hs' (by omega)
  have hkeep := sent_keeps fr to bs L hl HZ.out hb
  obtain ⟨⟨e0, L'⟩, hact⟩ : ∃ z, sent fr to bs L = z := ⟨_, rfl⟩
  rw [hact] at hkeep CR
  simp only [hact] at CT
  dsimp only at hkeep CT CR
  clear hact
  have KEEP := Lib.hid hkeep
  have CTH := Lib.hid CT
  have CRH := Lib.hid CR
  clear hkeep CT CR
  have c0 := cell_of_block (i := 0) A3.out
  have x0 := cell_of_block (i := 0) X3.out
  have x1 := cell_of_block (i := 1) X3.out
  have x2 := cell_of_block (i := 2) X3.out
  go_wp2_with fail
  refine CRH.out.mono ?_
  rintro e w4 ⟨a', c', rfl, o4, m4, f4⟩
  have A4 := m4.get A3.out (by simp)
  have O4 := Lib.hid o4
  have H4 := Lib.hid (H3.out.mod0 m4)
  have S4 := Lib.hid (HS3.out.mod0 m4)
  have M4 := Lib.hid (M3.out.trans' m4)
  have FA : Hid (∀ j, j ∈ blk a' → j ∈ blk a ∨ w.heap.size + 3 ≤ j) := fun j hj => (f4 j hj).imp id (fun h => Nat.le_trans hsz.out h)
  have LA := Lib.hid (Own.lt o4)
  have hw4 : Hid (w.heap.size + 3 ≤ w4.heap.size) := Nat.le_trans hsz.out m4.size
  clear o4 m4 f4 c0 x0 x1 x2
  have c3 := cell_of_block (i := 3) A4
  have c4 := cell_of_block (i := 4) A4
  have c5 := cell_of_block (i := 5) A4
  clear A4
  go_wp2_with fail
  refine (CTH.out w4 H4.out S4.out).mono ?_
  rintro e w5 ⟨rfl, F', h5, m5, f5⟩
  have O5 := Lib.hid (Own.mod O4.out m5 (fun j hj => (FA.out j hj).elim (HD.out j) (fun h hm => by have := HLT.out j hm; omega)))
  have H5 := Lib.hid h5
  have M5 : Hid (Mod F w w5) := (M4.out.weaken (by simp)).trans' m5
  have F5 : Hid (∀ j, j ∈ F' → j ∈ F ∨ w4.heap.size ≤ j) := f5
  clear h5 m5 f5 c3 c4 c5 O4 H4 S4 M4
  go_wp2
  ((try simp only [Exit.inBlock, Exit.then]); refine bodyPost_ret (by simp [results, Try.results16, go_sem, *]; try rfl) rfl ?_)
  exact ⟨a', c', L', F', rfl, H5.out, O5.out, KEEP.out.1, KEEP.out.2, M5.out, fun j hj => (F5.out j hj).imp id (fun h => by have := hw4.out; omega), fun j hj hj2 => (F5.out j hj2).elim (fun h => (FA.out j hj).elim (fun h2 => HD.out j h2 h) (fun h2 => by have := HLT.out j h; omega)) (fun h => by have := LA.out j hj; omega), fun j hj => (FA.out j hj).imp id (fun h => by omega)⟩
end Go.Proofs.Ytihhbphlhckakaa
