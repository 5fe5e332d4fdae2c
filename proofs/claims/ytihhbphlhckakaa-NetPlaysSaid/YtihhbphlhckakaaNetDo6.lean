/- The walk of the net laws' does: many. -/
import Derived.Test.YtihhbphlhckakaaNetDid
namespace Go.Proofs.Ytihhbphlhckakaa
open Go Go.RowKit Go.Lib

set_option maxRecDepth 100000 in
set_option maxHeartbeats 4000000 in
theorem does_many (g : Nat) (F : List Nat) (L : List Lr) (a : Option Addr) (c d : Nat) (k bit fr to : Int) (xa : Option Addr) (xc : Nat) (bs : List UInt8) (w : World) (h : NetW w g F L) (ho : OwnR w a c L) (hl : L.length ≤ 256) (hz : ∀ x ∈ L, x.2.2.length ≤ 100)
    (hd : ∀ j, j ∈ blk a → j ∉ F) (hs : Sees w xa bs) (hsm : ∀ w', Mod F w w' → Sees w' xa bs) (hb : bs.length ≤ 100) (hmx : bit ≤ 9223372036854775807) (hr : ((d : Int)).tmod 7 = 6) :
    Calls Try.prog 16 #[.pointer (some ⟨g, 0, none⟩), .slice a L.length c, .agg #[.int .u8 (d : Int), .int .i64 k, .int .i64 bit, .int .i64 fr, .int .i64 to, .slice xa bs.length xc]] w fun e w' => Did w g F a e w' := by
  have H := Lib.hid h
  have HO := Lib.hid ho
  have HZ := Lib.hid hz
  have HD := Lib.hid hd
  have HS := Lib.hid hs
  have HLT := Lib.hid h.lt
  have HSM := Lib.hid hsm
  have HLO := Lib.hid (Own.lt ho)
  have ma := Mod.alloc [] w (.cells #[.int .u8 (d : Int), .int .i64 k, .int .i64 bit, .int .i64 fr, .int .i64 to, .slice xa bs.length xc] 43)
  have mb := Mod.alloc [] (w.alloc (.cells #[.int .u8 (d : Int), .int .i64 k, .int .i64 bit, .int .i64 fr, .int .i64 to, .slice xa bs.length xc] 43)) (.cells #[.int .i64 fr, .int .i64 to, strV bs] 58)
  have mc := Mod.alloc [] ((w.alloc (.cells #[.int .u8 (d : Int), .int .i64 k, .int .i64 bit, .int .i64 fr, .int .i64 to, .slice xa bs.length xc] 43)).alloc (.cells #[.int .i64 fr, .int .i64 to, strV bs] 58)) (.cells #[.int .i64 0, .int .i64 0, .slice none 0 0] 29)
  have M3 : Hid (Mod [] w (w3 w d k bit fr to xa xc bs)) := (ma.trans' mb).trans' mc
  have A3 : Hid ((w3 w d k bit fr to xa xc bs).heap[w.heap.size]? = some (.cells #[.int .u8 (d : Int), .int .i64 k, .int .i64 bit, .int .i64 fr, .int .i64 to, .slice xa bs.length xc] 43)) := mc.get (mb.get (heap_alloc_new w _) (by simp)) (by simp)
  have X3 : Hid ((w3 w d k bit fr to xa xc bs).heap[w.heap.size + 1]? = some (.cells #[.int .i64 fr, .int .i64 to, strV bs] 58)) := by
    have := mc.get (heap_alloc_new (w.alloc (.cells #[.int .u8 (d : Int), .int .i64 k, .int .i64 bit, .int .i64 fr, .int .i64 to, .slice xa bs.length xc] 43)) (.cells #[.int .i64 fr, .int .i64 to, strV bs] 58)) (by simp)
    rw [heap_size_alloc] at this
    exact this
  have G3 : Hid ((w3 w d k bit fr to xa xc bs).heap[w.heap.size + 1 + 1]? = some (.cells #[.int .i64 0, .int .i64 0, .slice none 0 0] 29)) := by
    have := heap_alloc_new ((w.alloc (.cells #[.int .u8 (d : Int), .int .i64 k, .int .i64 bit, .int .i64 fr, .int .i64 to, .slice xa bs.length xc] 43)).alloc (.cells #[.int .i64 fr, .int .i64 to, strV bs] 58)) (.cells #[.int .i64 0, .int .i64 0, .slice none 0 0] 29)
    rw [heap_size_alloc, heap_size_alloc] at this
    exact this
  have cv := str_run3 (c := xc) (Sees.mod0 hs ma)
  clear h ho hz hd hs hsm ma mb mc
  unfold strV at cv
  have hrm : IntKind.u8.wrap 6 = 6 := by rfl
  go_enter Try.func16, Try.ntmps16
  go_upto_region 3 with (fail)
  change Code.wp _ _ _ _ (w3 w d k bit fr to xa xc bs)
  generalize w3 w d k bit fr to xa xc bs = W at M3 A3 X3 G3 ⊢
  clear cv
  have H3 := Lib.hid (H.out.mod0 M3.out)
  have HO3 := Lib.hid (Own.mod0 HO.out M3.out)
  have HS3 := Lib.hid (HS.out.mod0 M3.out)
  have hsz : Hid (w.heap.size + 3 ≤ W.heap.size) := by have := lt_of_block G3.out; show _ ≤ _; omega
  have HBL : Hid (bs.length ≤ 100) := hb
  have c0 := cell_of_block (i := 0) A3.out
  go_wp2_with fail
  go_loopw [1, 13] (fun row i wr => ∃ (m : Nat) (a' : Option Addr) (c' : Nat) (L' : List Lr) (F' : List Nat), m ≤ 300 ∧ i = .int .i64 (m : Int) ∧ row = .slice a' L'.length c' ∧ OwnR wr a' c' L' ∧ NetW wr g F' L' ∧ L'.length ≤ 256 ∧ (∀ x ∈ L', x.2.2.length ≤ 100) ∧
      Mod F W wr ∧ (∀ j, j ∈ F' → j ∈ F ∨ W.heap.size ≤ j) ∧ (∀ j, j ∈ blk a' → j ∉ F') ∧ (∀ j, j ∈ blk a' → j ∈ blk a ∨ W.heap.size ≤ j)) (fun _ i _ => 300 - (intOf i).toNat)
  case atStart => exact ⟨0, a, c, L, F, by omega, rfl, rfl, HO3.out, H3.out, hl, HZ.out, Mod.refl _ _, fun j hj => .inl hj, HD.out, fun j hj => .inl hj⟩
  case round =>
    obtain ⟨m, a1, c1, L1, F1, hm, rfl, rfl, ho1, hn1, hl1, hz1, m1, f1, d1, s1⟩ := hrel
    have hnF : ∀ i, w.heap.size ≤ i → i ∉ F := fun i hi hm => by have := HLT.out i hm; omega
    have A1 := Lib.hid (m1.get A3.out (hnF _ (by omega)))
    have X1 := Lib.hid (m1.get X3.out (hnF _ (by omega)))
    have S1 := Lib.hid (HSM.out wr ((M3.out.weaken (S' := F) (by simp)).trans' m1))
    have hw1 : Hid (W.heap.size ≤ wr.heap.size) := m1.size
    have M1 := Lib.hid m1
    have HO1 := Lib.hid ho1
    have HN1 := Lib.hid hn1
    have Z1 := Lib.hid hz1
    have FF1 := Lib.hid f1
    have D1 := Lib.hid d1
    have SS1 := Lib.hid s1
    have LN1 := Lib.hid hn1.lt
    have LO1 := Lib.hid (Own.lt ho1)
    clear ho1 hn1 hz1 m1 f1 d1 s1 hnF
    have c1' := cell_of_block (i := 1) A1.out
    by_cases hc : (m : Int) < k ∧ m < 300
    · obtain ⟨hc1, hc2⟩ := hc
      have hc3 : (m : Int) < 300 := by omega
      have CR := refsend_all a1 c1 L1 fr to bs wr HO1.out hl1
      have CT := fun (w' : World) (h' : NetW w' g F1 L1) (hs' : Sees w' xa bs) => send_all g F1 L1 fr to xa bs.length xc bs w' h' hl1 rfl hs' HBL.out
      have hkeep := sent_keeps fr to bs L1 hl1 Z1.out HBL.out
      obtain ⟨⟨e0, L'⟩, hact⟩ : ∃ z, sent fr to bs L1 = z := ⟨_, rfl⟩
      rw [hact] at hkeep CR
      simp only [hact] at CT
      dsimp only at hkeep CT CR
      clear hact
      have KEEP := Lib.hid hkeep
      have CTH := Lib.hid CT
      have CRH := Lib.hid CR
      clear hkeep CT CR
      have x0 := cell_of_block (i := 0) X1.out
      have x1 := cell_of_block (i := 1) X1.out
      have x2 := cell_of_block (i := 2) X1.out
      go_wp2_with fail
      refine CRH.out.mono ?_
      rintro e w4 ⟨a', c', rfl, o4, m4, f4⟩
      have A4 := m4.get A1.out (by simp)
      have O4 := Lib.hid o4
      have H4 := Lib.hid (HN1.out.mod0 m4)
      have S4 := Lib.hid (S1.out.mod0 m4)
      have M4 : Hid (Mod F W w4) := M1.out.trans m4 (by simp)
      have FA : Hid (∀ j, j ∈ blk a' → j ∈ blk a1 ∨ wr.heap.size ≤ j) := f4
      have LA := Lib.hid (Own.lt o4)
      have hw4 : Hid (wr.heap.size ≤ w4.heap.size) := m4.size
      clear o4 m4 f4 c1' x0 x1 x2
      have c3 := cell_of_block (i := 3) A4
      have c4 := cell_of_block (i := 4) A4
      have c5 := cell_of_block (i := 5) A4
      clear A4
      go_wp2_with fail
      refine (CTH.out w4 H4.out S4.out).mono ?_
      rintro e w5 ⟨rfl, F', h5, m5, f5⟩
      have O5 := Lib.hid (Own.mod O4.out m5 (fun j hj => (FA.out j hj).elim (D1.out j) (fun h hm => by have := LN1.out j hm; omega)))
      have H5 := Lib.hid h5
      have M5 : Hid (Mod F W w5) := M4.out.trans m5 (fun i hi hl => (FF1.out i hi).elim id (fun h => by omega))
      have F5 : Hid (∀ j, j ∈ F' → j ∈ F1 ∨ w4.heap.size ≤ j) := f5
      clear h5 m5 f5 c3 c4 c5 O4 H4 S4 M4
      go_wp2
      go_roundw
      case rel =>
        have g1 := hw1.out
        have g2 := hw4.out
        exact ⟨m + 1, a', c', L', F', by omega, by go_num, rfl, O5.out, H5.out, KEEP.out.1, KEEP.out.2, M5.out, fun j hj => (F5.out j hj).elim (FF1.out j) (fun h => .inr (by omega)), fun j hj hj2 => (F5.out j hj2).elim (fun h => (FA.out j hj).elim (fun h2 => D1.out j h2 h) (fun h2 => by have := LN1.out j h; omega)) (fun h => by have := LA.out j hj; omega), fun j hj => (FA.out j hj).elim (SS1.out j) (fun h => .inr (by omega))⟩
      case measure => simp [intOf]; omega
    · have fin : Did w g F a (.returned (.tuple #[.slice a1 L1.length c1, .bool true])) wr :=
        ⟨a1, c1, L1, F1, rfl, HN1.out, HO1.out, hl1, Z1.out, (M3.out.weaken (by simp)).trans' M1.out, fun j hj => (FF1.out j hj).imp id (fun h => by have := hsz.out; omega), D1.out, fun j hj => (SS1.out j hj).imp id (fun h => by have := hsz.out; omega)⟩
      have FIN := Lib.hid fin
      clear fin
      by_cases hc1 : (m : Int) < k
      · have hme : m = 300 := by omega
        subst hme
        have hc3 : ¬ ((300 : Nat) : Int) < 300 := by omega
        go_wp2
        ((try simp only [Exit.inBlock, Exit.then]); refine bodyPost_ret (by simp [results, Try.results16, go_sem, *]; try rfl) rfl ?_)
        exact FIN.out
      · go_wp2
        ((try simp only [Exit.inBlock, Exit.then]); refine bodyPost_ret (by simp [results, Try.results16, go_sem, *]; try rfl) rfl ?_)
        exact FIN.out
end Go.Proofs.Ytihhbphlhckakaa
