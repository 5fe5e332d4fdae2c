/- The walk of the net laws' does: drop. -/
import Derived.Test.YtihhbphlhckakaaNetDid
namespace Go.Proofs.Ytihhbphlhckakaa
open Go Go.RowKit Go.Lib

set_option maxRecDepth 100000 in
set_option maxHeartbeats 4000000 in
theorem does_drop (g : Nat) (F : List Nat) (L : List Lr) (a : Option Addr) (c d : Nat) (k bit fr to : Int) (xa : Option Addr) (xc : Nat) (bs : List UInt8) (w : World) (h : NetW w g F L) (ho : OwnR w a c L) (hl : L.length ≤ 256) (hz : ∀ x ∈ L, x.2.2.length ≤ 100)
    (hd : ∀ j, j ∈ blk a → j ∉ F) (hs : Sees w xa bs) (hb : bs.length ≤ 100) (hmx : bit ≤ 9223372036854775807) (hr : ((d : Int)).tmod 7 = 2) :
    Calls Try.prog 16 #[.pointer (some ⟨g, 0, none⟩), .slice a L.length c, .agg #[.int .u8 (d : Int), .int .i64 k, .int .i64 bit, .int .i64 fr, .int .i64 to, .slice xa bs.length xc]] w fun e w' => Did w g F a e w' := by
  have H := Lib.hid h
  have HO := Lib.hid ho
  have HZ := Lib.hid hz
  have HD := Lib.hid hd
  have HS := Lib.hid hs
  have HLT := Lib.hid h.lt
  have HLO := Lib.hid (Own.lt ho)
  have ma := Mod.alloc [] w (.cells #[.int .u8 (d : Int), .int .i64 k, .int .i64 bit, .int .i64 fr, .int .i64 to, .slice xa bs.length xc] 43)
  have mb := Mod.alloc [] (w.alloc (.cells #[.int .u8 (d : Int), .int .i64 k, .int .i64 bit, .int .i64 fr, .int .i64 to, .slice xa bs.length xc] 43)) (.cells #[.int .i64 fr, .int .i64 to, strV bs] 58)
  have mc := Mod.alloc [] ((w.alloc (.cells #[.int .u8 (d : Int), .int .i64 k, .int .i64 bit, .int .i64 fr, .int .i64 to, .slice xa bs.length xc] 43)).alloc (.cells #[.int .i64 fr, .int .i64 to, strV bs] 58)) (.cells #[.int .i64 0, .int .i64 0, .slice none 0 0] 29)
  have M3 : Hid (Mod [] w (w3 w d k bit fr to xa xc bs)) := (ma.trans' mb).trans' mc
  have A3 : Hid ((w3 w d k bit fr to xa xc bs).heap[w.heap.size]? = some (.cells #[.int .u8 (d : Int), .int .i64 k, .int .i64 bit, .int .i64 fr, .int .i64 to, .slice xa bs.length xc] 43)) := mc.get (mb.get (heap_alloc_new w _) (by simp)) (by simp)
  have X3 : Hid ((w3 w d k bit fr to xa xc bs).heap[w.heap.size + 1]? = some (.cells #[.int .i64 fr, .int .i64 to, strV bs] 58)) := by
    have := mc.get (heap_alloc_new (w.alloc (.cells #[.int .u8 (d : Int), .int .i64 k, .int .i64 bit, .int .i64 fr, .int .i64 to, .slice xa bs.length xc] 43)) (.cells #[.int .i64 fr, .int .i64 to, strV bs] 58)) (by simp)
    rw [heap_size_alloc] at this
    exact this
  have G3 : Hid ((w3 w d k bit fr to xa xc bs).heap[w.heap.size + 1 + 1]? = some (.cells #[.int .i64 0, .int .i64 0, .slice none 0 0] 29)) := by
    have := heap_alloc_new ((w.alloc (.cells #[.int .u8 (d : Int), .int .i64 k, .int .i64 bit, .int .i64 fr, .int .i64 to, .slice xa bs.length xc] 43)).alloc (.cells #[.int .i64 fr, .int .i64 to, strV bs] 58)) (.cells #[.int .i64 0, .int .i64 0, .slice none 0 0] 29)
    rw [heap_size_alloc, heap_size_alloc] at this
    exact this
  have cv := str_run3 (c := xc) (Sees.mod0 hs ma)
  clear h ho hz hd hs ma mb mc
  unfold strV at cv
  have hrm : IntKind.u8.wrap 2 = 2 := by rfl
  go_enter Try.func16, Try.ntmps16
  go_upto_region 3 with (fail)
  change Code.wp _ _ _ _ (w3 w d k bit fr to xa xc bs)
  generalize w3 w d k bit fr to xa xc bs = W at M3 A3 X3 G3 ⊢
  clear cv
  have H3 := Lib.hid (H.out.mod0 M3.out)
  have HO3 := Lib.hid (Own.mod0 HO.out M3.out)
  have HS3 := Lib.hid (HS.out.mod0 M3.out)
  have hsz : Hid (w.heap.size + 3 ≤ W.heap.size) := by have := lt_of_block G3.out; show _ ≤ _; omega
  have hkeep := act_keeps 2 k bit L (by omega) (by omega) hl 100 HZ.out
  have CT := drop_all g F L k bit W H3.out hl
  have CR := fun (w' : World) (h' : OwnR w' a c L) => refdo_all a c L 2 k bit w' h' (by omega) (by omega) hl (fun x hx => Nat.le_trans (HZ.out x hx) (by omega)) hmx
  obtain ⟨⟨e0, ⟨x1, x2, xb⟩, L'⟩, hact⟩ : ∃ z, act 2 k bit L = z := ⟨_, rfl⟩
  rw [hact] at hkeep CT
  simp only [hact] at CR
  dsimp only at hkeep CT CR
  clear hact
  have KEEP := Lib.hid hkeep
  have CTH := Lib.hid CT
  have CRH := Lib.hid CR
  clear hkeep CT CR
  have c0 := cell_of_block (i := 0) A3.out
  have c1 := cell_of_block (i := 1) A3.out
  have c2 := cell_of_block (i := 2) A3.out
  go_wp2_with fail
  refine CTH.out.mono ?_
  rintro e w4 ⟨rfl, hx, F', h4, m4, f4⟩
  simp only [Prod.mk.injEq] at hx
  obtain ⟨hx1, hx2, hx3⟩ := hx
  have s4 : Sees w4 none xb := by rw [hx3]; exact fun j hj => absurd hj (Nat.not_lt_zero _)
  have G3 : Hid (W.heap[w.heap.size + 1 + 1]? = some (.cells #[.int .i64 x1, .int .i64 x2, .slice none xb.length 0] 29)) := by
    rw [hx1, hx2, hx3]; exact G3
  clear hx1 hx2 hx3
  have M4 : Hid (Mod F w w4) := (M3.out.weaken (by simp)).trans' m4
  have hnF : ∀ i, w.heap.size ≤ i → i ∉ F := fun i hi hm => by have := HLT.out i hm; omega
  have G4 := m4.get G3.out (hnF _ (by omega))
  have A4 := m4.get A3.out (hnF _ (by omega))
  have HO4 := Lib.hid (Own.mod HO3.out m4 (fun j hj => HD.out j hj))
  have HN4 := Lib.hid h4
  have F4 : Hid (∀ j, j ∈ F' → j ∈ F ∨ w.heap.size ≤ j) := fun j hj => (f4 j hj).imp id (fun h => by have := hsz.out; omega)
  have FX : Hid (∀ j, j ∈ F' → j < w.heap.size ∨ w.heap.size + 3 ≤ j) := fun j hj => (f4 j hj).elim (fun h => .inl (HLT.out j h)) (fun h => .inr (Nat.le_trans hsz.out h))
  have HL4 := Lib.hid h4.lt
  have hw4 : Hid (w.heap.size + 3 ≤ w4.heap.size) := Nat.le_trans hsz.out m4.size
  have G4h := Lib.hid G4
  clear m4 f4 h4 hnF c0 c1 c2
  have c0 := cell_of_block (i := 0) A4
  have c1 := cell_of_block (i := 1) A4
  have c2 := cell_of_block (i := 2) A4
  have z0 := cell_of_block (i := 0) G4
  have z1 := cell_of_block (i := 1) G4
  have z2 := cell_of_block (i := 2) G4
  have y0 := free_of_block (i := 0) G4
  have y1 := free_of_block (i := 1) G4
  have y2 := free_of_block (i := 2) G4
  clear G4 A4
  go_wp2_with fail
  have mg := Mod.refl [] w4
  refine (CRH.out _ HO4.out).mono ?_
  rintro e w5 ⟨a', c', rfl, o5, m5, f5⟩
  have O5 := Lib.hid o5
  have HN5 := Lib.hid ((HN4.out.mod mg (fun j hj hjm => by simp at hjm; skip)).mod0 m5)
  have G5 := Lib.hid (m5.get G4h.out (by simp))
  have M5 : Hid (Mod F w w5) := (M4.out.trans mg (fun i hi hl => by simp at hi)).trans m5 (by simp)
  have FA : Hid (∀ j, j ∈ blk a' → j ∈ blk a ∨ w4.heap.size ≤ j) := fun j hj => (f5 j hj).imp id (fun h => Nat.le_trans mg.size h)
  have hw5 : Hid (w4.heap.size ≤ w5.heap.size) := Nat.le_trans mg.size m5.size
  have S5 := Lib.hid ((s4.mod mg (fun b off hb hm => by simp at hm)).mod0 m5)
  clear mg o5 m5 f5 s4 M4 HN4 HO4 c0 c1 c2 z0 z1 z2 y0 y1 y2
  go_upto_region 26 with (fail)
  have ml := Mod.alloc [] w5 (.cells #[.int .i64 x1, .int .i64 x2, strV xb] 58)
  have V6 := heap_alloc_new w5 (.cells #[.int .i64 x1, .int .i64 x2, strV xb] 58)
  generalize w5.alloc (.cells #[.int .i64 x1, .int .i64 x2, strV xb] 58) = w6 at ml V6 ⊢
  have G6 := Lib.hid (ml.get G5.out (by simp))
  have V6h := Lib.hid V6
  have M6 : Hid (Mod F w w6) := M5.out.trans ml (by simp)
  have O6 := Lib.hid (Own.mod0 O5.out ml)
  have HN6 := Lib.hid (HN5.out.mod0 ml)
  have S6 := Lib.hid (S5.out.mod0 ml)
  clear ml V6 G5 M5 O5 HN5 S5
  refine rest_start [] 28 #[false, false, false, false, false, false, false, false, false, false, false, false, false, false, false, false, false, false, false, false, false, false, false, false, false, false, false, false] rfl (by kernel_rfl) (by kernel_rfl) ?_
  intro w7 m7
  have U0 := Lib.hid (m7.cell (cell_of_block (i := 0) G6.out) (by simp))
  have U1 := Lib.hid (m7.cell (cell_of_block (i := 1) G6.out) (by simp))
  have U2 := Lib.hid (m7.cell (cell_of_block (i := 2) G6.out) (by simp))
  have V0 := Lib.hid (m7.cell (cell_of_block (i := 0) V6h.out) (by simp))
  have V1 := Lib.hid (m7.cell (cell_of_block (i := 1) V6h.out) (by simp))
  have V2 := Lib.hid (m7.cell (cell_of_block (i := 2) V6h.out) (by simp))
  have S7 := Lib.hid (S6.out.mod0 m7)
  have M7 : Hid (Mod F w w7) := M6.out.trans m7 (by simp)
  have O7 := Lib.hid (Own.mod0 O6.out m7)
  have HN7 := Lib.hid (HN6.out.mod0 m7)
  clear m7 G6 V6h M6 O6 HN6 S6
  refine rest_got (i := 0) (v := ?v1) rfl (by kernel_rfl) (by kernel_rfl) (by kernel_rfl) (fun _ _ _ h => h) (by rfl) ?y1 ?r1
  case y1 => (intro w9q hSwq; clear hSwq; go_simp; with_reducible rfl)
  try simp only [Act.put, List.setIfInBounds_toArray, List.set_cons_zero, List.set_cons_succ]
  refine rest_got (i := 1) (v := ?v2) rfl (by kernel_rfl) (by kernel_rfl) (by kernel_rfl) (fun _ _ _ h => h) (by rfl) ?y2 ?r2
  case y2 => (intro w9q hSwq; clear hSwq; go_simp; with_reducible rfl)
  try simp only [Act.put, List.setIfInBounds_toArray, List.set_cons_zero, List.set_cons_succ]
  refine rest_got (i := 2) (v := ?v3) rfl (by kernel_rfl) (by kernel_rfl) (by kernel_rfl) (fun _ _ _ h => h) (by rfl) ?y3 ?r3
  case y3 => (intro w9q hSwq; clear hSwq; go_simp; with_reducible rfl)
  try simp only [Act.put, List.setIfInBounds_toArray, List.set_cons_zero, List.set_cons_succ]
  refine rest_got (i := 3) (v := ?v4) rfl (by kernel_rfl) (by kernel_rfl) (by kernel_rfl) (fun _ _ _ h => h) (by rfl) ?y4 ?r4
  case y4 => (intro w9q hSwq; clear hSwq; go_simp; with_reducible rfl)
  try simp only [Act.put, List.setIfInBounds_toArray, List.set_cons_zero, List.set_cons_succ]
  refine rest_got (i := 4) (v := ?v5) rfl (by kernel_rfl) (by kernel_rfl) (by kernel_rfl) (fun _ _ _ h => h) (by rfl) ?y5 ?r5
  case y5 => (intro w9q hSwq; clear hSwq; go_simp; with_reducible rfl)
  try simp only [Act.put, List.setIfInBounds_toArray, List.set_cons_zero, List.set_cons_succ]
  refine rest_got (i := 5) (v := ?v6) rfl (by kernel_rfl) (by kernel_rfl) (by kernel_rfl) (fun _ _ _ h => h) (by rfl) ?y6 ?r6
  case y6 => (intro w9q hSwq; clear hSwq; go_simp; with_reducible rfl)
  try simp only [Act.put, List.setIfInBounds_toArray, List.set_cons_zero, List.set_cons_succ]
  refine rest_got (i := 6) (v := ?v7) rfl (by kernel_rfl) (by kernel_rfl) (by kernel_rfl) (fun _ _ _ h => h) (by rfl) ?y7 ?r7
  case y7 => ((intro w9' hm9'; have hc9' := Mod.cell hm9' U0.out (by first | exact List.not_mem_nil | (simp; done) | (simp; omega)); clear hm9'; go_simp; with_reducible rfl))
  try simp only [Act.put, List.setIfInBounds_toArray, List.set_cons_zero, List.set_cons_succ]
  refine rest_got (i := 7) (v := ?v8) rfl (by kernel_rfl) (by kernel_rfl) (by kernel_rfl) (fun _ _ _ h => h) (by rfl) ?y8 ?r8
  case y8 => (intro w9q hSwq; clear hSwq; go_simp; with_reducible rfl)
  try simp only [Act.put, List.setIfInBounds_toArray, List.set_cons_zero, List.set_cons_succ]
  refine rest_got (i := 8) (v := ?v9) rfl (by kernel_rfl) (by kernel_rfl) (by kernel_rfl) (fun _ _ _ h => h) (by rfl) ?y9 ?r9
  case y9 => ((intro w9' hm9'; have hc9' := Mod.cell hm9' V0.out (by first | exact List.not_mem_nil | (simp; done) | (simp; omega)); clear hm9'; go_simp; with_reducible rfl))
  try simp only [Act.put, List.setIfInBounds_toArray, List.set_cons_zero, List.set_cons_succ]
  refine rest_got (i := 9) (v := ?v10) rfl (by kernel_rfl) (by kernel_rfl) (by kernel_rfl) (fun _ _ _ h => h) (by rfl) ?y10 ?r10
  case y10 => (intro w9q hSwq; clear hSwq; go_simp; with_reducible rfl)
  try simp only [Act.put, List.setIfInBounds_toArray, List.set_cons_zero, List.set_cons_succ]
  refine rest_got (i := 10) (v := ?v11) rfl (by kernel_rfl) (by kernel_rfl) (by kernel_rfl) (fun _ _ _ h => h) (by rfl) ?y11 ?r11
  case y11 => (intro w9q hSwq; clear hSwq; go_simp; with_reducible rfl)
  try simp only [Act.put, List.setIfInBounds_toArray, List.set_cons_zero, List.set_cons_succ]
  refine rest_got (i := 11) (v := ?v12) rfl (by kernel_rfl) (by kernel_rfl) (by kernel_rfl) (fun _ _ _ h => h) (by rfl) ?y12 ?r12
  case y12 => (intro w9q hSwq; clear hSwq; go_simp; with_reducible rfl)
  try simp only [Act.put, List.setIfInBounds_toArray, List.set_cons_zero, List.set_cons_succ]
  refine rest_got (i := 12) (v := ?v13) rfl (by kernel_rfl) (by kernel_rfl) (by kernel_rfl) (fun _ _ _ h => h) (by rfl) ?y13 ?r13
  case y13 => (intro w9q hSwq; clear hSwq; go_simp; with_reducible rfl)
  try simp only [Act.put, List.setIfInBounds_toArray, List.set_cons_zero, List.set_cons_succ]
  refine rest_got (i := 13) (v := ?v14) rfl (by kernel_rfl) (by kernel_rfl) (by kernel_rfl) (fun _ _ _ h => h) (by rfl) ?y14 ?r14
  case y14 => ((intro w9' hm9'; have hc9' := Mod.cell hm9' U1.out (by first | exact List.not_mem_nil | (simp; done) | (simp; omega)); clear hm9'; go_simp; with_reducible rfl))
  try simp only [Act.put, List.setIfInBounds_toArray, List.set_cons_zero, List.set_cons_succ]
  refine rest_got (i := 14) (v := ?v15) rfl (by kernel_rfl) (by kernel_rfl) (by kernel_rfl) (fun _ _ _ h => h) (by rfl) ?y15 ?r15
  case y15 => (intro w9q hSwq; clear hSwq; go_simp; with_reducible rfl)
  try simp only [Act.put, List.setIfInBounds_toArray, List.set_cons_zero, List.set_cons_succ]
  refine rest_got (i := 15) (v := ?v16) rfl (by kernel_rfl) (by kernel_rfl) (by kernel_rfl) (fun _ _ _ h => h) (by rfl) ?y16 ?r16
  case y16 => ((intro w9' hm9'; have hc9' := Mod.cell hm9' V1.out (by first | exact List.not_mem_nil | (simp; done) | (simp; omega)); clear hm9'; go_simp; with_reducible rfl))
  try simp only [Act.put, List.setIfInBounds_toArray, List.set_cons_zero, List.set_cons_succ]
  refine rest_got (i := 16) (v := ?v17) rfl (by kernel_rfl) (by kernel_rfl) (by kernel_rfl) (fun _ _ _ h => h) (by rfl) ?y17 ?r17
  case y17 => (intro w9q hSwq; clear hSwq; go_simp; with_reducible rfl)
  try simp only [Act.put, List.setIfInBounds_toArray, List.set_cons_zero, List.set_cons_succ]
  refine rest_got (i := 17) (v := ?v18) rfl (by kernel_rfl) (by kernel_rfl) (by kernel_rfl) (fun _ _ _ h => h) (by rfl) ?y18 ?r18
  case y18 => (intro w9q hSwq; clear hSwq; go_simp; with_reducible rfl)
  try simp only [Act.put, List.setIfInBounds_toArray, List.set_cons_zero, List.set_cons_succ]
  refine rest_got (i := 18) (v := ?v19) rfl (by kernel_rfl) (by kernel_rfl) (by kernel_rfl) (fun _ _ _ h => h) (by rfl) ?y19 ?r19
  case y19 => (intro w9q hSwq; clear hSwq; go_simp; with_reducible rfl)
  try simp only [Act.put, List.setIfInBounds_toArray, List.set_cons_zero, List.set_cons_succ]
  refine rest_got (i := 19) (v := ?v20) rfl (by kernel_rfl) (by kernel_rfl) (by kernel_rfl) (fun _ _ _ h => h) (by rfl) ?y20 ?r20
  case y20 => (intro w9q hSwq; clear hSwq; go_simp; with_reducible rfl)
  try simp only [Act.put, List.setIfInBounds_toArray, List.set_cons_zero, List.set_cons_succ]
  refine rest_got (i := 20) (v := ?v21) rfl (by kernel_rfl) (by kernel_rfl) (by kernel_rfl) (fun _ _ _ h => h) (by rfl) ?y21 ?r21
  case y21 => ((intro w9' hm9'; have hc9' := Mod.cell hm9' U2.out (by first | exact List.not_mem_nil | (simp; done) | (simp; omega)); clear hm9'; go_simp; with_reducible rfl))
  try simp only [Act.put, List.setIfInBounds_toArray, List.set_cons_zero, List.set_cons_succ]
  refine rest_got (i := 21) (v := ?v22) rfl (by kernel_rfl) (by kernel_rfl) (by kernel_rfl) (fun _ _ _ h => h) (by rfl) ?y22 ?r22
  case y22 => ((intro w9' hm9'; refine Eq.trans (reads_str _ _ _ _ 5 Try.underlying22 Try.underlying5 Try.underlying9 _ _ _ _ rfl (by first | rfl | simp) S7.out (by first | (intro k _ hk; exact (List.not_mem_nil hk)) | simp) w9' hm9') ?_; with_reducible rfl))
  try simp only [Act.put, List.setIfInBounds_toArray, List.set_cons_zero, List.set_cons_succ]
  refine rest_got (i := 22) (v := ?v23) rfl (by kernel_rfl) (by kernel_rfl) (by kernel_rfl) (fun _ _ _ h => h) (by rfl) ?y23 ?r23
  case y23 => (intro w9q hSwq; clear hSwq; go_simp; with_reducible rfl)
  try simp only [Act.put, List.setIfInBounds_toArray, List.set_cons_zero, List.set_cons_succ]
  refine rest_got (i := 23) (v := ?v24) rfl (by kernel_rfl) (by kernel_rfl) (by kernel_rfl) (fun _ _ _ h => h) (by rfl) ?y24 ?r24
  case y24 => ((intro w9' hm9'; have hc9' := Mod.cell hm9' V2.out (by first | exact List.not_mem_nil | (simp; done) | (simp; omega)); clear hm9'; go_simp; with_reducible rfl))
  try simp only [Act.put, List.setIfInBounds_toArray, List.set_cons_zero, List.set_cons_succ]
  refine rest_got (i := 24) (v := ?v25) rfl (by kernel_rfl) (by kernel_rfl) (by kernel_rfl) (fun _ _ _ h => h) (by rfl) ?y25 ?r25
  case y25 => ((intro w9' hm9'; refine Eq.trans (reads_eqs w9' _ _ _ _ _ rfl rfl) ?_; refine Eq.trans (congrArg (fun b => Result.ok (Next.value (Value.bool b)) w9') (decide_eq_true rfl)) ?_; with_reducible rfl))
  try simp only [Act.put, List.setIfInBounds_toArray, List.set_cons_zero, List.set_cons_succ]
  refine rest_got (i := 25) (v := ?v26) rfl (by kernel_rfl) (by kernel_rfl) (by kernel_rfl) (fun _ _ _ h => h) (by rfl) ?y26 ?r26
  case y26 => (intro w9q hSwq; clear hSwq; go_simp; with_reducible rfl)
  try simp only [Act.put, List.setIfInBounds_toArray, List.set_cons_zero, List.set_cons_succ]
  refine rest_got (i := 26) (v := ?v27) rfl (by kernel_rfl) (by kernel_rfl) (by kernel_rfl) (fun _ _ _ h => h) (by rfl) ?y27 ?r27
  case y27 => (intro w9q hSwq; clear hSwq; go_simp; with_reducible rfl)
  try simp only [Act.put, List.setIfInBounds_toArray, List.set_cons_zero, List.set_cons_succ]
  refine rest_got (i := 27) (v := ?v28) rfl (by kernel_rfl) (by kernel_rfl) (by kernel_rfl) (fun _ _ _ h => h) (by rfl) ?y28 ?r28
  case y28 => (intro w9q hSwq; clear hSwq; go_simp; with_reducible rfl)
  try simp only [Act.put, List.setIfInBounds_toArray, List.set_cons_zero, List.set_cons_succ]
  refine rest_done (by kernel_rfl) ?_ _
  go_wp2
  ((try simp only [Exit.inBlock, Exit.then]); refine bodyPost_ret (by simp [results, Try.results16, go_sem, *]; try rfl) rfl ?_)
  exact ⟨a', c', L', F', rfl, HN7.out, O7.out, KEEP.out.1, KEEP.out.2.1, M7.out, F4.out, fun j hj hj2 => (FA.out j hj).elim (fun h => (F4.out j hj2).elim (HD.out j h) (fun h2 => by have := HLO.out j h; omega)) (fun h => by have := HL4.out j hj2; omega), fun j hj => (FA.out j hj).imp id (fun h => by have := hw4.out; omega)⟩
end Go.Proofs.Ytihhbphlhckakaa
