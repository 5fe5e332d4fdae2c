/- The walk of quorateref17.Take. -/
import Derived.Test.YtekdnljincbghaaDoorHMsgQ2
import Derived.Test.YtekdnljincbghaaDoorHMsgR2
import Derived.Test.YtekdnljincbghaaDoorZ4
namespace Go.Proofs.YtekdnljincbghaaDoor
open Go Go.RowKit Go.Lib

theorem RS.ball_le (s : RS) : s.ball.2.l.length ≤ s.l.length := by
  have h1 := s.num_le
  have h2 := s.num.2.num_le
  unfold RS.ball
  split
  · dsimp only; omega
  · dsimp only; omega
theorem RS.text_le (s : RS) : s.text.2.l.length ≤ s.l.length := by
  have h1 := s.num_le
  unfold RS.text
  split
  · dsimp only; rw [List.length_drop]; omega
  · dsimp only; omega
theorem RS.text_used (s : RS) (h : s.text.2.ok = true) : s.text.2.l.length + 1 ≤ s.l.length := by
  obtain ⟨_, e⟩ := qtext_reads.at' s h
  have h2 := congrArg List.length e
  have h3 := (enc7_length s.text.1.length).1
  unfold txL at h2
  simp only [List.length_append] at h2
  omega
theorem RS.vote_used (s : RS) (h : s.vote.2.ok = true) : s.vote.2.l.length + 1 ≤ s.l.length := by
  obtain ⟨_, e⟩ := qvote_reads.at' s h
  have h2 := congrArg List.length e
  have h3 := (enc7_length s.vote.1.1.slot).1
  unfold voteB at h2
  simp only [List.length_append] at h2
  omega
/-- What the reference's Take tells. -/
def TakeW (w : World) (l : List UInt8) (e : Ending) (w' : World) : Prop :=
  ∃ m, e = .returned (.tuple #[refV m, .int .i64 (takeQ l).1]) ∧ m.d = (takeQ l).2 ∧ NewM w.heap.size w' m ∧ WfM m ∧ Mod [] w w'
theorem TakeW.no {w w' : World} {l : List UInt8} {n : Int} (m : Mod [] w w') (h : takeQ l = (n, (mz 0).d)) : TakeW w l (.returned (.tuple #[.agg #[.int .i64 0, .int .u64 0, .int .i64 0, .int .u64 0, .int .u64 0, .int .u64 0, .slice none 0 0, .slice none 0 0, .slice none 0 0], .int .i64 n])) w' :=
  ⟨mz 0, by rw [h]; rfl, by rw [h], NewM.mz _ _ _, wf_mz, m⟩
/-- All blocks of a message lie below. -/
structure MLt (m : Mm) (n : Nat) : Prop where
  vo : ∀ k, k ∈ blk m.vo → k < n
  ve : ∀ v ∈ m.votes, ∀ k, k ∈ blk v.2.2.1 → k < n
  so : ∀ k, k ∈ blk m.so → k < n
  be : ∀ b ∈ m.batches, ∀ k, k ∈ blk b.2.1 → k < n
  p : ∀ k, k ∈ blk m.p.2.1 → k < n
theorem NewM.mlt {B : Nat} {w : World} {m : Mm} (h : NewM B w m) : MLt m w.heap.size :=
  ⟨Own.lt h.votes.own, fun v hv => (h.votes.el v hv).lt, Own.lt h.batches.own, fun v hv => (h.batches.el v hv).lt, h.snap.lt⟩
theorem NewM.aside {B n : Nat} {S : List Nat} {w w' : World} {m : Mm} (h : NewM B w m) (l : MLt m n) (k : Mod S w w') (hS : ∀ i, i ∈ S → n ≤ i) : NewM B w' m :=
  ⟨⟨Own.mod h.votes.own k (fun i hi hs => by have := l.vo i hi; have := hS i hs; omega), h.votes.at', fun v hv => (h.votes.el v hv).mod k (fun i hi hs => by have := l.ve v hv i hi; have := hS i hs; omega)⟩,
   ⟨Own.mod h.batches.own k (fun i hi hs => by have := l.so i hi; have := hS i hs; omega), h.batches.at', fun v hv => (h.batches.el v hv).mod k (fun i hi hs => by have := l.be v hv i hi; have := hS i hs; omega)⟩,
   h.snap.mod k (fun i hi hs => by have := l.p i hi; have := hS i hs; omega)⟩
/-- While a message is read: the reader, the result's block, the message's. -/
structure RT (w : World) (g mb : Nat) (bs : List Nat) (kind : Nat) (m : Mm) (s : RS) (wr : World) : Prop where
  rd : RRd wr g bs s
  b0 : wr.heap[w.heap.size]? = some (.cells #[.int .i64 0, .int .u64 0, .int .i64 0, .int .u64 0, .int .u64 0, .int .u64 0, .slice none 0 0, .slice none 0 0, .slice none 0 0] 39 (0, 0))
  b1 : wr.heap[mb]? = some (.cells (mC (.int .i64 (kind : Int)) m) 39 (0, 0))
  nm : NewM (mb + 1) wr m
  mod : Mod [] w wr
  o : w.heap.size < g ∧ g < mb
section
variable {w wr w' : World} {g mb : Nat} {bs : List Nat} {kind : Nat} {m m' : Mm} {s s' : RS}
theorem RT.read (h : RT w g mb bs kind m s wr) (r : RRd w' g bs s') (k : Mod [g] wr w') : RT w g mb bs kind m s' w' :=
  ⟨r, k.get h.b0 (by have := h.o; simp; omega), k.get h.b1 (by have := h.o; simp; omega), h.nm.off k (fun i hi => by have := h.o; simp at hi; omega), h.mod.trans k (fun i hi hl => by have := h.o; simp at hi; omega), h.o⟩
theorem RT.still (h : RT w g mb bs kind m s wr) (k : Mod [] wr w') : RT w g mb bs kind m s w' :=
  ⟨h.rd.mod0 k, k.get h.b0 List.not_mem_nil, k.get h.b1 List.not_mem_nil, h.nm.mod0 k, h.mod.trans' k, h.o⟩
theorem RT.aside {n : Nat} {S : List Nat} (h : RT w g mb bs kind m s wr) (l : MLt m n) (k : Mod S wr w') (hS : ∀ i, i ∈ S → n ≤ i) (hn : mb < n) : RT w g mb bs kind m s w' := by
  have ho := h.o
  exact ⟨h.rd.off k (fun i hi => by have := hS i hi; omega), k.get h.b0 (fun hk => by have := hS _ hk; omega), k.get h.b1 (fun hk => by have := hS _ hk; omega), h.nm.aside l k hS, h.mod.trans k (fun i hi hl => by have := hS i hi; omega), h.o⟩
theorem RT.set (h : RT w g mb bs kind m s wr) (i : Nat) (v : Value) (he : (mC (.int .i64 (kind : Int)) m).setIfInBounds i v = mC (.int .i64 (kind : Int)) m') (hn : NewM (mb + 1) wr m') :
    RT w g mb bs kind m' s (wr.setCell ⟨mb, i, none⟩ v) := by
  have k : Mod [mb] wr (wr.setCell ⟨mb, i, none⟩ v) := Mod.setCell wr _ _ (by simp)
  have h1 := heap_setCell_same (i := i) h.b1 v
  rw [he] at h1
  have ho := h.o
  exact ⟨h.rd.off k (by simp; omega), k.get h.b0 (by simp; omega), h1, hn.off k (by simp), h.mod.trans k (by simp; omega), h.o⟩
theorem RT.appB {hd : Hd} {vo so so' : Option Addr} {vc sc sc' L : Nat} {vl : List Vm} {bl : List Bs} {p : Bs} {x : Bs} (h : RT w g mb bs kind ⟨hd, vo, vc, vl, so, sc, bl, p⟩ s wr) (nb : NewB (mb + 1) wr x) (o : OwnM bsV w' 27 so' sc' (bl ++ [x])) (m : Mod (blk so) wr w') (n : SameOrNew wr w' so so') (hl : (bl ++ [x]).length = L) :
    RT w g mb bs kind ⟨hd, vo, vc, vl, so', sc', bl ++ [x], p⟩ s (w'.setCell ⟨mb, 7, none⟩ (.slice so' L sc')) := by
  subst hl
  have hz := lt_of_block h.b1
  have ho := h.o
  have hb : ∀ k, k ∈ blk so → mb + 1 ≤ k := h.nm.batches.at'
  have k : Mod [mb] w' (w'.setCell ⟨mb, 7, none⟩ (.slice so' (bl ++ [x]).length sc')) := Mod.setCell w' _ _ (by simp)
  have hs := heap_setCell_same (i := 7) (m.get h.b1 (fun hk => by have := hb _ hk; omega)) (.slice so' (bl ++ [x]).length sc')
  have hbb : NewBs (mb + 1) w' so' sc' (bl ++ [x]) := h.nm.batches.app nb o m n (by omega)
  have hvv : NewVs (mb + 1) w' vo vc vl := ⟨Own.mod h.nm.votes.own m (own_apart h.nm.votes.own h.nm.batches.own (by decide)), h.nm.votes.at', fun v hv => (h.nm.votes.el v hv).mod m (own_apart (h.nm.votes.el v hv).1 h.nm.batches.own (by decide))⟩
  have hpp : NewB (mb + 1) w' p := h.nm.snap.mod m (own_apart h.nm.snap.1 h.nm.batches.own (by decide))
  exact ⟨(h.rd.off m (fun i hi => by have := hb i hi; omega)).off k (by simp; omega), k.get (m.get h.b0 (fun hk => by have := hb _ hk; omega)) (by simp; omega), hs, ⟨hvv.off k (by simp), hbb.off k (by simp), hpp.off k (by simp)⟩, (h.mod.trans m (fun i hi hl => by have := hb i hi; omega)).trans k (by simp; omega), h.o⟩
theorem RT.appV {hd : Hd} {vo so so' : Option Addr} {vc sc sc' L : Nat} {vl : List Vm} {bl : List Bs} {p : Bs} {x : Vm} (h : RT w g mb bs kind ⟨hd, vo, vc, vl, so, sc, bl, p⟩ s wr) (nb : NewB (mb + 1) wr x.2) (o : OwnV w' so' sc' (vl ++ [x])) (m : Mod (blk vo) wr w') (n : SameOrNew wr w' vo so') (hl : (vl ++ [x]).length = L) :
    RT w g mb bs kind ⟨hd, so', sc', vl ++ [x], so, sc, bl, p⟩ s (w'.setCell ⟨mb, 6, none⟩ (.slice so' L sc')) := by
  subst hl
  have hz := lt_of_block h.b1
  have ho := h.o
  have hb : ∀ k, k ∈ blk vo → mb + 1 ≤ k := h.nm.votes.at'
  have k : Mod [mb] w' (w'.setCell ⟨mb, 6, none⟩ (.slice so' (vl ++ [x]).length sc')) := Mod.setCell w' _ _ (by simp)
  have hs := heap_setCell_same (i := 6) (m.get h.b1 (fun hk => by have := hb _ hk; omega)) (.slice so' (vl ++ [x]).length sc')
  have hbb : NewBs (mb + 1) w' so sc bl := ⟨Own.mod h.nm.batches.own m (own_apart h.nm.batches.own h.nm.votes.own (by decide)), h.nm.batches.at', fun v hv => (h.nm.batches.el v hv).mod m (own_apart (h.nm.batches.el v hv).1 h.nm.votes.own (by decide))⟩
  have hvv : NewVs (mb + 1) w' so' sc' (vl ++ [x]) := h.nm.votes.app nb o m n (by omega)
  have hpp : NewB (mb + 1) w' p := h.nm.snap.mod m (own_apart h.nm.snap.1 h.nm.votes.own (by decide))
  exact ⟨(h.rd.off m (fun i hi => by have := hb i hi; omega)).off k (by simp; omega), k.get (m.get h.b0 (fun hk => by have := hb _ hk; omega)) (by simp; omega), hs, ⟨hvv.off k (by simp), hbb.off k (by simp), hpp.off k (by simp)⟩, (h.mod.trans m (fun i hi hl => by have := hb i hi; omega)).trans k (by simp; omega), h.o⟩
end

set_option maxRecDepth 100000 in
set_option maxHeartbeats 16000000 in
theorem rtake_any (ao : Option Addr) (len cap : Nat) (l : List UInt8) (w : World) (hl : l.length = len) (hlc : len ≤ cap) (hc : cap ≤ 9223372036854775807) (hs : Sees w ao l) (hb : len ≤ 5000) :
    Calls Tryd.prog 21 #[.slice ao len cap] w (TakeW w l) := by
  obtain ⟨w1, hw1, A1, m1⟩ : ∃ x, w.alloc (.cells #[.int .i64 0, .int .u64 0, .int .i64 0, .int .u64 0, .int .u64 0, .int .u64 0, .slice none 0 0, .slice none 0 0, .slice none 0 0] 39) = x ∧ x.heap[w.heap.size]? = some (.cells #[.int .i64 0, .int .u64 0, .int .i64 0, .int .u64 0, .int .u64 0, .int .u64 0, .slice none 0 0, .slice none 0 0, .slice none 0 0] 39 (0, 0)) ∧ Mod [] w x := ⟨_, rfl, heap_alloc_new w _, Mod.alloc _ _ _⟩
  subst hl
  have M1 := Lib.hid m1
  have HA1 := Lib.hid A1
  by_cases h5 : l.length < 5
  case pos =>
    have D : decide ((l.length : Int) < 5) = true := decide_eq_true (by omega)
    have HR : Hid (takeQ l = (10, (mz 0).d)) := Lib.hid (if_pos (by omega))
    clear hs m1 A1
    go_enter Tryd.func21, Tryd.ntmps21
    have z0 := cell_of_block (i := 0) HA1.out
    have y0 := free_of_block (i := 0) HA1.out
    have z1 := cell_of_block (i := 1) HA1.out
    have y1 := free_of_block (i := 1) HA1.out
    have z2 := cell_of_block (i := 2) HA1.out
    have y2 := free_of_block (i := 2) HA1.out
    have z3 := cell_of_block (i := 3) HA1.out
    have y3 := free_of_block (i := 3) HA1.out
    have z4 := cell_of_block (i := 4) HA1.out
    have y4 := free_of_block (i := 4) HA1.out
    have z5 := cell_of_block (i := 5) HA1.out
    have y5 := free_of_block (i := 5) HA1.out
    have z6 := cell_of_block (i := 6) HA1.out
    have y6 := free_of_block (i := 6) HA1.out
    have z7 := cell_of_block (i := 7) HA1.out
    have y7 := free_of_block (i := 7) HA1.out
    have z8 := cell_of_block (i := 8) HA1.out
    have y8 := free_of_block (i := 8) HA1.out
    simp only [List.getElem?_toArray, List.getElem?_cons_succ, List.getElem?_cons_zero] at z0 z1 z2 z3 z4 z5 z6 z7 z8
    go_wp2_with fail
    ((try simp only [Exit.inBlock, Exit.then]); refine bodyPost_ret (by simp [results, Tryd.results21, go_sem, *]; try rfl) rfl ?_)
    exact TakeW.no (M1.out.trans (T := [w.heap.size]) (((((((((Mod.setCell _ _ _ (by simp)).trans' (Mod.setCell _ _ _ (by simp))).trans' (Mod.setCell _ _ _ (by simp))).trans' (Mod.setCell _ _ _ (by simp))).trans' (Mod.setCell _ _ _ (by simp))).trans' (Mod.setCell _ _ _ (by simp))).trans' (Mod.setCell _ _ _ (by simp))).trans' (Mod.setCell _ _ _ (by simp))).trans' (Mod.setCell _ _ _ (by simp))) (by simp)) HR.out
  case neg =>
  obtain ⟨b, off, rfl, -⟩ := hs 0 (by omega)
  have hs4 : Sees w (some ⟨b, off + 4, none⟩) (l.drop 4) := hs.drop 4
  have D : decide ((l.length : Int) < 5) = false := decide_eq_false (by omega)
  have hdl : (l.drop 4).length = l.length - 4 := List.length_drop
  obtain ⟨q, hq⟩ : ∃ q, decide (sum4 (l.drop 4) ++ l.drop 4 = l) = q := ⟨_, rfl⟩
  have HTR : Hid (takeQ l = if q = true then insQ (l.drop 4) else (12, (mz 0).d)) := Lib.hid (by
    unfold takeQ
    rw [if_neg (by omega)]
    have hiff : sum4 (l.drop 4) = l.take 4 ↔ q = true := by
      rw [← hq, decide_eq_true_iff]
      constructor
      · intro h
        rw [h, List.take_append_drop]
      · intro h
        have h2 := congrArg (List.take 4) h
        have h3 : List.take 4 (sum4 (l.drop 4) ++ l.drop 4) = sum4 (l.drop 4) := List.take_left' rfl
        rwa [h3] at h2
    by_cases h : sum4 (l.drop 4) = l.take 4
    · rw [if_pos h, if_pos (hiff.1 h)]
    · rw [if_neg h, if_neg (fun h2 => h (hiff.2 h2))])
  have HQ := Lib.hid hq
  have HS := Lib.hid hs
  have HS4 := Lib.hid hs4
  have HDL := Lib.hid hdl
  have HBL := Lib.hid (hs.lt (by intro h; rw [h] at h5; simp at h5) b (by simp [blk]))
  clear hs m1 A1 hs4 hq hdl
  go_enter Tryd.func21, Tryd.ntmps21
  go_upto_region 3 with (fail)
  have HI4 : Hid ((4 : Int) ≤ (l.length : Int)) := Lib.hid (by omega)
  have HI5 : Hid ((4 : Int) ≤ (cap : Int)) := Lib.hid (by omega)
  have HC4 : Hid (¬ cap = 4) := Lib.hid (by omega)
  have hn4 : 4 + (l.length - 4) ≤ 140737488355328 := by omega
  clear hw1
  refine rest_start [] 7 #[false, false, false, false, false, false, false] rfl (by kernel_rfl) (by kernel_rfl) ?_
  intro w3 m3
  have M3 := Lib.hid (M1.out.trans' m3)
  have HA3 := Lib.hid (m3.get HA1.out List.not_mem_nil)
  have SA3 := Lib.hid (HS.out.mod0 (M1.out.trans' m3))
  clear m3 M1 HA1
  refine rest_got (i := 0) (v := ?v1) rfl (by kernel_rfl) (by kernel_rfl) (by kernel_rfl) (fun _ _ _ h => h) (by rfl) ?y1 ?r1
  case y1 => (intro w9q hSwq; clear hSwq; go_simp; with_reducible rfl)
  try simp only [Act.put, List.setIfInBounds_toArray, List.set_cons_zero, List.set_cons_succ]
  refine rest_got (i := 1) (v := ?v2) rfl (by kernel_rfl) (by kernel_rfl) (by kernel_rfl) (fun _ _ _ h => h) (by rfl) ?y2 ?r2
  case y2 => ((intro w9' hm9'; clear hm9'; go_simp; (first | rw [if_pos HI4.out, if_neg HC4.out] | rw [if_pos HI5.out])))
  try simp only [Act.put, List.setIfInBounds_toArray, List.set_cons_zero, List.set_cons_succ]
  refine rest_got (i := 4) (v := ?v3) rfl (by kernel_rfl) (by kernel_rfl) (by kernel_rfl) (fun _ _ _ h => h) (by rfl) ?y3 ?r3
  case y3 => (intro w9q hSwq; clear hSwq; go_simp; with_reducible rfl)
  try simp only [Act.put, List.setIfInBounds_toArray, List.set_cons_zero, List.set_cons_succ]
  refine rest_got (i := 5) (v := ?v4) rfl (by kernel_rfl) (by kernel_rfl) (by kernel_rfl) (fun _ _ _ h => h) (by rfl) ?y4 ?r4
  case y4 => ((intro w9' hm9'; refine Eq.trans (reads_str _ _ _ _ 5 Tryd.underlying27 Tryd.underlying5 Tryd.underlying9 _ _ _ _ rfl (by first | rfl | simp) SA3.out (by first | (intro k _ hk; exact (List.not_mem_nil hk)) | simp) w9' hm9') ?_; with_reducible rfl))
  try simp only [Act.put, List.setIfInBounds_toArray, List.set_cons_zero, List.set_cons_succ]
  refine rest_one (i := 2) (by kernel_rfl) rfl (by rfl) ?_
  have HX := Lib.hid (rsummed_any (some ⟨b, off + 4, none⟩) (l.length - 4) (cap - 4) (l.drop 4) w3 HDL.out (HS4.out.mod0 M3.out) (by omega))
  go_wp2_with fail
  refine HX.out.mono ?_
  rintro e w4 ⟨a4, n4, c4, rfl, k4, o4, m4, -⟩
  subst k4
  go_wp2_with fail
  refine back_to (K1 := []) m4 (by simp) ?_
  have M4 := Lib.hid (M3.out.trans' m4)
  have HA4 := Lib.hid (m4.get HA3.out List.not_mem_nil)
  have SY := Lib.hid o4.sees
  clear m4 HX M3 HA3 SA3 o4
  refine rest_got (i := 3) (v := ?v5) rfl (by kernel_rfl) (by kernel_rfl) (by kernel_rfl) (fun _ _ _ h => h) (by rfl) ?y5 ?r5
  case y5 => ((intro w9' hm9'; refine Eq.trans (reads_str _ _ _ _ 5 Tryd.underlying27 Tryd.underlying5 Tryd.underlying9 _ _ _ _ rfl (by first | rfl | simp) SY.out (by first | (intro k _ hk; exact (List.not_mem_nil hk)) | simp) w9' hm9') ?_; with_reducible rfl))
  try simp only [Act.put, List.setIfInBounds_toArray, List.set_cons_zero, List.set_cons_succ]
  refine rest_got (i := 6) (v := ?v6) rfl (by kernel_rfl) (by kernel_rfl) (by kernel_rfl) (fun _ _ _ h => h) (by rfl) ?y6 ?r6
  case y6 => ((intro w9' hm9'; refine Eq.trans (reads_nes w9' _ _ _ _ _ rfl rfl) ?_; refine Eq.trans (congrArg (fun b => Result.ok (Next.value (Value.bool (!b))) w9') HQ.out) ?_; with_reducible rfl))
  try simp only [Act.put, List.setIfInBounds_toArray, List.set_cons_zero, List.set_cons_succ]
  refine rest_done (by kernel_rfl) ?_ _
  clear SY
  cases q
  case false =>
    have HR : Hid (takeQ l = (12, (mz 0).d)) := Lib.hid (by rw [HTR.out, if_neg (by decide)])
    clear HQ HTR
    have z0 := cell_of_block (i := 0) HA4.out
    have y0 := free_of_block (i := 0) HA4.out
    have z1 := cell_of_block (i := 1) HA4.out
    have y1 := free_of_block (i := 1) HA4.out
    have z2 := cell_of_block (i := 2) HA4.out
    have y2 := free_of_block (i := 2) HA4.out
    have z3 := cell_of_block (i := 3) HA4.out
    have y3 := free_of_block (i := 3) HA4.out
    have z4 := cell_of_block (i := 4) HA4.out
    have y4 := free_of_block (i := 4) HA4.out
    have z5 := cell_of_block (i := 5) HA4.out
    have y5 := free_of_block (i := 5) HA4.out
    have z6 := cell_of_block (i := 6) HA4.out
    have y6 := free_of_block (i := 6) HA4.out
    have z7 := cell_of_block (i := 7) HA4.out
    have y7 := free_of_block (i := 7) HA4.out
    have z8 := cell_of_block (i := 8) HA4.out
    have y8 := free_of_block (i := 8) HA4.out
    simp only [List.getElem?_toArray, List.getElem?_cons_succ, List.getElem?_cons_zero] at z0 z1 z2 z3 z4 z5 z6 z7 z8
    go_wp2_with fail
    ((try simp only [Exit.inBlock, Exit.then]); refine bodyPost_ret (by simp [results, Tryd.results21, go_sem, *]; try rfl) rfl ?_)
    exact TakeW.no (M4.out.trans (T := [w.heap.size]) (((((((((Mod.setCell _ _ _ (by simp)).trans' (Mod.setCell _ _ _ (by simp))).trans' (Mod.setCell _ _ _ (by simp))).trans' (Mod.setCell _ _ _ (by simp))).trans' (Mod.setCell _ _ _ (by simp))).trans' (Mod.setCell _ _ _ (by simp))).trans' (Mod.setCell _ _ _ (by simp))).trans' (Mod.setCell _ _ _ (by simp))).trans' (Mod.setCell _ _ _ (by simp))) (by simp)) HR.out
  case true =>
  have HIN0 : Hid (takeQ l = insQ (l.drop 4)) := Lib.hid (by rw [HTR.out, if_pos rfl])
  clear HQ HTR
  have hg4 : w.heap.size < w4.heap.size := lt_of_block HA4.out
  obtain ⟨g, hg⟩ : ∃ x, w4.heap.size = x := ⟨_, rfl⟩
  obtain ⟨w5, hw5, hb5, m5⟩ : ∃ x, w4.alloc (.cells #[.slice (some ⟨b, off + 4, none⟩) (l.length - 4) (cap - 4), .bool true] 80) = x ∧ x.heap[g]? = some (.cells #[.slice (some ⟨b, off + 4, none⟩) (l.length - 4) (cap - 4), .bool true] 80 (0, 0)) ∧ Mod [] w4 x := ⟨_, rfl, by rw [← hg]; exact heap_alloc_new w4 _, Mod.alloc _ _ _⟩
  rw [hg] at hg4
  have R5 : Hid (RRd w5 g [b] ⟨l.drop 4, true⟩) := Lib.hid ⟨fun k hk => by simp at hk; have := HBL.out; omega, some ⟨b, off + 4, none⟩, cap - 4, by rw [HDL.out]; exact hb5, by rw [HDL.out]; omega, by omega, (HS4.out.mod0 (M4.out.trans' m5)), fun _ k hk => by simpa [blk] using hk⟩
  have M5 := Lib.hid (M4.out.trans' m5)
  have HA5 := Lib.hid (m5.get HA4.out List.not_mem_nil)
  have hz5 : g < w5.heap.size := lt_of_block hb5
  have HU := Lib.hid (rnum_any g [b] ⟨l.drop 4, true⟩ w5 R5.out)
  have hkl := RS.num_lt ⟨l.drop 4, true⟩
  have hkl2 : (RS.num ⟨l.drop 4, true⟩).2.l.length ≤ l.length - 4 := by have h := RS.num_le ⟨l.drop 4, true⟩; dsimp only at h; rwa [HDL.out] at h
  obtain ⟨⟨kind, s1⟩, hu⟩ : ∃ x, RS.num ⟨l.drop 4, true⟩ = x := ⟨_, rfl⟩
  have HIN : Hid (takeQ l = if 8 < kind then (11, (mz 0).d) else if (takeQF (Fl kind) ((mz kind).d, s1)).2.ok = true ∧ (takeQF (Fl kind) ((mz kind).d, s1)).2.l = [] ∧ MayM (takeQF (Fl kind) ((mz kind).d, s1)).1 then (0, (takeQF (Fl kind) ((mz kind).d, s1)).1) else (11, (mz 0).d)) := Lib.hid (by
    rw [HIN0.out]
    unfold insQ
    rw [hu])
  rw [hu] at HU hkl hkl2
  dsimp only at HU hkl hkl2
  have i4 := HI4.out
  have i5 := HI5.out
  have i6 := HC4.out
  have hs1b : s1.l.length ≤ 5000 := by omega
  have hw1i := hw5
  clear m5 hb5 hu HIN0 M4 HA4 R5 hw1i hkl2
  have hi4 : (4 : Int) ≤ (cap : Int) := i5
  go_wp2_with fail
  refine HU.out.mono ?_
  rintro e w6 ⟨rfl, r6, m6⟩
  have R6 := Lib.hid r6
  have M6 := Lib.hid (M5.out.trans m6 (by simp; omega))
  have HA6 := Lib.hid (m6.get HA5.out (by simp; omega))
  have hz6 := r6.lt
  clear m6 r6 HU M5 HA5 hw5 hz5 i4 i5 i6 hi4 HI4 HI5 HC4 hg hn4
  by_cases hk8 : 8 < kind
  case pos =>
    have D8 : decide ((8 : Int) < (kind : Int)) = true := decide_eq_true (by omega)
    have HR : Hid (takeQ l = (11, (mz 0).d)) := Lib.hid (by rw [HIN.out, if_pos hk8])
    clear HIN
    have z0 := cell_of_block (i := 0) HA6.out
    have y0 := free_of_block (i := 0) HA6.out
    have z1 := cell_of_block (i := 1) HA6.out
    have y1 := free_of_block (i := 1) HA6.out
    have z2 := cell_of_block (i := 2) HA6.out
    have y2 := free_of_block (i := 2) HA6.out
    have z3 := cell_of_block (i := 3) HA6.out
    have y3 := free_of_block (i := 3) HA6.out
    have z4 := cell_of_block (i := 4) HA6.out
    have y4 := free_of_block (i := 4) HA6.out
    have z5 := cell_of_block (i := 5) HA6.out
    have y5 := free_of_block (i := 5) HA6.out
    have z6 := cell_of_block (i := 6) HA6.out
    have y6 := free_of_block (i := 6) HA6.out
    have z7 := cell_of_block (i := 7) HA6.out
    have y7 := free_of_block (i := 7) HA6.out
    have z8 := cell_of_block (i := 8) HA6.out
    have y8 := free_of_block (i := 8) HA6.out
    simp only [List.getElem?_toArray, List.getElem?_cons_succ, List.getElem?_cons_zero] at z0 z1 z2 z3 z4 z5 z6 z7 z8
    go_wp2_with fail
    ((try simp only [Exit.inBlock, Exit.then]); refine bodyPost_ret (by simp [results, Tryd.results21, go_sem, *]; try rfl) rfl ?_)
    exact TakeW.no (M6.out.trans (T := [w.heap.size]) (((((((((Mod.setCell _ _ _ (by simp)).trans' (Mod.setCell _ _ _ (by simp))).trans' (Mod.setCell _ _ _ (by simp))).trans' (Mod.setCell _ _ _ (by simp))).trans' (Mod.setCell _ _ _ (by simp))).trans' (Mod.setCell _ _ _ (by simp))).trans' (Mod.setCell _ _ _ (by simp))).trans' (Mod.setCell _ _ _ (by simp))).trans' (Mod.setCell _ _ _ (by simp))) (by simp)) HR.out
  have D8 : decide ((8 : Int) < (kind : Int)) = false := decide_eq_false (by omega)
  have HIN2 : Hid (takeQ l = if (takeQF (Fl kind) ((mz kind).d, s1)).2.ok = true ∧ (takeQF (Fl kind) ((mz kind).d, s1)).2.l = [] ∧ MayM (takeQF (Fl kind) ((mz kind).d, s1)).1 then (0, (takeQF (Fl kind) ((mz kind).d, s1)).1) else (11, (mz 0).d)) := Lib.hid (by rw [HIN.out, if_neg hk8])
  have e8 : IntKind.i64.wrap (kind : Int) = (kind : Int) := IntWalk.i64_in _ (by omega)
  have hFi := Fl_in kind (by omega)
  have hFn := Fl_len kind
  have HFK := Lib.hid (fields17_any kind)
  have HNUM : Hid (NumD (takeQF (Fl kind) ((mz kind).d, s1)).1) := Lib.hid (takeQF_num _ _ (mz_num kind (by omega)))
  clear HIN
  obtain ⟨wz, hwz, hbz, hmz⟩ : ∃ x, w6.alloc (.cells #[.int .i64 0, .int .u64 0, .int .i64 0, .int .u64 0, .int .u64 0, .int .u64 0, .slice none 0 0, .slice none 0 0, .slice none 0 0] 39) = x ∧ x.heap[w6.heap.size]? = some (.cells #[.int .i64 0, .int .u64 0, .int .i64 0, .int .u64 0, .int .u64 0, .int .u64 0, .slice none 0 0, .slice none 0 0, .slice none 0 0] 39 (0, 0)) ∧ Mod [] w6 x := ⟨_, rfl, heap_alloc_new w6 _, Mod.alloc _ _ _⟩
  have z0 := cell_of_block (i := 0) hbz
  have y0 := free_of_block (i := 0) hbz
  have z1 := cell_of_block (i := 1) hbz
  have y1 := free_of_block (i := 1) hbz
  have z2 := cell_of_block (i := 2) hbz
  have y2 := free_of_block (i := 2) hbz
  have z3 := cell_of_block (i := 3) hbz
  have y3 := free_of_block (i := 3) hbz
  have z4 := cell_of_block (i := 4) hbz
  have y4 := free_of_block (i := 4) hbz
  have z5 := cell_of_block (i := 5) hbz
  have y5 := free_of_block (i := 5) hbz
  have z6 := cell_of_block (i := 6) hbz
  have y6 := free_of_block (i := 6) hbz
  have z7 := cell_of_block (i := 7) hbz
  have y7 := free_of_block (i := 7) hbz
  have z8 := cell_of_block (i := 8) hbz
  have y8 := free_of_block (i := 8) hbz
  simp only [List.getElem?_toArray, List.getElem?_cons_succ, List.getElem?_cons_zero] at z0 z1 z2 z3 z4 z5 z6 z7 z8
  go_upto_region 10 with (fail)
  obtain ⟨w7, hw7⟩ : ∃ x, (((((((((wz.setCell ⟨w6.heap.size, 0, none⟩ (.int .i64 (kind : Int))).setCell ⟨w6.heap.size, 1, none⟩ (.int .u64 0)).setCell ⟨w6.heap.size, 2, none⟩ (.int .i64 0)).setCell ⟨w6.heap.size, 3, none⟩ (.int .u64 0)).setCell ⟨w6.heap.size, 4, none⟩ (.int .u64 0)).setCell ⟨w6.heap.size, 5, none⟩ (.int .u64 0)).setCell ⟨w6.heap.size, 6, none⟩ (.slice none 0 0)).setCell ⟨w6.heap.size, 7, none⟩ (.slice none 0 0)).setCell ⟨w6.heap.size, 8, none⟩ (.slice none 0 0)) = x := ⟨_, rfl⟩
  rw [hw7]
  have hb7 : w7.heap[w6.heap.size]? = some (.cells #[.int .i64 (kind : Int), .int .u64 0, .int .i64 0, .int .u64 0, .int .u64 0, .int .u64 0, .slice none 0 0, .slice none 0 0, .slice none 0 0] 39 (0, 0)) := by
    rw [← hw7]
    have h := (heap_setCell_same (i := 8) (heap_setCell_same (i := 7) (heap_setCell_same (i := 6) (heap_setCell_same (i := 5) (heap_setCell_same (i := 4) (heap_setCell_same (i := 3) (heap_setCell_same (i := 2) (heap_setCell_same (i := 1) (heap_setCell_same (i := 0) hbz (.int .i64 (kind : Int))) (.int .u64 0)) (.int .i64 0)) (.int .u64 0)) (.int .u64 0)) (.int .u64 0)) (.slice none 0 0)) (.slice none 0 0)) (.slice none 0 0))
    simp only [List.setIfInBounds_toArray, List.set_cons_zero, List.set_cons_succ] at h
    exact h
  have m7 : Mod [] w6 w7 := by
    rw [← hw7]
    exact hmz.trans (T := [w6.heap.size]) (((((((((Mod.setCell _ _ _ (by simp)).trans' (Mod.setCell _ _ _ (by simp))).trans' (Mod.setCell _ _ _ (by simp))).trans' (Mod.setCell _ _ _ (by simp))).trans' (Mod.setCell _ _ _ (by simp))).trans' (Mod.setCell _ _ _ (by simp))).trans' (Mod.setCell _ _ _ (by simp))).trans' (Mod.setCell _ _ _ (by simp))).trans' (Mod.setCell _ _ _ (by simp))) (by simp)
  clear z0 z1 z2 z3 z4 z5 z6 z7 z8 y0 y1 y2 y3 y4 y5 y6 y7 y8 hbz hmz hwz hw7
  obtain ⟨mb, hmb⟩ : ∃ x, w6.heap.size = x := ⟨_, rfl⟩
  rw [hmb] at hz6 hb7 ⊢
  have T7 : Hid (RT w g mb [b] kind (mz kind) s1 w7) := Lib.hid ⟨R6.out.mod0 m7, m7.get HA6.out List.not_mem_nil, hb7, NewM.mz _ _ _, M6.out.trans' m7, hg4, hz6⟩
  have c0 := cell_of_block (i := 0) hb7
  simp only [List.getElem?_toArray, List.getElem?_cons_zero] at c0
  have HF7 := Lib.hid (HFK.out w7)
  clear hb7 m7 R6 M6 HA6 HFK hmb D8
  obtain ⟨Fs, hFs⟩ : ∃ l, Fl kind = l := ⟨_, rfl⟩
  rw [hFs] at hFi hFn HIN2 HF7 HNUM
  clear hFs
  go_wp2_with fail
  refine HF7.out.mono ?_
  rintro e w8 ⟨rfl, he⟩
  subst he
  have hsz : (⟨Fs.toArray⟩ : ByteArray).size = Fs.length := by show Fs.toArray.size = _; simp
  clear HF7 c0
  go_wp2_with fail
  go_loopw [8] (fun s8 wr => ∃ (k : Nat) (m : Mm) (sk : RS), k ≤ Fs.length ∧ s8 = .int .i64 (k : Int) ∧ m.h.kind = kind ∧ takeQF (Fs.take k) ((mz kind).d, s1) = (m.d, sk) ∧ m.batches.length ≤ 5001 * k ∧ m.votes.length ≤ 5001 * k ∧ sk.l.length ≤ 5000 ∧ RT w g mb [b] kind m sk wr) (fun s8 _ => Fs.length - (intOf s8).toNat)
  case atStart => exact ⟨0, mz kind, s1, Nat.zero_le _, rfl, rfl, rfl, by simp [mz], by simp [mz], hs1b, T7.out⟩
  case round =>
    obtain ⟨k, m, sk, hk, rfl, hmk, htf, hbl, hvl, hskl, hT⟩ := hrel
    rename World => wr
    have T := Lib.hid hT
    have HTF := Lib.hid htf
    have HMK := Lib.hid hmk
    clear hT htf hmk T7
    by_cases hlt : k < Fs.length
    case neg =>
      have hke : k = Fs.length := by omega
      subst hke
      rw [List.take_length] at HTF
      have HIN3 : Hid (takeQ l = if sk.ok = true ∧ sk.l = [] ∧ MayM m.d then (0, m.d) else (11, (mz 0).d)) := Lib.hid (by rw [HIN2.out, HTF.out])
      have hnum : NumD m.d := by have := HNUM.out; rwa [HTF.out] at this
      have HWF := Lib.hid (T.out.nm.wf hnum)
      obtain ⟨⟨mkind, bn, br, first, last, commit⟩, vo, vc, votes, so, sc, batches, pl, po, pc⟩ := m
      dsimp only at HMK
      have HB1 := Lib.hid T.out.b1
      unfold mC at HB1
      dsimp only at HB1
      have HV : Hid (refV ⟨⟨mkind, bn, br, first, last, commit⟩, vo, vc, votes, so, sc, batches, pl, po, pc⟩ = .agg #[.int .i64 (kind : Int), .int .u64 (bn : Int), .int .i64 br, .int .u64 (first : Int), .int .u64 (last : Int), .int .u64 (commit : Int), .slice vo votes.length vc, .slice so batches.length sc, .slice po pl.length pc]) := Lib.hid (by rw [← HMK.out]; rfl)
      have HMAY := Lib.hid (rmay_any _ wr T.out.nm.sees HWF.out)
      obtain ⟨mm, hmm⟩ : ∃ x, (⟨⟨mkind, bn, br, first, last, commit⟩, vo, vc, votes, so, sc, batches, pl, po, pc⟩ : Mm) = x := ⟨_, rfl⟩
      rw [hmm] at T HV HMAY HIN3 HWF
      rw [HV.out] at HMAY
      obtain ⟨l2, ok⟩ := sk
      dsimp only at HIN3
      obtain ⟨a2, cap2, t0, t1, -⟩ := T.out.rd.open
      dsimp only at t0 t1
      clear hmm HTF HIN2 HNUM hnum HMK hbl hvl hskl
      cases ok
      case false =>
        have HR : Hid (takeQ l = (11, (mz 0).d)) := Lib.hid (by rw [HIN3.out, if_neg (by simp)])
        clear HIN3 HMAY
        have z0 := cell_of_block (i := 0) T.out.b0
        have y0 := free_of_block (i := 0) T.out.b0
        have z1 := cell_of_block (i := 1) T.out.b0
        have y1 := free_of_block (i := 1) T.out.b0
        have z2 := cell_of_block (i := 2) T.out.b0
        have y2 := free_of_block (i := 2) T.out.b0
        have z3 := cell_of_block (i := 3) T.out.b0
        have y3 := free_of_block (i := 3) T.out.b0
        have z4 := cell_of_block (i := 4) T.out.b0
        have y4 := free_of_block (i := 4) T.out.b0
        have z5 := cell_of_block (i := 5) T.out.b0
        have y5 := free_of_block (i := 5) T.out.b0
        have z6 := cell_of_block (i := 6) T.out.b0
        have y6 := free_of_block (i := 6) T.out.b0
        have z7 := cell_of_block (i := 7) T.out.b0
        have y7 := free_of_block (i := 7) T.out.b0
        have z8 := cell_of_block (i := 8) T.out.b0
        have y8 := free_of_block (i := 8) T.out.b0
        simp only [List.getElem?_toArray, List.getElem?_cons_succ, List.getElem?_cons_zero] at z0 z1 z2 z3 z4 z5 z6 z7 z8
        go_wp2_with fail
        ((try simp only [Exit.inBlock, Exit.then]); refine bodyPost_ret (by simp [results, Tryd.results21, go_sem, *]; try rfl) rfl ?_)
        exact TakeW.no (T.out.mod.trans (T := [w.heap.size]) (((((((((Mod.setCell _ _ _ (by simp)).trans' (Mod.setCell _ _ _ (by simp))).trans' (Mod.setCell _ _ _ (by simp))).trans' (Mod.setCell _ _ _ (by simp))).trans' (Mod.setCell _ _ _ (by simp))).trans' (Mod.setCell _ _ _ (by simp))).trans' (Mod.setCell _ _ _ (by simp))).trans' (Mod.setCell _ _ _ (by simp))).trans' (Mod.setCell _ _ _ (by simp))) (by simp)) HR.out
      cases l2 with
      | cons c2 r2 =>
        have HR : Hid (takeQ l = (11, (mz 0).d)) := Lib.hid (by rw [HIN3.out, if_neg (by simp)])
        obtain ⟨n2, hn2⟩ : ∃ x, (c2 :: r2).length = x := ⟨_, rfl⟩
        have hn0 : 0 < n2 := by rw [← hn2]; simp
        rw [hn2] at t0
        have D2 : decide (0 < n2) = true := decide_eq_true hn0
        clear HIN3 HMAY hn2
        have z0 := cell_of_block (i := 0) T.out.b0
        have y0 := free_of_block (i := 0) T.out.b0
        have z1 := cell_of_block (i := 1) T.out.b0
        have y1 := free_of_block (i := 1) T.out.b0
        have z2 := cell_of_block (i := 2) T.out.b0
        have y2 := free_of_block (i := 2) T.out.b0
        have z3 := cell_of_block (i := 3) T.out.b0
        have y3 := free_of_block (i := 3) T.out.b0
        have z4 := cell_of_block (i := 4) T.out.b0
        have y4 := free_of_block (i := 4) T.out.b0
        have z5 := cell_of_block (i := 5) T.out.b0
        have y5 := free_of_block (i := 5) T.out.b0
        have z6 := cell_of_block (i := 6) T.out.b0
        have y6 := free_of_block (i := 6) T.out.b0
        have z7 := cell_of_block (i := 7) T.out.b0
        have y7 := free_of_block (i := 7) T.out.b0
        have z8 := cell_of_block (i := 8) T.out.b0
        have y8 := free_of_block (i := 8) T.out.b0
        simp only [List.getElem?_toArray, List.getElem?_cons_succ, List.getElem?_cons_zero] at z0 z1 z2 z3 z4 z5 z6 z7 z8
        go_wp2_with fail
        ((try simp only [Exit.inBlock, Exit.then]); refine bodyPost_ret (by simp [results, Tryd.results21, go_sem, *]; try rfl) rfl ?_)
        exact TakeW.no (T.out.mod.trans (T := [w.heap.size]) (((((((((Mod.setCell _ _ _ (by simp)).trans' (Mod.setCell _ _ _ (by simp))).trans' (Mod.setCell _ _ _ (by simp))).trans' (Mod.setCell _ _ _ (by simp))).trans' (Mod.setCell _ _ _ (by simp))).trans' (Mod.setCell _ _ _ (by simp))).trans' (Mod.setCell _ _ _ (by simp))).trans' (Mod.setCell _ _ _ (by simp))).trans' (Mod.setCell _ _ _ (by simp))) (by simp)) HR.out
      | nil =>
        rw [List.length_nil] at t0
        have d0 := cell_of_block (i := 0) HB1.out
        have d1 := cell_of_block (i := 1) HB1.out
        have d2 := cell_of_block (i := 2) HB1.out
        have d3 := cell_of_block (i := 3) HB1.out
        have d4 := cell_of_block (i := 4) HB1.out
        have d5 := cell_of_block (i := 5) HB1.out
        have d6 := cell_of_block (i := 6) HB1.out
        have d7 := cell_of_block (i := 7) HB1.out
        have d8 := cell_of_block (i := 8) HB1.out
        simp only [List.getElem?_toArray, List.getElem?_cons_succ, List.getElem?_cons_zero] at d0 d1 d2 d3 d4 d5 d6 d7 d8
        obtain ⟨q, hq⟩ : ∃ q, decide (MayM mm.d) = q := ⟨_, rfl⟩
        rw [hq] at HMAY
        have HQ := Lib.hid hq
        clear hq
        go_wp2_with fail
        refine HMAY.out.mono ?_
        rintro e w9 ⟨rfl, m9⟩
        have T9 := Lib.hid (T.out.still m9)
        have HB9 := Lib.hid (m9.get HB1.out List.not_mem_nil)
        clear m9 HMAY T HB1 d0 d1 d2 d3 d4 d5 d6 d7 d8 t0 t1
        cases q
        case false =>
          have HR : Hid (takeQ l = (11, (mz 0).d)) := Lib.hid (by rw [HIN3.out, if_neg (fun h => of_decide_eq_false HQ.out h.2.2)])
          clear HIN3
          have z0 := cell_of_block (i := 0) T9.out.b0
          have y0 := free_of_block (i := 0) T9.out.b0
          have z1 := cell_of_block (i := 1) T9.out.b0
          have y1 := free_of_block (i := 1) T9.out.b0
          have z2 := cell_of_block (i := 2) T9.out.b0
          have y2 := free_of_block (i := 2) T9.out.b0
          have z3 := cell_of_block (i := 3) T9.out.b0
          have y3 := free_of_block (i := 3) T9.out.b0
          have z4 := cell_of_block (i := 4) T9.out.b0
          have y4 := free_of_block (i := 4) T9.out.b0
          have z5 := cell_of_block (i := 5) T9.out.b0
          have y5 := free_of_block (i := 5) T9.out.b0
          have z6 := cell_of_block (i := 6) T9.out.b0
          have y6 := free_of_block (i := 6) T9.out.b0
          have z7 := cell_of_block (i := 7) T9.out.b0
          have y7 := free_of_block (i := 7) T9.out.b0
          have z8 := cell_of_block (i := 8) T9.out.b0
          have y8 := free_of_block (i := 8) T9.out.b0
          simp only [List.getElem?_toArray, List.getElem?_cons_succ, List.getElem?_cons_zero] at z0 z1 z2 z3 z4 z5 z6 z7 z8
          go_wp2_with fail
          ((try simp only [Exit.inBlock, Exit.then]); refine bodyPost_ret (by simp [results, Tryd.results21, go_sem, *]; try rfl) rfl ?_)
          exact TakeW.no (T9.out.mod.trans (T := [w.heap.size]) (((((((((Mod.setCell _ _ _ (by simp)).trans' (Mod.setCell _ _ _ (by simp))).trans' (Mod.setCell _ _ _ (by simp))).trans' (Mod.setCell _ _ _ (by simp))).trans' (Mod.setCell _ _ _ (by simp))).trans' (Mod.setCell _ _ _ (by simp))).trans' (Mod.setCell _ _ _ (by simp))).trans' (Mod.setCell _ _ _ (by simp))).trans' (Mod.setCell _ _ _ (by simp))) (by simp)) HR.out
        have HR : Hid (takeQ l = (0, mm.d)) := Lib.hid (by rw [HIN3.out, if_pos ⟨by trivial, by trivial, of_decide_eq_true HQ.out⟩])
        clear HIN3
        have d0 := cell_of_block (i := 0) HB9.out
        have d1 := cell_of_block (i := 1) HB9.out
        have d2 := cell_of_block (i := 2) HB9.out
        have d3 := cell_of_block (i := 3) HB9.out
        have d4 := cell_of_block (i := 4) HB9.out
        have d5 := cell_of_block (i := 5) HB9.out
        have d6 := cell_of_block (i := 6) HB9.out
        have d7 := cell_of_block (i := 7) HB9.out
        have d8 := cell_of_block (i := 8) HB9.out
        simp only [List.getElem?_toArray, List.getElem?_cons_succ, List.getElem?_cons_zero] at d0 d1 d2 d3 d4 d5 d6 d7 d8
        have z0 := cell_of_block (i := 0) T9.out.b0
        have y0 := free_of_block (i := 0) T9.out.b0
        have z1 := cell_of_block (i := 1) T9.out.b0
        have y1 := free_of_block (i := 1) T9.out.b0
        have z2 := cell_of_block (i := 2) T9.out.b0
        have y2 := free_of_block (i := 2) T9.out.b0
        have z3 := cell_of_block (i := 3) T9.out.b0
        have y3 := free_of_block (i := 3) T9.out.b0
        have z4 := cell_of_block (i := 4) T9.out.b0
        have y4 := free_of_block (i := 4) T9.out.b0
        have z5 := cell_of_block (i := 5) T9.out.b0
        have y5 := free_of_block (i := 5) T9.out.b0
        have z6 := cell_of_block (i := 6) T9.out.b0
        have y6 := free_of_block (i := 6) T9.out.b0
        have z7 := cell_of_block (i := 7) T9.out.b0
        have y7 := free_of_block (i := 7) T9.out.b0
        have z8 := cell_of_block (i := 8) T9.out.b0
        have y8 := free_of_block (i := 8) T9.out.b0
        simp only [List.getElem?_toArray, List.getElem?_cons_succ, List.getElem?_cons_zero] at z0 z1 z2 z3 z4 z5 z6 z7 z8
        go_wp2_with fail
        ((try simp only [Exit.inBlock, Exit.then]); refine bodyPost_ret (by simp [results, Tryd.results21, go_sem, *]; try rfl) rfl ?_)
        refine ⟨mm, by rw [HR.out, HV.out], by rw [HR.out], ?_, HWF.out, ?_⟩
        · exact (T9.out.nm.off (by exact (((((((((Mod.setCell _ _ _ (by simp)).trans' (Mod.setCell _ _ _ (by simp))).trans' (Mod.setCell _ _ _ (by simp))).trans' (Mod.setCell _ _ _ (by simp))).trans' (Mod.setCell _ _ _ (by simp))).trans' (Mod.setCell _ _ _ (by simp))).trans' (Mod.setCell _ _ _ (by simp))).trans' (Mod.setCell _ _ _ (by simp))).trans' (Mod.setCell _ _ _ (by simp)))) (S := [w.heap.size]) (by have := T9.out.o; simp; omega)).grow (by have := T9.out.o; omega)
        · exact T9.out.mod.trans (T := [w.heap.size]) (((((((((Mod.setCell _ _ _ (by simp)).trans' (Mod.setCell _ _ _ (by simp))).trans' (Mod.setCell _ _ _ (by simp))).trans' (Mod.setCell _ _ _ (by simp))).trans' (Mod.setCell _ _ _ (by simp))).trans' (Mod.setCell _ _ _ (by simp))).trans' (Mod.setCell _ _ _ (by simp))).trans' (Mod.setCell _ _ _ (by simp))).trans' (Mod.setCell _ _ _ (by simp))) (by simp)
    have hlt2 : (k : Int) < (Fs.length : Int) := by omega
    have hs : k < (⟨Fs.toArray⟩ : ByteArray).size := by rw [hsz]; exact hlt
    have hbx : (⟨Fs.toArray⟩ : ByteArray)[k] = Fs[k] := rfl
    have hE := takeQF_take Fs k hlt ((mz kind).d, s1)
    rw [HTF.out] at hE
    have hci := hFi _ (List.getElem_mem hlt)
    obtain ⟨ch, hch⟩ : ∃ x, Fs[k] = x := ⟨_, rfl⟩
    rw [hch] at hE hci hbx
    clear hch HTF
    obtain ⟨⟨mkind, bn, br, first, last, commit⟩, vo, vc, votes, so, sc, batches, pl, po, pc⟩ := m
    dsimp only at HMK hbl hvl
    obtain ⟨mm, hmm⟩ : ∃ x, (⟨⟨mkind, bn, br, first, last, commit⟩, vo, vc, votes, so, sc, batches, pl, po, pc⟩ : Mm) = x := ⟨_, rfl⟩
    have HMM := Lib.hid hmm
    rw [hmm] at T hE
    clear hmm HIN2 HNUM
    rcases hci with rfl | rfl | rfl | rfl | rfl | rfl | rfl
    · have hb2 : (⟨Fs.toArray⟩ : ByteArray)[k] = 98 := hbx
      have HE : Hid (takeQF (Fs.take (k + 1)) ((mz kind).d, s1) = setQ 98 (mm.d, sk)) := Lib.hid hE
      clear hE hbx
      have HC := Lib.hid (rbl_any g [b] sk wr T.out.rd)
      have hle := sk.ball_le
      obtain ⟨⟨⟨n1, r1⟩, s3⟩, hs3⟩ : ∃ x, sk.ball = x := ⟨_, rfl⟩
      rw [hs3] at HC hle
      dsimp only at HC hle
      have HS := Lib.hid hs3
      clear hs3
      go_wp2_with fail
      refine HC.out.mono ?_
      rintro r' w3 ⟨rfl, k3, m3⟩
      have T3 := Lib.hid (T.out.read k3 m3)
      clear k3 m3 HC T
      rw [← HMM.out] at T3 HE
      have f1 := free_of_block (i := 1) T3.out.b1
      have c1 := cell_of_block (i := 1) T3.out.b1
      have f2 := free_of_block (i := 2) T3.out.b1
      have c2 := cell_of_block (i := 2) T3.out.b1
      unfold mC at c1 c2
      dsimp only at c1 c2
      simp only [List.getElem?_toArray, List.getElem?_cons_succ, List.getElem?_cons_zero] at c1 c2
      have T4 := Lib.hid (T3.out.set (m' := ⟨⟨mkind, n1, br, first, last, commit⟩, vo, vc, votes, so, sc, batches, pl, po, pc⟩) 1 (.int .u64 (n1 : Int)) rfl ⟨T3.out.nm.votes, T3.out.nm.batches, T3.out.nm.snap⟩)
      have T5 := Lib.hid (T4.out.set (m' := ⟨⟨mkind, n1, (r1 : Int), first, last, commit⟩, vo, vc, votes, so, sc, batches, pl, po, pc⟩) 2 (.int .i64 (r1 : Int)) rfl ⟨T4.out.nm.votes, T4.out.nm.batches, T4.out.nm.snap⟩)
      have HT9 : Hid (takeQF (Fs.take (k + 1)) ((mz kind).d, s1) = (Mm.d ⟨⟨mkind, n1, (r1 : Int), first, last, commit⟩, vo, vc, votes, so, sc, batches, pl, po, pc⟩, s3)) := Lib.hid (by rw [HE.out]; unfold setQ Mm.d; rw [if_pos rfl]; dsimp only; rw [HS.out])
      go_wp2_with fail
      go_roundw
      case rel => exact ⟨k + 1, ⟨⟨mkind, n1, (r1 : Int), first, last, commit⟩, vo, vc, votes, so, sc, batches, pl, po, pc⟩, s3, by omega, by go_num, HMK.out, HT9.out, by dsimp only; omega, by dsimp only; omega, by omega, T5.out⟩
      case measure => simp [intOf]; omega
    · have hb2 : (⟨Fs.toArray⟩ : ByteArray)[k] = 99 := hbx
      have HE : Hid (takeQF (Fs.take (k + 1)) ((mz kind).d, s1) = setQ 99 (mm.d, sk)) := Lib.hid hE
      clear hE hbx
      have HC := Lib.hid (rnum_any g [b] sk wr T.out.rd)
      have hle := sk.num_le
      obtain ⟨⟨n1, s3⟩, hs3⟩ : ∃ x, sk.num = x := ⟨_, rfl⟩
      rw [hs3] at HC hle
      dsimp only at HC hle
      have HS := Lib.hid hs3
      clear hs3
      go_wp2_with fail
      refine HC.out.mono ?_
      rintro r' w3 ⟨rfl, k3, m3⟩
      have T3 := Lib.hid (T.out.read k3 m3)
      clear k3 m3 HC T
      rw [← HMM.out] at T3 HE
      have f5 := free_of_block (i := 5) T3.out.b1
      have c5 := cell_of_block (i := 5) T3.out.b1
      unfold mC at c5
      dsimp only at c5
      simp only [List.getElem?_toArray, List.getElem?_cons_succ, List.getElem?_cons_zero] at c5
      have T4 := Lib.hid (T3.out.set (m' := ⟨⟨mkind, bn, br, first, last, n1⟩, vo, vc, votes, so, sc, batches, pl, po, pc⟩) 5 (.int .u64 (n1 : Int)) rfl ⟨T3.out.nm.votes, T3.out.nm.batches, T3.out.nm.snap⟩)
      have HT9 : Hid (takeQF (Fs.take (k + 1)) ((mz kind).d, s1) = (Mm.d ⟨⟨mkind, bn, br, first, last, n1⟩, vo, vc, votes, so, sc, batches, pl, po, pc⟩, s3)) := Lib.hid (by rw [HE.out]; unfold setQ Mm.d; rw [if_neg (by decide)]; rw [if_pos rfl]; dsimp only; rw [HS.out])
      go_wp2_with fail
      go_roundw
      case rel => exact ⟨k + 1, ⟨⟨mkind, bn, br, first, last, n1⟩, vo, vc, votes, so, sc, batches, pl, po, pc⟩, s3, by omega, by go_num, HMK.out, HT9.out, by dsimp only; omega, by dsimp only; omega, by omega, T4.out⟩
      case measure => simp [intOf]; omega
    · have hb2 : (⟨Fs.toArray⟩ : ByteArray)[k] = 102 := hbx
      have HE : Hid (takeQF (Fs.take (k + 1)) ((mz kind).d, s1) = setQ 102 (mm.d, sk)) := Lib.hid hE
      clear hE hbx
      have HC := Lib.hid (rnum_any g [b] sk wr T.out.rd)
      have hle := sk.num_le
      obtain ⟨⟨n1, s3⟩, hs3⟩ : ∃ x, sk.num = x := ⟨_, rfl⟩
      rw [hs3] at HC hle
      dsimp only at HC hle
      have HS := Lib.hid hs3
      clear hs3
      go_wp2_with fail
      refine HC.out.mono ?_
      rintro r' w3 ⟨rfl, k3, m3⟩
      have T3 := Lib.hid (T.out.read k3 m3)
      clear k3 m3 HC T
      rw [← HMM.out] at T3 HE
      have f3 := free_of_block (i := 3) T3.out.b1
      have c3 := cell_of_block (i := 3) T3.out.b1
      unfold mC at c3
      dsimp only at c3
      simp only [List.getElem?_toArray, List.getElem?_cons_succ, List.getElem?_cons_zero] at c3
      have T4 := Lib.hid (T3.out.set (m' := ⟨⟨mkind, bn, br, n1, last, commit⟩, vo, vc, votes, so, sc, batches, pl, po, pc⟩) 3 (.int .u64 (n1 : Int)) rfl ⟨T3.out.nm.votes, T3.out.nm.batches, T3.out.nm.snap⟩)
      have HT9 : Hid (takeQF (Fs.take (k + 1)) ((mz kind).d, s1) = (Mm.d ⟨⟨mkind, bn, br, n1, last, commit⟩, vo, vc, votes, so, sc, batches, pl, po, pc⟩, s3)) := Lib.hid (by rw [HE.out]; unfold setQ Mm.d; rw [if_neg (by decide)]; rw [if_neg (by decide)]; rw [if_pos rfl]; dsimp only; rw [HS.out])
      go_wp2_with fail
      go_roundw
      case rel => exact ⟨k + 1, ⟨⟨mkind, bn, br, n1, last, commit⟩, vo, vc, votes, so, sc, batches, pl, po, pc⟩, s3, by omega, by go_num, HMK.out, HT9.out, by dsimp only; omega, by dsimp only; omega, by omega, T4.out⟩
      case measure => simp [intOf]; omega
    · have hb2 : (⟨Fs.toArray⟩ : ByteArray)[k] = 108 := hbx
      have HE : Hid (takeQF (Fs.take (k + 1)) ((mz kind).d, s1) = setQ 108 (mm.d, sk)) := Lib.hid hE
      clear hE hbx
      have HC := Lib.hid (rnum_any g [b] sk wr T.out.rd)
      have hle := sk.num_le
      obtain ⟨⟨n1, s3⟩, hs3⟩ : ∃ x, sk.num = x := ⟨_, rfl⟩
      rw [hs3] at HC hle
      dsimp only at HC hle
      have HS := Lib.hid hs3
      clear hs3
      go_wp2_with fail
      refine HC.out.mono ?_
      rintro r' w3 ⟨rfl, k3, m3⟩
      have T3 := Lib.hid (T.out.read k3 m3)
      clear k3 m3 HC T
      rw [← HMM.out] at T3 HE
      have f4 := free_of_block (i := 4) T3.out.b1
      have c4 := cell_of_block (i := 4) T3.out.b1
      unfold mC at c4
      dsimp only at c4
      simp only [List.getElem?_toArray, List.getElem?_cons_succ, List.getElem?_cons_zero] at c4
      have T4 := Lib.hid (T3.out.set (m' := ⟨⟨mkind, bn, br, first, n1, commit⟩, vo, vc, votes, so, sc, batches, pl, po, pc⟩) 4 (.int .u64 (n1 : Int)) rfl ⟨T3.out.nm.votes, T3.out.nm.batches, T3.out.nm.snap⟩)
      have HT9 : Hid (takeQF (Fs.take (k + 1)) ((mz kind).d, s1) = (Mm.d ⟨⟨mkind, bn, br, first, n1, commit⟩, vo, vc, votes, so, sc, batches, pl, po, pc⟩, s3)) := Lib.hid (by rw [HE.out]; unfold setQ Mm.d; rw [if_neg (by decide)]; rw [if_neg (by decide)]; rw [if_neg (by decide)]; rw [if_pos rfl]; dsimp only; rw [HS.out])
      go_wp2_with fail
      go_roundw
      case rel => exact ⟨k + 1, ⟨⟨mkind, bn, br, first, n1, commit⟩, vo, vc, votes, so, sc, batches, pl, po, pc⟩, s3, by omega, by go_num, HMK.out, HT9.out, by dsimp only; omega, by dsimp only; omega, by omega, T4.out⟩
      case measure => simp [intOf]; omega
    · have hb2 : (⟨Fs.toArray⟩ : ByteArray)[k] = 112 := hbx
      have HE : Hid (takeQF (Fs.take (k + 1)) ((mz kind).d, s1) = setQ 112 (mm.d, sk)) := Lib.hid hE
      clear hE hbx
      have HC := Lib.hid (rtx_any g [b] sk wr T.out.rd (by omega))
      have hle := sk.text_le
      obtain ⟨⟨tx, s3⟩, hs3⟩ : ∃ x, sk.text = x := ⟨_, rfl⟩
      rw [hs3] at HC hle
      dsimp only at HC hle
      have HS := Lib.hid hs3
      clear hs3
      go_wp2_with fail
      refine HC.out.mono ?_
      rintro r' w3 ⟨ao, cap3, rfl, nb3, k3, m3⟩
      have T3 := Lib.hid (T.out.read k3 m3)
      have NB3 := Lib.hid (nb3.grow (B' := mb + 1) (by have := lt_of_block T.out.b1; omega))
      clear nb3
      unfold bsV
      dsimp only
      clear k3 m3 HC T
      rw [← HMM.out] at T3 HE
      have f8 := free_of_block (i := 8) T3.out.b1
      have c8 := cell_of_block (i := 8) T3.out.b1
      unfold mC at c8
      dsimp only at c8
      simp only [List.getElem?_toArray, List.getElem?_cons_succ, List.getElem?_cons_zero] at c8
      have T4 := Lib.hid (T3.out.set (m' := ⟨⟨mkind, bn, br, first, last, commit⟩, vo, vc, votes, so, sc, batches, tx, ao, cap3⟩) 8 (.slice ao tx.length cap3) rfl ⟨T3.out.nm.votes, T3.out.nm.batches, NB3.out⟩)
      have HT9 : Hid (takeQF (Fs.take (k + 1)) ((mz kind).d, s1) = (Mm.d ⟨⟨mkind, bn, br, first, last, commit⟩, vo, vc, votes, so, sc, batches, tx, ao, cap3⟩, s3)) := Lib.hid (by rw [HE.out]; unfold setQ Mm.d; rw [if_neg (by decide)]; rw [if_neg (by decide)]; rw [if_neg (by decide)]; rw [if_neg (by decide)]; rw [if_pos rfl]; dsimp only; rw [HS.out])
      go_wp2_with fail
      go_roundw
      case rel => exact ⟨k + 1, ⟨⟨mkind, bn, br, first, last, commit⟩, vo, vc, votes, so, sc, batches, tx, ao, cap3⟩, s3, by omega, by go_num, HMK.out, HT9.out, by dsimp only; omega, by dsimp only; omega, by omega, T4.out⟩
      case measure => simp [intOf]; omega
    · have hb2 : (⟨Fs.toArray⟩ : ByteArray)[k] = 115 := hbx
      have HE0 : Hid (takeQF (Fs.take (k + 1)) ((mz kind).d, s1) = setQ 115 (mm.d, sk)) := Lib.hid hE
      clear hE hbx
      have HC := Lib.hid (rnum_any g [b] sk wr T.out.rd)
      have hle := sk.num_le
      have hn1 := sk.num_lt
      obtain ⟨⟨n1, s3⟩, hs3⟩ : ∃ x, sk.num = x := ⟨_, rfl⟩
      obtain ⟨⟨RL, RE⟩, hR⟩ : ∃ x, RS.rep RS.text n1 s3 = x := ⟨_, rfl⟩
      have HE : Hid (takeQF (Fs.take (k + 1)) ((mz kind).d, s1) = (⟨mm.d.h, mm.d.votes, mm.d.batches ++ RL, mm.d.snap⟩, RE)) := Lib.hid (by
        rw [HE0.out]
        unfold setQ
        rw [if_neg (by decide)]; rw [if_neg (by decide)]; rw [if_neg (by decide)]; rw [if_neg (by decide)]; rw [if_neg (by decide)]; rw [if_pos rfl]
        dsimp only
        unfold RS.rows
        rw [hs3]
        dsimp only
        rw [hR])
      have HR := Lib.hid hR
      rw [hs3] at HC hle hn1
      dsimp only at HC hle hn1
      clear hs3 hR HE0
      go_wp2_with fail
      refine HC.out.mono ?_
      rintro r' w3 ⟨rfl, k3, m3⟩
      have T3 := Lib.hid (T.out.read k3 m3)
      clear k3 m3 HC T
      rw [← HMM.out] at T3 HE
      have hk4 : k ≤ 3 := by omega
      go_wp2_with fail
      go_loopw [10] (fun s10 wq => ∃ (j : Nat) (so' : Option Addr) (sc' : Nat) (bl' : List Bs) (s' : RS), j ≤ n1 ∧ s10 = .int .u64 (j : Int) ∧ dB bl' ++ (RS.rep RS.text (n1 - j) s').1 = dB batches ++ RL ∧ (RS.rep RS.text (n1 - j) s').2 = RE ∧ (s'.ok = true → bl'.length + s'.l.length ≤ batches.length + 5000) ∧ bl'.length ≤ batches.length + 5001 ∧ s'.l.length ≤ 5000 ∧ RT w g mb [b] kind ⟨⟨mkind, bn, br, first, last, commit⟩, vo, vc, votes, so', sc', bl', pl, po, pc⟩ s' wq) (fun s10 _ => n1 - (intOf s10).toNat)
      case atStart => exact ⟨0, _, _, batches, s3, Nat.zero_le _, rfl, by rw [Nat.sub_zero, HR.out], by rw [Nat.sub_zero, HR.out], fun _ => by omega, by omega, by omega, T3.out⟩
      case round =>
        obtain ⟨j, so', sc', bl', s', hj, rfl, hr1, hr2, hq1, hq2, hq3, hT⟩ := hrel
        rename World => wq
        have T := Lib.hid hT
        have HR1 := Lib.hid hr1
        have HR2 := Lib.hid hr2
        obtain ⟨a2, cap2, t0, t1, -⟩ := T.out.rd.open
        clear hT hr1 hr2 T3 HR t0
        obtain ⟨okx, hokx⟩ : ∃ x, s'.ok = x := ⟨_, rfl⟩
        rw [hokx] at t1 hq1
        by_cases hjc : j < n1 ∧ okx = true
        case neg =>
          have hst : RS.rep RS.text (n1 - j) s' = ([], s') := by
            refine RS.rep_stop _ _ _ ?_
            by_cases h : j < n1
            · exact .inl (by rw [hokx]; simpa using fun h2 => hjc ⟨h, h2⟩)
            · exact .inr (by omega)
          have hd : dB bl' = dB batches ++ RL := by have := HR1.out; rw [hst] at this; simpa using this
          have he : s' = RE := by have := HR2.out; rw [hst] at this; exact this
          have HT9 : Hid (takeQF (Fs.take (k + 1)) ((mz kind).d, s1) = (Mm.d ⟨⟨mkind, bn, br, first, last, commit⟩, vo, vc, votes, so', sc', bl', pl, po, pc⟩, s')) := Lib.hid (by rw [HE.out, he]; unfold Mm.d; dsimp only; rw [hd])
          clear hd he hst HR1 HR2
          by_cases hjn : j < n1
          · have D1 : decide ((j : Int) < (n1 : Int)) = true := decide_eq_true (by omega)
            have D1' : decide (j < n1) = true := decide_eq_true hjn
            have hok0 : okx = false := by simpa using fun h2 => hjc ⟨hjn, h2⟩
            subst hok0
            have HOK := Lib.hid hokx
            clear hjc hokx
            go_wp2_with fail
            go_roundw
            case rel => exact ⟨k + 1, ⟨⟨mkind, bn, br, first, last, commit⟩, vo, vc, votes, so', sc', bl', pl, po, pc⟩, s', by omega, by go_num, HMK.out, HT9.out, by dsimp only; omega, by dsimp only; omega, by omega, T.out⟩
            case measure => simp [intOf]; omega
          · have D1 : decide ((j : Int) < (n1 : Int)) = false := decide_eq_false (by omega)
            have D1' : decide (j < n1) = false := decide_eq_false hjn
            have HOK := Lib.hid hokx
            clear hjc hokx
            go_wp2_with fail
            go_roundw
            case rel => exact ⟨k + 1, ⟨⟨mkind, bn, br, first, last, commit⟩, vo, vc, votes, so', sc', bl', pl, po, pc⟩, s', by omega, by go_num, HMK.out, HT9.out, by dsimp only; omega, by dsimp only; omega, by omega, T.out⟩
            case measure => simp [intOf]; omega
        obtain ⟨hjn, rfl⟩ := hjc
        have D1 : decide ((j : Int) < (n1 : Int)) = true := decide_eq_true (by omega)
        have D1' : decide (j < n1) = true := decide_eq_true hjn
        have hq1' := hq1 rfl
        have hm := RS.rep_more RS.text (n1 - j - 1) s' hokx
        rw [show n1 - j - 1 + 1 = n1 - (j + 1) + 1 by omega, show n1 - j - 1 = n1 - (j + 1) by omega] at hm
        rw [show n1 - j = n1 - (j + 1) + 1 by omega, hm] at HR1 HR2
        dsimp only at HR1 HR2
        have huse := RS.text_used s'
        have HOK := Lib.hid hokx
        clear hm hokx hq1
        have HC := Lib.hid (fun w' r' => rtx_any g [b] s' w' r' (by omega))
        obtain ⟨⟨tx, sn⟩, hts⟩ : ∃ x, s'.text = x := ⟨_, rfl⟩
        have hle2 := s'.text_le
        rw [hts] at HC HR1 HR2 huse hle2
        dsimp only at HC HR1 HR2 huse hle2
        clear hts
        go_upto_region 30 with (fail)
        refine restu_start 5 [g] (g :: mb :: blk so') 8 #[false, false, false, false, false, false, false, false] rfl (by kernel_rfl) (by kernel_rfl) ?_
        intro w6 m6
        have T6 := Lib.hid (T.out.still m6)
        have HX := Lib.hid (HC.out w6 T6.out.rd)
        have C7 := Lib.hid (cell_of_block (i := 7) T6.out.b1)
        unfold mC at C7
        dsimp only at C7
        simp only [List.getElem?_toArray, List.getElem?_cons_succ, List.getElem?_cons_zero] at C7
        clear m6 T HC t1
        refine restu_got (i := 0) (v := ?v7) rfl (by kernel_rfl) (by kernel_rfl) (by kernel_rfl) (by rfl) (fun _ _ _ h => h) (by rfl) ?y7 ?r7
        case y7 => (intro w9q hSwq; clear hSwq; go_simp; with_reducible rfl)
        try simp only [Act.put, List.setIfInBounds_toArray, List.set_cons_zero, List.set_cons_succ]
        refine restu_early (i := 1) [5, 6, 7] (v := ?v8) rfl (by kernel_rfl) (by kernel_rfl) (by kernel_rfl) (by rfl) (by kernel_rfl) (by rfl) (by kernel_rfl) (fun _ _ _ h => h) (by rfl) ?y8 ?r8
        case y8 => ((intro w9' hm9'; have hc9' := Mod.cell hm9' C7.out (by first | exact List.not_mem_nil | assumption | (simp; done) | (simp; omega)); clear hm9'; go_simp; with_reducible rfl))
        try simp only [Act.put, List.setIfInBounds_toArray, List.set_cons_zero, List.set_cons_succ]
        refine restu_got (i := 2) (v := ?v9) rfl (by kernel_rfl) (by kernel_rfl) (by kernel_rfl) (by rfl) (fun _ _ _ h => h) (by rfl) ?y9 ?r9
        case y9 => (intro w9q hSwq; clear hSwq; go_simp; with_reducible rfl)
        try simp only [Act.put, List.setIfInBounds_toArray, List.set_cons_zero, List.set_cons_succ]
        refine restu_one (i := 3) (by kernel_rfl) rfl (by rfl) ?_
        go_wp2_with fail
        refine HX.out.mono ?_
        rintro r' w7 ⟨ao7, cap7, rfl, nb7, k7, m7⟩
        have T7 := Lib.hid (T6.out.read k7 m7)
        have NB7 := Lib.hid (nb7.grow (B' := mb + 1) (by have := lt_of_block T6.out.b1; omega))
        unfold bsV
        dsimp only
        go_wp2_with fail
        refine backu_to (K' := []) (K2' := mb :: blk so') m7 (by simp) (by simp) (fun i h h' => List.mem_cons_of_mem _ h) ?_
        clear nb7 k7 m7 T6 C7 HX
        
        have m8 := Mod.alloc [] w7 (.cells #[.slice ao7 tx.length cap7] 27)
        have sh8 := shows_one (f := bsV) (x := ((tx, ao7, cap7) : Bs)) (t := 27) (z := (0, 0)) (w := w7.alloc (.cells #[.slice ao7 tx.length cap7] 27)) (g := w7.heap.size) (heap_alloc_new w7 _)
        obtain ⟨w8, hw8⟩ : ∃ x', w7.alloc (.cells #[.slice ao7 tx.length cap7] 27) = x' := ⟨_, rfl⟩
        rw [hw8] at m8 sh8
        have SH8 := Lib.hid sh8
        have T8 := Lib.hid (T7.out.still m8)
        have NB8 := Lib.hid (NB7.out.mod0 m8)
        refine restu_one (i := 4) (by kernel_rfl) rfl (by rfl) ?_
        go_wp2_with fail
        refine backu_to (K' := []) (K2' := mb :: blk so') m8 (by simp) (by simp) (fun i h h' => h) ?_
        clear m8 sh8 T7 NB7 hw8
        
        refine restu_one (i := 5) (by kernel_rfl) rfl (by rfl) ?_
        go_wp2_with (first | (at_builtin; refine wpl_appM (f := bsV) (dst := some 95) _ _ 26 _ 24 Tryd.underlying26 infoBs rfl (fun _ => rfl) bl'.length bl' rfl rfl T8.out.nm.batches.own _ 1 1 [((tx, ao7, cap7) : Bs)] rfl rfl SH8.out (by omega) (by omega) ?_) | fail)
        intro a10 c10 w10 o10 m10 n10
        have HLL : Hid ((bl' ++ [((tx, ao7, cap7) : Bs)]).length = bl'.length + 1) := Lib.hid (by rw [List.length_append]; rfl)
        have T11 := Lib.hid (T8.out.appB NB8.out o10 m10 n10 HLL.out)
        have hbb : ∀ k, k ∈ blk so' → mb + 1 ≤ k := T8.out.nm.batches.at'
        have HB10 := Lib.hid (m10.get T8.out.b1 (fun hi => by have := hbb _ hi; omega))
        unfold mC at HB10
        dsimp only at HB10
        have f7 := free_of_block (i := 7) HB10.out
        have z7 := cell_of_block (i := 7) HB10.out
        simp only [List.getElem?_toArray, List.getElem?_cons_succ, List.getElem?_cons_zero] at z7
        have HDD : Hid (dB (bl' ++ [((tx, ao7, cap7) : Bs)]) ++ (RS.rep RS.text (n1 - (j + 1)) sn).1 = dB batches ++ RL) := Lib.hid (by
          rw [← HR1.out]
          unfold dB
          rw [List.map_append, List.append_assoc]
          rfl)
        have KK : Hid (Mod [mb] w10 (w10.setCell ⟨mb, 7, none⟩ (.slice a10 (bl'.length + 1) c10))) := Lib.hid (Mod.setCell _ _ _ (by simp))
        go_wp2_with fail
        refine backm_to (K1 := [mb]) (by kernel_rfl) (m10.weaken (fun j hj => by simp [hj])) (fun j hj _ => by simp at hj; simp [hj]) ?_
        clear o10 m10 n10 T8 NB8 SH8 hbb
        refine rest_got (i := 6) (v := ?v10) rfl (by kernel_rfl) (by kernel_rfl) (by kernel_rfl) (fun _ _ _ h => h) (by rfl) ?y10 ?r10
        case y10 => (intro w9q hSwq; clear hSwq; go_simp; with_reducible rfl)
        try simp only [Act.put, List.setIfInBounds_toArray, List.set_cons_zero, List.set_cons_succ]
        refine rest_one (i := 7) (by kernel_rfl) rfl (by rfl) ?_
        go_wp2_with fail
        refine back_to (K1 := []) KK.out (by simp) ?_
        clear KK f7 z7 HB10
        refine rest_done (by kernel_rfl) ?_ _
        go_wp2_with fail
        go_roundw
        case rel => exact ⟨j + 1, a10, c10, _, sn, by omega, by go_num, HDD.out, HR2.out, fun h => by have := huse h; rw [HLL.out]; omega, by rw [HLL.out]; omega, by omega, T11.out⟩
        case measure => simp [intOf]; omega
    · have hb2 : (⟨Fs.toArray⟩ : ByteArray)[k] = 118 := hbx
      have HE0 : Hid (takeQF (Fs.take (k + 1)) ((mz kind).d, s1) = setQ 118 (mm.d, sk)) := Lib.hid hE
      clear hE hbx
      have HC := Lib.hid (rnum_any g [b] sk wr T.out.rd)
      have hle := sk.num_le
      have hn1 := sk.num_lt
      obtain ⟨⟨n1, s3⟩, hs3⟩ : ∃ x, sk.num = x := ⟨_, rfl⟩
      obtain ⟨⟨RL, RE⟩, hR⟩ : ∃ x, RS.rep RS.vote n1 s3 = x := ⟨_, rfl⟩
      have HE : Hid (takeQF (Fs.take (k + 1)) ((mz kind).d, s1) = (⟨mm.d.h, mm.d.votes ++ RL, mm.d.batches, mm.d.snap⟩, RE)) := Lib.hid (by
        rw [HE0.out]
        unfold setQ
        rw [if_neg (by decide)]; rw [if_neg (by decide)]; rw [if_neg (by decide)]; rw [if_neg (by decide)]; rw [if_neg (by decide)]; rw [if_neg (by decide)]; rw [if_pos rfl]
        dsimp only
        unfold RS.rows
        rw [hs3]
        dsimp only
        rw [hR])
      have HR := Lib.hid hR
      rw [hs3] at HC hle hn1
      dsimp only at HC hle hn1
      clear hs3 hR HE0
      go_wp2_with fail
      refine HC.out.mono ?_
      rintro r' w3 ⟨rfl, k3, m3⟩
      have T3 := Lib.hid (T.out.read k3 m3)
      clear k3 m3 HC T
      rw [← HMM.out] at T3 HE
      have hk4 : k ≤ 3 := by omega
      go_wp2_with fail
      go_loopw [12] (fun s10 wq => ∃ (j : Nat) (vo' : Option Addr) (vc' : Nat) (vl' : List Vm) (s' : RS), j ≤ n1 ∧ s10 = .int .u64 (j : Int) ∧ dV vl' ++ (RS.rep RS.vote (n1 - j) s').1 = dV votes ++ RL ∧ (RS.rep RS.vote (n1 - j) s').2 = RE ∧ (s'.ok = true → vl'.length + s'.l.length ≤ votes.length + 5000) ∧ vl'.length ≤ votes.length + 5001 ∧ s'.l.length ≤ 5000 ∧ RT w g mb [b] kind ⟨⟨mkind, bn, br, first, last, commit⟩, vo', vc', vl', so, sc, batches, pl, po, pc⟩ s' wq) (fun s10 _ => n1 - (intOf s10).toNat)
      case atStart => exact ⟨0, _, _, votes, s3, Nat.zero_le _, rfl, by rw [Nat.sub_zero, HR.out], by rw [Nat.sub_zero, HR.out], fun _ => by omega, by omega, by omega, T3.out⟩
      case round =>
        obtain ⟨j, vo', vc', vl', s', hj, rfl, hr1, hr2, hq1, hq2, hq3, hT⟩ := hrel
        rename World => wq
        have T := Lib.hid hT
        have HR1 := Lib.hid hr1
        have HR2 := Lib.hid hr2
        obtain ⟨a2, cap2, t0, t1, -⟩ := T.out.rd.open
        clear hT hr1 hr2 T3 HR t0
        obtain ⟨okx, hokx⟩ : ∃ x, s'.ok = x := ⟨_, rfl⟩
        rw [hokx] at t1 hq1
        by_cases hjc : j < n1 ∧ okx = true
        case neg =>
          have hst : RS.rep RS.vote (n1 - j) s' = ([], s') := by
            refine RS.rep_stop _ _ _ ?_
            by_cases h : j < n1
            · exact .inl (by rw [hokx]; simpa using fun h2 => hjc ⟨h, h2⟩)
            · exact .inr (by omega)
          have hd : dV vl' = dV votes ++ RL := by have := HR1.out; rw [hst] at this; simpa using this
          have he : s' = RE := by have := HR2.out; rw [hst] at this; exact this
          have HT9 : Hid (takeQF (Fs.take (k + 1)) ((mz kind).d, s1) = (Mm.d ⟨⟨mkind, bn, br, first, last, commit⟩, vo', vc', vl', so, sc, batches, pl, po, pc⟩, s')) := Lib.hid (by rw [HE.out, he]; unfold Mm.d; dsimp only; rw [hd])
          clear hd he hst HR1 HR2
          by_cases hjn : j < n1
          · have D1 : decide ((j : Int) < (n1 : Int)) = true := decide_eq_true (by omega)
            have D1' : decide (j < n1) = true := decide_eq_true hjn
            have hok0 : okx = false := by simpa using fun h2 => hjc ⟨hjn, h2⟩
            subst hok0
            have HOK := Lib.hid hokx
            clear hjc hokx
            go_wp2_with fail
            go_roundw
            case rel => exact ⟨k + 1, ⟨⟨mkind, bn, br, first, last, commit⟩, vo', vc', vl', so, sc, batches, pl, po, pc⟩, s', by omega, by go_num, HMK.out, HT9.out, by dsimp only; omega, by dsimp only; omega, by omega, T.out⟩
            case measure => simp [intOf]; omega
          · have D1 : decide ((j : Int) < (n1 : Int)) = false := decide_eq_false (by omega)
            have D1' : decide (j < n1) = false := decide_eq_false hjn
            have HOK := Lib.hid hokx
            clear hjc hokx
            go_wp2_with fail
            go_roundw
            case rel => exact ⟨k + 1, ⟨⟨mkind, bn, br, first, last, commit⟩, vo', vc', vl', so, sc, batches, pl, po, pc⟩, s', by omega, by go_num, HMK.out, HT9.out, by dsimp only; omega, by dsimp only; omega, by omega, T.out⟩
            case measure => simp [intOf]; omega
        obtain ⟨hjn, rfl⟩ := hjc
        have D1 : decide ((j : Int) < (n1 : Int)) = true := decide_eq_true (by omega)
        have D1' : decide (j < n1) = true := decide_eq_true hjn
        have hq1' := hq1 rfl
        have hm := RS.rep_more RS.vote (n1 - j - 1) s' hokx
        rw [show n1 - j - 1 + 1 = n1 - (j + 1) + 1 by omega, show n1 - j - 1 = n1 - (j + 1) by omega] at hm
        rw [show n1 - j = n1 - (j + 1) + 1 by omega, hm] at HR1 HR2
        dsimp only at HR1 HR2
        have huse := RS.vote_used s'
        have HOK := Lib.hid hokx
        clear hm hokx hq1
        have HCn := Lib.hid (rnum_any g [b] s' wq T.out.rd)
        have hl1 := s'.num_le
        obtain ⟨⟨sl, sa⟩, hsa⟩ : ∃ x, s'.num = x := ⟨_, rfl⟩
        have hl2 := sa.ball_le
        obtain ⟨⟨⟨vn, vr⟩, sb⟩, hsb⟩ : ∃ x, sa.ball = x := ⟨_, rfl⟩
        have hl3 := sb.text_le
        obtain ⟨⟨tx, sn⟩, hsn⟩ : ∃ x, sb.text = x := ⟨_, rfl⟩
        have hvote : s'.vote = ((⟨sl, vn, (vr : Int)⟩, tx), sn) := by
          unfold RS.vote
          rw [hsa]
          dsimp only
          rw [hsb]
          dsimp only
          rw [hsn]
        have HCb := Lib.hid (fun w' r' => rbl_any g [b] sa w' r')
        have HCt := Lib.hid (fun (hb : sb.l.length ≤ 1000000) w' r' => rtx_any g [b] sb w' r' hb)
        rw [hsa] at HCn hl1
        rw [hsb] at HCb hl2
        rw [hsn] at HCt hl3
        rw [hvote] at HR1 HR2 huse
        dsimp only at HCn hl1 HCb hl2 HCt hl3 HR1 HR2 huse
        have hsb5 : sb.l.length ≤ 1000000 := by omega
        go_upto_region 36 with (fail)
        clear hsa hsb hsn hvote t1
        go_wp2_with fail
        refine HCn.out.mono ?_
        rintro r' w4' ⟨rfl, k4, m4⟩
        have T4 := Lib.hid (T.out.read k4 m4)
        clear k4 m4 T HCn
        obtain ⟨wz', hwz, hbz, hmz⟩ : ∃ x, w4'.alloc (.cells #[.int .u64 0, .int .u64 0, .int .i64 0, .slice none 0 0] 52) = x ∧ x.heap[w4'.heap.size]? = some (.cells #[.int .u64 0, .int .u64 0, .int .i64 0, .slice none 0 0] 52 (0, 0)) ∧ Mod [] w4' x := ⟨_, rfl, heap_alloc_new w4' _, Mod.alloc _ _ _⟩
        have z0 := cell_of_block (i := 0) hbz
        have y0 := free_of_block (i := 0) hbz
        have z1 := cell_of_block (i := 1) hbz
        have y1 := free_of_block (i := 1) hbz
        have z2 := cell_of_block (i := 2) hbz
        have y2 := free_of_block (i := 2) hbz
        have z3 := cell_of_block (i := 3) hbz
        have y3 := free_of_block (i := 3) hbz
        simp only [List.getElem?_toArray, List.getElem?_cons_succ, List.getElem?_cons_zero] at z0 z1 z2 z3
        go_upto_region 37 with (fail)
        obtain ⟨w5', hw5⟩ : ∃ x, ((((wz'.setCell ⟨w4'.heap.size, 0, none⟩ (.int .u64 (sl : Int))).setCell ⟨w4'.heap.size, 1, none⟩ (.int .u64 0)).setCell ⟨w4'.heap.size, 2, none⟩ (.int .i64 0)).setCell ⟨w4'.heap.size, 3, none⟩ (.slice none 0 0)) = x := ⟨_, rfl⟩
        rw [hw5]
        have hb5 : w5'.heap[w4'.heap.size]? = some (.cells #[.int .u64 (sl : Int), .int .u64 0, .int .i64 0, .slice none 0 0] 52 (0, 0)) := by
          rw [← hw5]
          have h := (heap_setCell_same (i := 3) (heap_setCell_same (i := 2) (heap_setCell_same (i := 1) (heap_setCell_same (i := 0) hbz (.int .u64 (sl : Int))) (.int .u64 0)) (.int .i64 0)) (.slice none 0 0))
          simp only [List.setIfInBounds_toArray, List.set_cons_zero, List.set_cons_succ] at h
          exact h
        have m5 : Mod [] w4' w5' := by
          rw [← hw5]
          exact hmz.trans (T := [w4'.heap.size]) ((((Mod.setCell _ _ _ (by simp)).trans' (Mod.setCell _ _ _ (by simp))).trans' (Mod.setCell _ _ _ (by simp))).trans' (Mod.setCell _ _ _ (by simp))) (by simp)
        clear z0 z1 z2 z3 y0 y1 y2 y3 hbz hmz hwz hw5
        have ML := Lib.hid T4.out.nm.mlt
        have hvm : mb < w4'.heap.size := lt_of_block T4.out.b1
        have HO4 := T4.out.o
        obtain ⟨vb, hvb⟩ : ∃ x, w4'.heap.size = x := ⟨_, rfl⟩
        rw [hvb] at hb5 ML hvm ⊢
        have T5 := Lib.hid (T4.out.still m5)
        have HB5 := Lib.hid hb5
        have HX := Lib.hid (HCb.out w5' T5.out.rd)
        clear hb5 m5 T4 HCb hvb
        go_wp2_with fail
        refine HX.out.mono ?_
        rintro r' w6' ⟨rfl, k6, m6⟩
        have T6 := Lib.hid (T5.out.read k6 m6)
        have hb6 := m6.get HB5.out (by simp; omega)
        have z1 := cell_of_block (i := 1) hb6
        have y1 := free_of_block (i := 1) hb6
        have z2 := cell_of_block (i := 2) hb6
        have y2 := free_of_block (i := 2) hb6
        simp only [List.getElem?_toArray, List.getElem?_cons_succ, List.getElem?_cons_zero] at z1 z2
        clear k6 m6 T5 HB5 HX
        go_upto_region 38 with (fail)
        obtain ⟨w7', hw7⟩ : ∃ x, ((w6'.setCell ⟨vb, 1, none⟩ (.int .u64 (vn : Int))).setCell ⟨vb, 2, none⟩ (.int .i64 (vr : Int))) = x := ⟨_, rfl⟩
        rw [hw7]
        have hb7 : w7'.heap[vb]? = some (.cells #[.int .u64 (sl : Int), .int .u64 (vn : Int), .int .i64 (vr : Int), .slice none 0 0] 52 (0, 0)) := by
          rw [← hw7]
          have h := (heap_setCell_same (i := 2) (heap_setCell_same (i := 1) hb6 (.int .u64 (vn : Int))) (.int .i64 (vr : Int)))
          simp only [List.setIfInBounds_toArray, List.set_cons_zero, List.set_cons_succ] at h
          exact h
        have m7 : Mod [vb] w6' w7' := by
          rw [← hw7]
          exact ((Mod.setCell _ _ _ (by simp)).trans' (Mod.setCell _ _ _ (by simp)))
        have T7 := Lib.hid (T6.out.aside ML.out m7 (by simp) hvm)
        have HB7 := Lib.hid hb7
        have hz7 : vb < w7'.heap.size := lt_of_block hb7
        have HX := Lib.hid (HCt.out hsb5 w7' T7.out.rd)
        clear z1 z2 y1 y2 hb6 hb7 m7 T6 hw7 HCt
        go_wp2_with fail
        refine HX.out.mono ?_
        rintro r' w8' ⟨ao8, cap8, rfl, nb8, k8, m8⟩
        have T8 := Lib.hid (T7.out.read k8 m8)
        have NB8 := Lib.hid nb8
        have hb8 := m8.get HB7.out (by simp; omega)
        unfold bsV
        dsimp only
        have z3 := cell_of_block (i := 3) hb8
        have y3 := free_of_block (i := 3) hb8
        simp only [List.getElem?_toArray, List.getElem?_cons_succ, List.getElem?_cons_zero] at z3
        clear k8 m8 nb8 T7 HB7 HX
        go_upto_region 39 with (fail)
        obtain ⟨w9', hw9⟩ : ∃ x, w8'.setCell ⟨vb, 3, none⟩ (.slice ao8 tx.length cap8) = x := ⟨_, rfl⟩
        rw [hw9]
        have hb9 : w9'.heap[vb]? = some (.cells #[.int .u64 (sl : Int), .int .u64 (vn : Int), .int .i64 (vr : Int), .slice ao8 tx.length cap8] 52 (0, 0)) := by
          rw [← hw9]
          have h := heap_setCell_same (i := 3) hb8 (.slice ao8 tx.length cap8)
          simp only [List.setIfInBounds_toArray, List.set_cons_zero, List.set_cons_succ] at h
          exact h
        have m9 : Mod [vb] w8' w9' := by
          rw [← hw9]
          exact Mod.setCell _ _ _ (by simp)
        have T9 := Lib.hid (T8.out.aside ML.out m9 (by simp) hvm)
        have NB9 := Lib.hid ((NB8.out.off m9 (by simp; omega)).grow (B' := mb + 1) (by omega))
        have HB91 := Lib.hid T9.out.b1
        unfold mC at HB91
        dsimp only at HB91
        have d0 := cell_of_block (i := 0) hb9
        have d1 := cell_of_block (i := 1) hb9
        have d2 := cell_of_block (i := 2) hb9
        have d3 := cell_of_block (i := 3) hb9
        simp only [List.getElem?_toArray, List.getElem?_cons_succ, List.getElem?_cons_zero] at d0 d1 d2 d3
        have c6 := cell_of_block (i := 6) HB91.out
        simp only [List.getElem?_toArray, List.getElem?_cons_succ, List.getElem?_cons_zero] at c6
        have m10 := Mod.alloc [] w9' (.cells #[.int .u64 (sl : Int), .int .u64 (vn : Int), .int .i64 (vr : Int), .slice ao8 tx.length cap8] 52)
        have sh10 := showsV (x := ((⟨sl, vn, (vr : Int)⟩, tx, ao8, cap8) : Vm)) (t := 52) (z := (0, 0)) (w := w9'.alloc (.cells #[.int .u64 (sl : Int), .int .u64 (vn : Int), .int .i64 (vr : Int), .slice ao8 tx.length cap8] 52)) (g := w9'.heap.size) (heap_alloc_new w9' _)
        obtain ⟨w10', hw10⟩ : ∃ x, w9'.alloc (.cells #[.int .u64 (sl : Int), .int .u64 (vn : Int), .int .i64 (vr : Int), .slice ao8 tx.length cap8] 52) = x := ⟨_, rfl⟩
        rw [hw10] at m10 sh10
        have SH10 := Lib.hid sh10
        have T10 := Lib.hid (T9.out.still m10)
        have NB10 := Lib.hid (NB9.out.mod0 m10)
        clear z3 y3 hb8 hb9 m9 hw9 T8 NB8 m10 sh10 T9 NB9 HB91 ML
        go_wp2_with (first | (at_builtin; refine wpl_appV (dst := some 125) _ _ vo' vl'.length vc' vl' rfl rfl T10.out.nm.votes.own _ ((⟨sl, vn, (vr : Int)⟩, tx, ao8, cap8) : Vm) rfl SH10.out (by omega) ?_) | fail)
        intro a11 c11 w11 o11 m11 n11
        have HLL : Hid ((vl' ++ [((⟨sl, vn, (vr : Int)⟩, tx, ao8, cap8) : Vm)]).length = vl'.length + 1) := Lib.hid (by rw [List.length_append]; rfl)
        have T12 := Lib.hid (T10.out.appV NB10.out o11 m11 n11 HLL.out)
        have hbb : ∀ k, k ∈ blk vo' → mb + 1 ≤ k := T10.out.nm.votes.at'
        have HB11 := Lib.hid (m11.get T10.out.b1 (fun hi => by have := hbb _ hi; omega))
        unfold mC at HB11
        dsimp only at HB11
        have z6 := cell_of_block (i := 6) HB11.out
        have f6 := free_of_block (i := 6) HB11.out
        simp only [List.getElem?_toArray, List.getElem?_cons_succ, List.getElem?_cons_zero] at z6
        have HDD : Hid (dV (vl' ++ [((⟨sl, vn, (vr : Int)⟩, tx, ao8, cap8) : Vm)]) ++ (RS.rep RS.vote (n1 - (j + 1)) sn).1 = dV votes ++ RL) := Lib.hid (by
          rw [← HR1.out]
          unfold dV
          rw [List.map_append, List.append_assoc]
          rfl)
        clear o11 m11 n11 T10 NB10 SH10 hbb d0 d1 d2 d3 c6 hw10
        go_wp2_with fail
        go_roundw
        case rel => exact ⟨j + 1, a11, c11, _, sn, by omega, by go_num, HDD.out, HR2.out, fun h => by have := huse h; rw [HLL.out]; omega, by rw [HLL.out]; omega, by omega, T12.out⟩
        case measure => simp [intOf]; omega
end Go.Proofs.YtekdnljincbghaaDoor
