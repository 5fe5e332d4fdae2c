/- The walk of msg.taker.take. -/
import Derived.Test.YtekdnljincbghaaDoorMsg8
namespace Go.Proofs.YtekdnljincbghaaDoor
open Go Go.RowKit Go.Lib

/-- A message, all of the call's own. -/
structure NewM (B : Nat) (w : World) (m : Mm) : Prop where
  votes : NewVs B w m.vo m.vc m.votes
  batches : NewBs B w m.so m.sc m.batches
  snap : NewB B w m.p
theorem NewM.off {B : Nat} {S : List Nat} {w w' : World} {m : Mm} (h : NewM B w m) (k : Mod S w w') (hS : ∀ i, i ∈ S → i < B) : NewM B w' m := ⟨h.votes.off k hS, h.batches.off k hS, h.snap.off k hS⟩
theorem NewM.mod0 {B : Nat} {w w' : World} {m : Mm} (h : NewM B w m) (k : Mod [] w w') : NewM B w' m := h.off k (by simp)
theorem NewM.grow {B B' : Nat} {w : World} {m : Mm} (h : NewM B w m) (hb : B' ≤ B) : NewM B' w m := ⟨h.votes.grow hb, h.batches.grow hb, h.snap.grow hb⟩
theorem NewB.nil (B : Nat) (w : World) : NewB B w ([], none, 0) := ⟨OwnB.nil w, by simp [blk]⟩
/-- A message of a kind, and nothing else. -/
def mz (kind : Nat) : Mm := ⟨⟨kind, 0, 0, 0, 0, 0⟩, none, 0, [], none, 0, [], ([], none, 0)⟩
theorem NewM.mz (B : Nat) (w : World) (kind : Nat) : NewM B w (mz kind) := ⟨NewVs.nil _ _, NewBs.nil _ _, NewB.nil _ _⟩
/-- A field that is read, by its letter. -/
def setF (lim : Int) (c : UInt8) (x : Md × St) : Md × St :=
  if c = 98 then (⟨⟨x.1.h.kind, x.2.ball.1.1, (x.2.ball.1.2 : Int), x.1.h.first, x.1.h.last, x.1.h.commit⟩, x.1.votes, x.1.batches, x.1.snap⟩, x.2.ball.2)
  else if c = 99 then (⟨⟨x.1.h.kind, x.1.h.bn, x.1.h.br, x.1.h.first, x.1.h.last, x.2.uint.1⟩, x.1.votes, x.1.batches, x.1.snap⟩, x.2.uint.2)
  else if c = 102 then (⟨⟨x.1.h.kind, x.1.h.bn, x.1.h.br, x.2.uint.1, x.1.h.last, x.1.h.commit⟩, x.1.votes, x.1.batches, x.1.snap⟩, x.2.uint.2)
  else if c = 108 then (⟨⟨x.1.h.kind, x.1.h.bn, x.1.h.br, x.1.h.first, x.2.uint.1, x.1.h.commit⟩, x.1.votes, x.1.batches, x.1.snap⟩, x.2.uint.2)
  else if c = 112 then (⟨x.1.h, x.1.votes, x.1.batches, (x.2.text lim).1⟩, (x.2.text lim).2)
  else if c = 115 then (⟨x.1.h, x.1.votes, (x.2.rows 16 (St.text lim)).1, x.1.snap⟩, (x.2.rows 16 (St.text lim)).2)
  else if c = 118 then (⟨x.1.h, (x.2.rows 256 (St.vote lim)).1, x.1.batches, x.1.snap⟩, (x.2.rows 256 (St.vote lim)).2)
  else x
def takeF (lim : Int) (l : List UInt8) (x : Md × St) : Md × St := l.foldl (fun x c => setF lim c x) x
theorem takeF_take (lim : Int) (l : List UInt8) (k : Nat) (hk : k < l.length) (x : Md × St) : takeF lim (l.take (k + 1)) x = setF lim l[k] (takeF lim (l.take k) x) := by
  unfold takeF
  rw [List.take_succ_eq_append_getElem hk, List.foldl_append]
  rfl
/-- What is read of a message, in memory, while it is read. -/
structure TF (w : World) (tk g : Nat) (bs : List Nat) (lim : Int) (kind : Nat) (c1 : Array Value) (gF : Nat) (Fs : List UInt8) (m : Mm) (s : St) (wr : World) : Prop where
  tb : TB w tk g bs lim 29 s (mC (.int .u8 (kind : Int)) m) c1 wr
  nm : NewM (w.heap.size + 2) wr m
  fs : Sees wr (some ⟨gF, 0, none⟩) Fs
  lf : w.heap.size + 2 ≤ gF
section
variable {w wr w' : World} {tk g : Nat} {bs : List Nat} {lim : Int} {kind : Nat} {c1 : Array Value} {gF : Nat} {Fs : List UInt8} {m m' : Mm} {s s' : St}
theorem TF.read (h : TF w tk g bs lim kind c1 gF Fs m s wr) (r : TkS w' tk g bs lim s') (k : Mod [g, tk] wr w') : TF w tk g bs lim kind c1 gF Fs m s' w' :=
  ⟨h.tb.read r k, h.nm.off k (fun i hi => by have := h.tb.lt; simp at hi; omega), h.fs.mod k (fun b off e => by cases e; have := h.tb.lt; have := h.lf; simp; omega), h.lf⟩
theorem TF.set (h : TF w tk g bs lim kind c1 gF Fs m s wr) (i : Nat) (v : Value) (he : (mC (.int .u8 (kind : Int)) m).setIfInBounds i v = mC (.int .u8 (kind : Int)) m') (hn : NewM (w.heap.size + 2) wr m') :
    TF w tk g bs lim kind c1 gF Fs m' s (wr.setCell ⟨w.heap.size, i, none⟩ v) := by
  have k : Mod [w.heap.size] wr (wr.setCell ⟨w.heap.size, i, none⟩ v) := Mod.setCell wr _ _ (by simp)
  have h1 := h.tb.set0 i v
  rw [he] at h1
  exact ⟨h1, hn.off k (fun i hi => by simp at hi; omega), h.fs.mod k (fun b off e => by cases e; have := h.lf; simp; omega), h.lf⟩
end

set_option maxRecDepth 100000 in
set_option maxHeartbeats 8000000 in
theorem ttake_any (tk g : Nat) (bs : List Nat) (lim : Int) (s : St) (kind : Nat) (w : World) (h : TkS w tk g bs lim s) (hl1 : -9223372036854775808 ≤ lim) (hl2 : lim ≤ 9223372036854775807) (hkn : Known kind) (hf : Flds w) :
    Calls Tryd.prog 41 #[.pointer (some ⟨tk, 0, none⟩), msgV (mz kind)] w fun e w' => ∃ m s', e = .returned (.agg (mC (.int .u8 (kind : Int)) m)) ∧ m.h.kind = kind ∧ takeF lim (Fl kind) ((mz kind).d, s) = (m.d, s') ∧ NewM w.heap.size w' m ∧ TkS w' tk g bs lim s' ∧ Mod [g, tk] w w' := by
  have hz := h.tlt
  obtain ⟨w1, hw1, T1⟩ := TB.start h 29 (mC (.int .u8 (kind : Int)) (mz kind)) (mC (.int .u8 0) (mz 0))
  have hF : Flds w1 := by rw [← hw1]; exact hf.mod0 ((Mod.alloc [] _ _).trans' (Mod.alloc [] _ _))
  have hkk : kind < 9 := by have := hkn.2; omega
  have f0 := hF kind hkk
  have hk2 : (kind : Int) < 9 := by omega
  have hFi := Fl_in kind (by omega)
  have hFn := Fl_len kind
  obtain ⟨Fs, hFs⟩ : ∃ l, Fl kind = l := ⟨_, rfl⟩
  rw [hFs] at f0 hFi hFn ⊢
  have c0 := cell_of_block (i := 0) T1.b0
  have HT1 := Lib.hid T1
  clear h hF hf hFs T1 hkn
  have hmz : msgV (mz kind) = .agg #[.int .u8 (kind : Int), .int .u64 0, .int .i64 0, .int .u64 0, .int .u64 0, .int .u64 0, .slice none 0 0, .slice none 0 0, .slice none 0 0] := rfl
  have hmz0 : mC (.int .u8 0) (mz 0) = #[.int .u8 0, .int .u64 0, .int .i64 0, .int .u64 0, .int .u64 0, .int .u64 0, .slice none 0 0, .slice none 0 0, .slice none 0 0] := rfl
  have hmz1 : mC (.int .u8 (kind : Int)) (mz kind) = #[.int .u8 (kind : Int), .int .u64 0, .int .i64 0, .int .u64 0, .int .u64 0, .int .u64 0, .slice none 0 0, .slice none 0 0, .slice none 0 0] := rfl
  rw [hmz]
  rw [hmz0, hmz1] at hw1
  rw [hmz1] at c0
  clear hmz hmz1
  obtain ⟨c1, hc1⟩ : ∃ c, mC (.int .u8 0) (mz 0) = c := ⟨_, rfl⟩
  rw [hc1] at HT1 hmz0
  have HC1 := Lib.hid hmz0
  clear hc1 hmz0
  go_enter Tryd.func41, Tryd.ntmps41
  have hFz : (⟨Fs.toArray⟩ : ByteArray).size ≤ 9223372036854775807 := by
    have h : (⟨Fs.toArray⟩ : ByteArray).size = Fs.length := by show Fs.toArray.size = _; simp
    omega
  go_wp2_with (first | (refine wpl_bytes (dst := some 11) _ ⟨Fs.toArray⟩ rfl hFz (by rfl) ?_) | fail)
  intro gF capF w2 oF m2 hg
  have HF2 : Hid (TF w tk g bs lim kind c1 gF Fs (mz kind) s w2) := Lib.hid (by
    have hz1 : w.heap.size + 2 ≤ w1.heap.size := by have := lt_of_block HT1.out.b1; omega
    refine ⟨HT1.out.off m2 (by simp), NewM.mz _ _ _, ?_, by omega⟩
    exact (show Sees w2 (some ⟨gF, 0, none⟩) Fs from oF.sees))
  clear oF m2 hw1 f0 c0 hk2 hFz hg HT1
  go_wp2_with fail
  go_loopw [13] (fun s13 wr => ∃ (k : Nat) (m : Mm) (sk : St), k ≤ Fs.length ∧ s13 = .int .i64 (k : Int) ∧ m.h.kind = kind ∧ takeF lim (Fs.take k) ((mz kind).d, s) = (m.d, sk) ∧ TF w tk g bs lim kind c1 gF Fs m sk wr) (fun s13 _ => Fs.length - (intOf s13).toNat)
  case atStart => exact ⟨0, mz kind, s, Nat.zero_le _, rfl, rfl, rfl, HF2.out⟩
  case round =>
    obtain ⟨k, m, sk, hk, rfl, hmk, htf, hT⟩ := hrel
    rename World => wr
    have T := Lib.hid hT
    have HTF := Lib.hid htf
    have HMK := Lib.hid hmk
    clear hT htf hmk HF2
    by_cases hlt : k < Fs.length
    case neg =>
      have hke : k = Fs.length := by omega
      subst hke
      rw [List.take_length] at HTF
      obtain ⟨⟨mkind, bn, br, first, last, commit⟩, vo, vc, votes, so, sc, batches, pl, po, pc⟩ := m
      dsimp only at HMK
      have HB0 := Lib.hid T.out.tb.b0
      have HB1 := Lib.hid T.out.tb.b1
      rw [HC1.out] at HB1
      unfold mC at HB0
      dsimp only at HB0
      have d0 := cell_of_block (i := 0) HB0.out
      have d1 := cell_of_block (i := 1) HB0.out
      have d2 := cell_of_block (i := 2) HB0.out
      have d3 := cell_of_block (i := 3) HB0.out
      have d4 := cell_of_block (i := 4) HB0.out
      have d5 := cell_of_block (i := 5) HB0.out
      have d6 := cell_of_block (i := 6) HB0.out
      have d7 := cell_of_block (i := 7) HB0.out
      have d8 := cell_of_block (i := 8) HB0.out
      have z0 := cell_of_block (i := 0) HB1.out
      have y0 := free_of_block (i := 0) HB1.out
      have z1 := cell_of_block (i := 1) HB1.out
      have y1 := free_of_block (i := 1) HB1.out
      have z2 := cell_of_block (i := 2) HB1.out
      have y2 := free_of_block (i := 2) HB1.out
      have z3 := cell_of_block (i := 3) HB1.out
      have y3 := free_of_block (i := 3) HB1.out
      have z4 := cell_of_block (i := 4) HB1.out
      have y4 := free_of_block (i := 4) HB1.out
      have z5 := cell_of_block (i := 5) HB1.out
      have y5 := free_of_block (i := 5) HB1.out
      have z6 := cell_of_block (i := 6) HB1.out
      have y6 := free_of_block (i := 6) HB1.out
      have z7 := cell_of_block (i := 7) HB1.out
      have y7 := free_of_block (i := 7) HB1.out
      have z8 := cell_of_block (i := 8) HB1.out
      have y8 := free_of_block (i := 8) HB1.out
      simp only [List.getElem?_toArray, List.getElem?_cons_succ, List.getElem?_cons_zero] at d0 d1 d2 d3 d4 d5 d6 d7 d8 z0 z1 z2 z3 z4 z5 z6 z7 z8
      go_wp2_with fail
      refine bodyPost_ret (by simp [results, Tryd.results41, go_sem, *]; try rfl) rfl ?_
      refine ⟨⟨⟨mkind, bn, br, first, last, commit⟩, vo, vc, votes, so, sc, batches, pl, po, pc⟩, sk, rfl, HMK.out, HTF.out, ?_, ?_, ?_⟩
      · exact (T.out.nm.off (by exact (((((((((Mod.setCell _ _ _ (by simp)).trans' (Mod.setCell _ _ _ (by simp))).trans' (Mod.setCell _ _ _ (by simp))).trans' (Mod.setCell _ _ _ (by simp))).trans' (Mod.setCell _ _ _ (by simp))).trans' (Mod.setCell _ _ _ (by simp))).trans' (Mod.setCell _ _ _ (by simp))).trans' (Mod.setCell _ _ _ (by simp))).trans' (Mod.setCell _ _ _ (by simp)))) (S := [w.heap.size + 1]) (by simp)).grow (by omega)
      · exact T.out.tb.st.mod (by exact (((((((((Mod.setCell _ _ _ (by simp)).trans' (Mod.setCell _ _ _ (by simp))).trans' (Mod.setCell _ _ _ (by simp))).trans' (Mod.setCell _ _ _ (by simp))).trans' (Mod.setCell _ _ _ (by simp))).trans' (Mod.setCell _ _ _ (by simp))).trans' (Mod.setCell _ _ _ (by simp))).trans' (Mod.setCell _ _ _ (by simp))).trans' (Mod.setCell _ _ _ (by simp)))) (S := [w.heap.size + 1]) (by have := hz; simp; omega) (by have := hz; simp; omega) (fun i hi hs => by have := T.out.tb.lt.2.2 i hi; simp at hs; omega)
      · exact T.out.tb.mod.trans (T := [w.heap.size + 1]) (by exact (((((((((Mod.setCell _ _ _ (by simp)).trans' (Mod.setCell _ _ _ (by simp))).trans' (Mod.setCell _ _ _ (by simp))).trans' (Mod.setCell _ _ _ (by simp))).trans' (Mod.setCell _ _ _ (by simp))).trans' (Mod.setCell _ _ _ (by simp))).trans' (Mod.setCell _ _ _ (by simp))).trans' (Mod.setCell _ _ _ (by simp))).trans' (Mod.setCell _ _ _ (by simp)))) (by simp; omega)
    have hlt2 : (k : Int) < (Fs.length : Int) := by omega
    obtain ⟨_, _, e0, p⟩ := T.out.fs k hlt
    cases e0
    rw [Nat.zero_add] at p
    have hE := takeF_take lim Fs k hlt ((mz kind).d, s)
    rw [HTF.out] at hE
    have hci := hFi _ (List.getElem_mem hlt)
    obtain ⟨ch, hch⟩ : ∃ x, Fs[k] = x := ⟨_, rfl⟩
    rw [hch] at p hE hci
    clear hch HTF
    obtain ⟨⟨mkind, bn, br, first, last, commit⟩, vo, vc, votes, so, sc, batches, pl, po, pc⟩ := m
    dsimp only at HMK
    obtain ⟨mm, hmm⟩ : ∃ x, (⟨⟨mkind, bn, br, first, last, commit⟩, vo, vc, votes, so, sc, batches, pl, po, pc⟩ : Mm) = x := ⟨_, rfl⟩
    have HMM := Lib.hid hmm
    rw [hmm] at T hE
    clear hmm
    have t0 := cell_of_block (i := 0) T.out.tb.st.at0
    rcases hci with rfl | rfl | rfl | rfl | rfl | rfl | rfl
    · have p0 : wr.cell? ⟨gF, k, none⟩ = some (.int .u8 98) := p
      have HE : Hid (takeF lim (Fs.take (k + 1)) ((mz kind).d, s) = setF lim 98 (mm.d, sk)) := Lib.hid hE
      clear p hE
      have HC := Lib.hid (tball_any tk g bs lim sk wr T.out.tb.st)
      obtain ⟨⟨⟨n1, r1⟩, s3⟩, hs3⟩ : ∃ x, sk.ball = x := ⟨_, rfl⟩
      rw [hs3] at HC
      dsimp only at HC
      have HS := Lib.hid hs3
      clear hs3
      go_wp2_with fail
      refine HC.out.mono ?_
      rintro r' w3 ⟨rfl, k3, m3⟩
      have T3 := Lib.hid (T.out.read k3 m3)
      clear k3 m3 HC T t0 p0
      rw [← HMM.out] at T3 HE
      have f1 := free_of_block (i := 1) T3.out.tb.b0
      have c1 := cell_of_block (i := 1) T3.out.tb.b0
      have f2 := free_of_block (i := 2) T3.out.tb.b0
      have c2 := cell_of_block (i := 2) T3.out.tb.b0
      unfold mC at c1 c2
      dsimp only at c1 c2
      simp only [List.getElem?_toArray, List.getElem?_cons_succ, List.getElem?_cons_zero] at c1 c2
      have T4 := Lib.hid (T3.out.set (m' := ⟨⟨mkind, n1, br, first, last, commit⟩, vo, vc, votes, so, sc, batches, pl, po, pc⟩) 1 (.int .u64 (n1 : Int)) rfl ⟨T3.out.nm.votes, T3.out.nm.batches, T3.out.nm.snap⟩)
      have T5 := Lib.hid (T4.out.set (m' := ⟨⟨mkind, n1, (r1 : Int), first, last, commit⟩, vo, vc, votes, so, sc, batches, pl, po, pc⟩) 2 (.int .i64 (r1 : Int)) rfl ⟨T4.out.nm.votes, T4.out.nm.batches, T4.out.nm.snap⟩)
      have HT9 : Hid (takeF lim (Fs.take (k + 1)) ((mz kind).d, s) = (Mm.d ⟨⟨mkind, n1, (r1 : Int), first, last, commit⟩, vo, vc, votes, so, sc, batches, pl, po, pc⟩, s3)) := Lib.hid (by rw [HE.out]; unfold setF Mm.d; rw [if_pos rfl]; dsimp only; rw [HS.out])
      go_wp2_with fail
      go_roundw
      case rel => exact ⟨k + 1, ⟨⟨mkind, n1, (r1 : Int), first, last, commit⟩, vo, vc, votes, so, sc, batches, pl, po, pc⟩, s3, by omega, by go_num, HMK.out, HT9.out, T5.out⟩
      case measure => simp [intOf]; omega
    · have p0 : wr.cell? ⟨gF, k, none⟩ = some (.int .u8 99) := p
      have HE : Hid (takeF lim (Fs.take (k + 1)) ((mz kind).d, s) = setF lim 99 (mm.d, sk)) := Lib.hid hE
      clear p hE
      have HC := Lib.hid (ruint_any g bs sk.e sk.l lim wr T.out.tb.st.rd)
      obtain ⟨⟨n1, s3⟩, hs3⟩ : ∃ x, sk.uint = x := ⟨_, rfl⟩
      have HS := Lib.hid hs3
      have H1 : Hid ((uintE 10 0 0 sk.e sk.l).1 = n1 ∧ (⟨(uintE 10 0 0 sk.e sk.l).2.1, (uintE 10 0 0 sk.e sk.l).2.2, sk.bad⟩ : St) = s3) := Lib.hid ⟨congrArg Prod.fst hs3, congrArg Prod.snd hs3⟩
      clear hs3
      go_wp2_with fail
      refine HC.out.mono ?_
      rintro r' w3 ⟨rfl, r3, m3'⟩
      have k3 := T.out.tb.st.read r3 m3'
      rw [H1.out.2] at k3
      rw [H1.out.1]
      have m3 := m3'.weaken (S' := [g, tk]) (by simp)
      have T3 := Lib.hid (T.out.read k3 m3)
      clear k3 m3 r3 m3' HC H1 T t0 p0
      rw [← HMM.out] at T3 HE
      have f5 := free_of_block (i := 5) T3.out.tb.b0
      have c5 := cell_of_block (i := 5) T3.out.tb.b0
      unfold mC at c5
      dsimp only at c5
      simp only [List.getElem?_toArray, List.getElem?_cons_succ, List.getElem?_cons_zero] at c5
      have T4 := Lib.hid (T3.out.set (m' := ⟨⟨mkind, bn, br, first, last, n1⟩, vo, vc, votes, so, sc, batches, pl, po, pc⟩) 5 (.int .u64 (n1 : Int)) rfl ⟨T3.out.nm.votes, T3.out.nm.batches, T3.out.nm.snap⟩)
      have HT9 : Hid (takeF lim (Fs.take (k + 1)) ((mz kind).d, s) = (Mm.d ⟨⟨mkind, bn, br, first, last, n1⟩, vo, vc, votes, so, sc, batches, pl, po, pc⟩, s3)) := Lib.hid (by rw [HE.out]; unfold setF Mm.d; rw [if_neg (by decide)]; rw [if_pos rfl]; dsimp only; rw [HS.out])
      go_wp2_with fail
      go_roundw
      case rel => exact ⟨k + 1, ⟨⟨mkind, bn, br, first, last, n1⟩, vo, vc, votes, so, sc, batches, pl, po, pc⟩, s3, by omega, by go_num, HMK.out, HT9.out, T4.out⟩
      case measure => simp [intOf]; omega
    · have p0 : wr.cell? ⟨gF, k, none⟩ = some (.int .u8 102) := p
      have HE : Hid (takeF lim (Fs.take (k + 1)) ((mz kind).d, s) = setF lim 102 (mm.d, sk)) := Lib.hid hE
      clear p hE
      have HC := Lib.hid (ruint_any g bs sk.e sk.l lim wr T.out.tb.st.rd)
      obtain ⟨⟨n1, s3⟩, hs3⟩ : ∃ x, sk.uint = x := ⟨_, rfl⟩
      have HS := Lib.hid hs3
      have H1 : Hid ((uintE 10 0 0 sk.e sk.l).1 = n1 ∧ (⟨(uintE 10 0 0 sk.e sk.l).2.1, (uintE 10 0 0 sk.e sk.l).2.2, sk.bad⟩ : St) = s3) := Lib.hid ⟨congrArg Prod.fst hs3, congrArg Prod.snd hs3⟩
      clear hs3
      go_wp2_with fail
      refine HC.out.mono ?_
      rintro r' w3 ⟨rfl, r3, m3'⟩
      have k3 := T.out.tb.st.read r3 m3'
      rw [H1.out.2] at k3
      rw [H1.out.1]
      have m3 := m3'.weaken (S' := [g, tk]) (by simp)
      have T3 := Lib.hid (T.out.read k3 m3)
      clear k3 m3 r3 m3' HC H1 T t0 p0
      rw [← HMM.out] at T3 HE
      have f3 := free_of_block (i := 3) T3.out.tb.b0
      have c3 := cell_of_block (i := 3) T3.out.tb.b0
      unfold mC at c3
      dsimp only at c3
      simp only [List.getElem?_toArray, List.getElem?_cons_succ, List.getElem?_cons_zero] at c3
      have T4 := Lib.hid (T3.out.set (m' := ⟨⟨mkind, bn, br, n1, last, commit⟩, vo, vc, votes, so, sc, batches, pl, po, pc⟩) 3 (.int .u64 (n1 : Int)) rfl ⟨T3.out.nm.votes, T3.out.nm.batches, T3.out.nm.snap⟩)
      have HT9 : Hid (takeF lim (Fs.take (k + 1)) ((mz kind).d, s) = (Mm.d ⟨⟨mkind, bn, br, n1, last, commit⟩, vo, vc, votes, so, sc, batches, pl, po, pc⟩, s3)) := Lib.hid (by rw [HE.out]; unfold setF Mm.d; rw [if_neg (by decide)]; rw [if_neg (by decide)]; rw [if_pos rfl]; dsimp only; rw [HS.out])
      go_wp2_with fail
      go_roundw
      case rel => exact ⟨k + 1, ⟨⟨mkind, bn, br, n1, last, commit⟩, vo, vc, votes, so, sc, batches, pl, po, pc⟩, s3, by omega, by go_num, HMK.out, HT9.out, T4.out⟩
      case measure => simp [intOf]; omega
    · have p0 : wr.cell? ⟨gF, k, none⟩ = some (.int .u8 108) := p
      have HE : Hid (takeF lim (Fs.take (k + 1)) ((mz kind).d, s) = setF lim 108 (mm.d, sk)) := Lib.hid hE
      clear p hE
      have HC := Lib.hid (ruint_any g bs sk.e sk.l lim wr T.out.tb.st.rd)
      obtain ⟨⟨n1, s3⟩, hs3⟩ : ∃ x, sk.uint = x := ⟨_, rfl⟩
      have HS := Lib.hid hs3
      have H1 : Hid ((uintE 10 0 0 sk.e sk.l).1 = n1 ∧ (⟨(uintE 10 0 0 sk.e sk.l).2.1, (uintE 10 0 0 sk.e sk.l).2.2, sk.bad⟩ : St) = s3) := Lib.hid ⟨congrArg Prod.fst hs3, congrArg Prod.snd hs3⟩
      clear hs3
      go_wp2_with fail
      refine HC.out.mono ?_
      rintro r' w3 ⟨rfl, r3, m3'⟩
      have k3 := T.out.tb.st.read r3 m3'
      rw [H1.out.2] at k3
      rw [H1.out.1]
      have m3 := m3'.weaken (S' := [g, tk]) (by simp)
      have T3 := Lib.hid (T.out.read k3 m3)
      clear k3 m3 r3 m3' HC H1 T t0 p0
      rw [← HMM.out] at T3 HE
      have f4 := free_of_block (i := 4) T3.out.tb.b0
      have c4 := cell_of_block (i := 4) T3.out.tb.b0
      unfold mC at c4
      dsimp only at c4
      simp only [List.getElem?_toArray, List.getElem?_cons_succ, List.getElem?_cons_zero] at c4
      have T4 := Lib.hid (T3.out.set (m' := ⟨⟨mkind, bn, br, first, n1, commit⟩, vo, vc, votes, so, sc, batches, pl, po, pc⟩) 4 (.int .u64 (n1 : Int)) rfl ⟨T3.out.nm.votes, T3.out.nm.batches, T3.out.nm.snap⟩)
      have HT9 : Hid (takeF lim (Fs.take (k + 1)) ((mz kind).d, s) = (Mm.d ⟨⟨mkind, bn, br, first, n1, commit⟩, vo, vc, votes, so, sc, batches, pl, po, pc⟩, s3)) := Lib.hid (by rw [HE.out]; unfold setF Mm.d; rw [if_neg (by decide)]; rw [if_neg (by decide)]; rw [if_neg (by decide)]; rw [if_pos rfl]; dsimp only; rw [HS.out])
      go_wp2_with fail
      go_roundw
      case rel => exact ⟨k + 1, ⟨⟨mkind, bn, br, first, n1, commit⟩, vo, vc, votes, so, sc, batches, pl, po, pc⟩, s3, by omega, by go_num, HMK.out, HT9.out, T4.out⟩
      case measure => simp [intOf]; omega
    · have p0 : wr.cell? ⟨gF, k, none⟩ = some (.int .u8 112) := p
      have HE : Hid (takeF lim (Fs.take (k + 1)) ((mz kind).d, s) = setF lim 112 (mm.d, sk)) := Lib.hid hE
      clear p hE
      have HC := Lib.hid (ttext_any tk g bs lim sk wr T.out.tb.st hl1 hl2)
      obtain ⟨⟨tx, s3⟩, hs3⟩ : ∃ x, sk.text lim = x := ⟨_, rfl⟩
      rw [hs3] at HC
      dsimp only at HC
      have HS := Lib.hid hs3
      clear hs3
      go_wp2_with fail
      refine HC.out.mono ?_
      rintro r' w3 ⟨ao, cap, rfl, nb3, k3, m3⟩
      have T3 := Lib.hid (T.out.read k3 m3)
      have NB3 := Lib.hid (nb3.grow (B' := w.heap.size + 2) (by have := lt_of_block T.out.tb.b1; omega))
      clear nb3
      unfold bsV
      dsimp only
      clear k3 m3 HC T t0 p0
      rw [← HMM.out] at T3 HE
      have f8 := free_of_block (i := 8) T3.out.tb.b0
      have c8 := cell_of_block (i := 8) T3.out.tb.b0
      unfold mC at c8
      dsimp only at c8
      simp only [List.getElem?_toArray, List.getElem?_cons_succ, List.getElem?_cons_zero] at c8
      have T4 := Lib.hid (T3.out.set (m' := ⟨⟨mkind, bn, br, first, last, commit⟩, vo, vc, votes, so, sc, batches, tx, ao, cap⟩) 8 (.slice ao tx.length cap) rfl ⟨T3.out.nm.votes, T3.out.nm.batches, NB3.out⟩)
      have HT9 : Hid (takeF lim (Fs.take (k + 1)) ((mz kind).d, s) = (Mm.d ⟨⟨mkind, bn, br, first, last, commit⟩, vo, vc, votes, so, sc, batches, tx, ao, cap⟩, s3)) := Lib.hid (by rw [HE.out]; unfold setF Mm.d; rw [if_neg (by decide)]; rw [if_neg (by decide)]; rw [if_neg (by decide)]; rw [if_neg (by decide)]; rw [if_pos rfl]; dsimp only; rw [HS.out])
      go_wp2_with fail
      go_roundw
      case rel => exact ⟨k + 1, ⟨⟨mkind, bn, br, first, last, commit⟩, vo, vc, votes, so, sc, batches, tx, ao, cap⟩, s3, by omega, by go_num, HMK.out, HT9.out, T4.out⟩
      case measure => simp [intOf]; omega
    · have p0 : wr.cell? ⟨gF, k, none⟩ = some (.int .u8 115) := p
      have HE : Hid (takeF lim (Fs.take (k + 1)) ((mz kind).d, s) = setF lim 115 (mm.d, sk)) := Lib.hid hE
      clear p hE
      have HC := Lib.hid (rows1_any tk g bs lim sk wr T.out.tb.st hl1 hl2)
      obtain ⟨⟨tx, s3⟩, hs3⟩ : ∃ x, sk.rows 16 (St.text lim) = x := ⟨_, rfl⟩
      rw [hs3] at HC
      dsimp only at HC
      have HS := Lib.hid hs3
      clear hs3
      go_wp2_with fail
      refine HC.out.mono ?_
      rintro r' w3 ⟨ao, nn, cap, bl, rfl, hnn, hbl, nb3, k3, m3⟩
      have T3 := Lib.hid (T.out.read k3 m3)
      subst hnn
      have NB3 := Lib.hid (nb3.grow (B' := w.heap.size + 2) (by have := lt_of_block T.out.tb.b1; omega))
      have HBL := Lib.hid hbl
      clear nb3 hbl
      clear k3 m3 HC T t0 p0
      rw [← HMM.out] at T3 HE
      have f7 := free_of_block (i := 7) T3.out.tb.b0
      have c7 := cell_of_block (i := 7) T3.out.tb.b0
      unfold mC at c7
      dsimp only at c7
      simp only [List.getElem?_toArray, List.getElem?_cons_succ, List.getElem?_cons_zero] at c7
      have T4 := Lib.hid (T3.out.set (m' := ⟨⟨mkind, bn, br, first, last, commit⟩, vo, vc, votes, ao, cap, bl, pl, po, pc⟩) 7 (.slice ao bl.length cap) rfl ⟨T3.out.nm.votes, NB3.out, T3.out.nm.snap⟩)
      have HT9 : Hid (takeF lim (Fs.take (k + 1)) ((mz kind).d, s) = (Mm.d ⟨⟨mkind, bn, br, first, last, commit⟩, vo, vc, votes, ao, cap, bl, pl, po, pc⟩, s3)) := Lib.hid (by rw [HE.out]; unfold setF Mm.d; rw [if_neg (by decide)]; rw [if_neg (by decide)]; rw [if_neg (by decide)]; rw [if_neg (by decide)]; rw [if_neg (by decide)]; rw [if_pos rfl]; dsimp only; rw [HS.out, HBL.out])
      go_wp2_with fail
      go_roundw
      case rel => exact ⟨k + 1, ⟨⟨mkind, bn, br, first, last, commit⟩, vo, vc, votes, ao, cap, bl, pl, po, pc⟩, s3, by omega, by go_num, HMK.out, HT9.out, T4.out⟩
      case measure => simp [intOf]; omega
    · have p0 : wr.cell? ⟨gF, k, none⟩ = some (.int .u8 118) := p
      have HE : Hid (takeF lim (Fs.take (k + 1)) ((mz kind).d, s) = setF lim 118 (mm.d, sk)) := Lib.hid hE
      clear p hE
      have HC := Lib.hid (rows2_any tk g bs lim sk wr T.out.tb.st hl1 hl2)
      obtain ⟨⟨tx, s3⟩, hs3⟩ : ∃ x, sk.rows 256 (St.vote lim) = x := ⟨_, rfl⟩
      rw [hs3] at HC
      dsimp only at HC
      have HS := Lib.hid hs3
      clear hs3
      go_wp2_with fail
      refine HC.out.mono ?_
      rintro r' w3 ⟨ao, nn, cap, bl, rfl, hnn, hbl, nb3, k3, m3⟩
      have T3 := Lib.hid (T.out.read k3 m3)
      subst hnn
      have NB3 := Lib.hid (nb3.grow (B' := w.heap.size + 2) (by have := lt_of_block T.out.tb.b1; omega))
      have HBL := Lib.hid hbl
      clear nb3 hbl
      clear k3 m3 HC T t0 p0
      rw [← HMM.out] at T3 HE
      have f6 := free_of_block (i := 6) T3.out.tb.b0
      have c6 := cell_of_block (i := 6) T3.out.tb.b0
      unfold mC at c6
      dsimp only at c6
      simp only [List.getElem?_toArray, List.getElem?_cons_succ, List.getElem?_cons_zero] at c6
      have T4 := Lib.hid (T3.out.set (m' := ⟨⟨mkind, bn, br, first, last, commit⟩, ao, cap, bl, so, sc, batches, pl, po, pc⟩) 6 (.slice ao bl.length cap) rfl ⟨NB3.out, T3.out.nm.batches, T3.out.nm.snap⟩)
      have HT9 : Hid (takeF lim (Fs.take (k + 1)) ((mz kind).d, s) = (Mm.d ⟨⟨mkind, bn, br, first, last, commit⟩, ao, cap, bl, so, sc, batches, pl, po, pc⟩, s3)) := Lib.hid (by rw [HE.out]; unfold setF Mm.d; rw [if_neg (by decide)]; rw [if_neg (by decide)]; rw [if_neg (by decide)]; rw [if_neg (by decide)]; rw [if_neg (by decide)]; rw [if_neg (by decide)]; rw [if_pos rfl]; dsimp only; rw [HS.out, HBL.out])
      go_wp2_with fail
      go_roundw
      case rel => exact ⟨k + 1, ⟨⟨mkind, bn, br, first, last, commit⟩, ao, cap, bl, so, sc, batches, pl, po, pc⟩, s3, by omega, by go_num, HMK.out, HT9.out, T4.out⟩
      case measure => simp [intOf]; omega
end Go.Proofs.YtekdnljincbghaaDoor
