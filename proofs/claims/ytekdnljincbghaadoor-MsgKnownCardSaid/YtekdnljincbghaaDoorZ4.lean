/- Texts put together (4 of 7): Msg9, Msg10, Msg12, Msg14, RegionU, Msg11. -/
import Derived.Test.YtekdnljincbghaaDoorZ3
import Derived.Deep.CutRange
import Derived.Test.YtekdnljincbghaaDoorZ1
/- The walk of msg.taker.take. -/
namespace Go.Proofs.YtekdnljincbghaaDoor
open Go Go.RowKit Go.Lib

/-- A message, all of the call's own. -/
structure NewM (B : Nat) (w : World) (m : Mm) : Prop where
  votes : NewVs B w m.vo m.vc m.votes
  batches : NewBs B w m.so m.sc m.batches
  snap : NewB B w m.p
theorem NewM.off {B : Nat} {S : List Nat} {w w' : World} {m : Mm} (h : NewM B w m) (k : Mod S w w') (hS : ∀ i, i ∈ S → i < B) : NewM B w' m := ⟨h.votes.off k hS, h.batches.off k hS, h.snap.off k hS⟩
theorem NewM.mod0 {B : Nat} {w w' : World} {m : Mm} (h : NewM B w m) (k : Mod [] w w') : NewM B w' m := h.off k (by simp)
theorem NewM.grow {B B' : Nat} {w : World} {m : Mm} (h : NewM B w m) (hb : B' ≤ B) : NewM B' w m := ⟨h.votes.grow hb, h.batches.grow hb, h.snap.grow hb⟩
theorem NewB.nil (B : Nat) (w : World) : NewB B w ([], none, 0) := ⟨OwnB.nil w, by simp [blk]⟩
/-- A message of a kind, and nothing else. -/
def mz (kind : Nat) : Mm := ⟨⟨kind, 0, 0, 0, 0, 0⟩, none, 0, [], none, 0, [], ([], none, 0)⟩
theorem NewM.mz (B : Nat) (w : World) (kind : Nat) : NewM B w (mz kind) := ⟨NewVs.nil _ _, NewBs.nil _ _, NewB.nil _ _⟩
/-- A field that is read, by its letter. -/
def setF (lim : Int) (c : UInt8) (x : Md × St) : Md × St :=
  if c = 98 then (⟨⟨x.1.h.kind, x.2.ball.1.1, (x.2.ball.1.2 : Int), x.1.h.first, x.1.h.last, x.1.h.commit⟩, x.1.votes, x.1.batches, x.1.snap⟩, x.2.ball.2)
  else if c = 99 then (⟨⟨x.1.h.kind, x.1.h.bn, x.1.h.br, x.1.h.first, x.1.h.last, x.2.uint.1⟩, x.1.votes, x.1.batches, x.1.snap⟩, x.2.uint.2)
  else if c = 102 then (⟨⟨x.1.h.kind, x.1.h.bn, x.1.h.br, x.2.uint.1, x.1.h.last, x.1.h.commit⟩, x.1.votes, x.1.batches, x.1.snap⟩, x.2.uint.2)
  else if c = 108 then (⟨⟨x.1.h.kind, x.1.h.bn, x.1.h.br, x.1.h.first, x.2.uint.1, x.1.h.commit⟩, x.1.votes, x.1.batches, x.1.snap⟩, x.2.uint.2)
  else if c = 112 then (⟨x.1.h, x.1.votes, x.1.batches, (x.2.text lim).1⟩, (x.2.text lim).2)
  else if c = 115 then (⟨x.1.h, x.1.votes, (x.2.rows 16 (St.text lim)).1, x.1.snap⟩, (x.2.rows 16 (St.text lim)).2)
  else if c = 118 then (⟨x.1.h, (x.2.rows 256 (St.vote lim)).1, x.1.batches, x.1.snap⟩, (x.2.rows 256 (St.vote lim)).2)
  else x
def takeF (lim : Int) (l : List UInt8) (x : Md × St) : Md × St := l.foldl (fun x c => setF lim c x) x
theorem takeF_take (lim : Int) (l : List UInt8) (k : Nat) (hk : k < l.length) (x : Md × St) : takeF lim (l.take (k + 1)) x = setF lim l[k] (takeF lim (l.take k) x) := by
  unfold takeF
  rw [List.take_succ_eq_append_getElem hk, List.foldl_append]
  rfl
/-- What is read of a message, in memory, while it is read. -/
structure TF (w : World) (tk g : Nat) (bs : List Nat) (lim : Int) (kind : Nat) (c1 : Array Value) (gF : Nat) (Fs : List UInt8) (m : Mm) (s : St) (wr : World) : Prop where
  tb : TB w tk g bs lim 29 s (mC (.int .u8 (kind : Int)) m) c1 wr
  nm : NewM (w.heap.size + 2) wr m
  fs : Sees wr (some ⟨gF, 0, none⟩) Fs
  lf : w.heap.size + 2 ≤ gF
section
variable {w wr w' : World} {tk g : Nat} {bs : List Nat} {lim : Int} {kind : Nat} {c1 : Array Value} {gF : Nat} {Fs : List UInt8} {m m' : Mm} {s s' : St}
theorem TF.read (h : TF w tk g bs lim kind c1 gF Fs m s wr) (r : TkS w' tk g bs lim s') (k : Mod [g, tk] wr w') : TF w tk g bs lim kind c1 gF Fs m s' w' :=
  ⟨h.tb.read r k, h.nm.off k (fun i hi => by have := h.tb.lt; simp at hi; omega), h.fs.mod k (fun b off e => by cases e; have := h.tb.lt; have := h.lf; simp; omega), h.lf⟩
theorem TF.set (h : TF w tk g bs lim kind c1 gF Fs m s wr) (i : Nat) (v : Value) (he : (mC (.int .u8 (kind : Int)) m).setIfInBounds i v = mC (.int .u8 (kind : Int)) m') (hn : NewM (w.heap.size + 2) wr m') :
    TF w tk g bs lim kind c1 gF Fs m' s (wr.setCell ⟨w.heap.size, i, none⟩ v) := by
  have k : Mod [w.heap.size] wr (wr.setCell ⟨w.heap.size, i, none⟩ v) := Mod.setCell wr _ _ (by simp)
  have h1 := h.tb.set0 i v
  rw [he] at h1
  exact ⟨h1, hn.off k (fun i hi => by simp at hi; omega), h.fs.mod k (fun b off e => by cases e; have := h.lf; simp; omega), h.lf⟩
end

set_option maxRecDepth 100000 in
set_option maxHeartbeats 8000000 in
theorem ttake_any (tk g : Nat) (bs : List Nat) (lim : Int) (s : St) (kind : Nat) (w : World) (h : TkS w tk g bs lim s) (hl1 : -9223372036854775808 ≤ lim) (hl2 : lim ≤ 9223372036854775807) (hkn : Known kind) (hf : Flds w) :
    Calls Tryd.prog 41 #[.pointer (some ⟨tk, 0, none⟩), msgV (mz kind)] w fun e w' => ∃ m s', e = .returned (.agg (mC (.int .u8 (kind : Int)) m)) ∧ m.h.kind = kind ∧ takeF lim (Fl kind) ((mz kind).d, s) = (m.d, s') ∧ NewM w.heap.size w' m ∧ TkS w' tk g bs lim s' ∧ Mod [g, tk] w w' := by
  have hz := h.tlt
  obtain ⟨w1, hw1, T1⟩ := TB.start h 29 (mC (.int .u8 (kind : Int)) (mz kind)) (mC (.int .u8 0) (mz 0))
  have hF : Flds w1 := by rw [← hw1]; exact hf.mod0 ((Mod.alloc [] _ _).trans' (Mod.alloc [] _ _))
  have hkk : kind < 9 := by have := hkn.2; omega
  have f0 := hF kind hkk
  have hk2 : (kind : Int) < 9 := by omega
  have hFi := Fl_in kind (by omega)
  have hFn := Fl_len kind
  obtain ⟨Fs, hFs⟩ : ∃ l, Fl kind = l := ⟨_, rfl⟩
  rw [hFs] at f0 hFi hFn ⊢
  have c0 := cell_of_block (i := 0) T1.b0
  have HT1 := Lib.hid T1
  clear h hF hf hFs T1 hkn
  have hmz : msgV (mz kind) = .agg #[.int .u8 (kind : Int), .int .u64 0, .int .i64 0, .int .u64 0, .int .u64 0, .int .u64 0, .slice none 0 0, .slice none 0 0, .slice none 0 0] := rfl
  have hmz0 : mC (.int .u8 0) (mz 0) = #[.int .u8 0, .int .u64 0, .int .i64 0, .int .u64 0, .int .u64 0, .int .u64 0, .slice none 0 0, .slice none 0 0, .slice none 0 0] := rfl
  have hmz1 : mC (.int .u8 (kind : Int)) (mz kind) = #[.int .u8 (kind : Int), .int .u64 0, .int .i64 0, .int .u64 0, .int .u64 0, .int .u64 0, .slice none 0 0, .slice none 0 0, .slice none 0 0] := rfl
  rw [hmz]
  rw [hmz0, hmz1] at hw1
  rw [hmz1] at c0
  clear hmz hmz1
  obtain ⟨c1, hc1⟩ : ∃ c, mC (.int .u8 0) (mz 0) = c := ⟨_, rfl⟩
  rw [hc1] at HT1 hmz0
  have HC1 := Lib.hid hmz0
  clear hc1 hmz0
  go_enter Tryd.func41, Tryd.ntmps41
  have hFz : (⟨Fs.toArray⟩ : ByteArray).size ≤ 9223372036854775807 := by
    have h : (⟨Fs.toArray⟩ : ByteArray).size = Fs.length := by show Fs.toArray.size = _; simp
    omega
  go_wp2_with (first | (refine wpl_bytes (dst := some 11) _ ⟨Fs.toArray⟩ rfl hFz (by rfl) ?_) | fail)
  intro gF capF w2 oF m2 hg
  have HF2 : Hid (TF w tk g bs lim kind c1 gF Fs (mz kind) s w2) := Lib.hid (by
    have hz1 : w.heap.size + 2 ≤ w1.heap.size := by have := lt_of_block HT1.out.b1; omega
    refine ⟨HT1.out.off m2 (by simp), NewM.mz _ _ _, ?_, by omega⟩
    exact (show Sees w2 (some ⟨gF, 0, none⟩) Fs from oF.sees))
  clear oF m2 hw1 f0 c0 hk2 hFz hg HT1
  go_wp2_with fail
  go_loopw [13] (fun s13 wr => ∃ (k : Nat) (m : Mm) (sk : St), k ≤ Fs.length ∧ s13 = .int .i64 (k : Int) ∧ m.h.kind = kind ∧ takeF lim (Fs.take k) ((mz kind).d, s) = (m.d, sk) ∧ TF w tk g bs lim kind c1 gF Fs m sk wr) (fun s13 _ => Fs.length - (intOf s13).toNat)
  case atStart => exact ⟨0, mz kind, s, Nat.zero_le _, rfl, rfl, rfl, HF2.out⟩
  case round =>
    obtain ⟨k, m, sk, hk, rfl, hmk, htf, hT⟩ := hrel
    rename World => wr
    have T := Lib.hid hT
    have HTF := Lib.hid htf
    have HMK := Lib.hid hmk
    clear hT htf hmk HF2
    by_cases hlt : k < Fs.length
    case neg =>
      have hke : k = Fs.length := by omega
      subst hke
      rw [List.take_length] at HTF
      obtain ⟨⟨mkind, bn, br, first, last, commit⟩, vo, vc, votes, so, sc, batches, pl, po, pc⟩ := m
      dsimp only at HMK
      have HB0 := Lib.hid T.out.tb.b0
      have HB1 := Lib.hid T.out.tb.b1
      rw [HC1.out] at HB1
      unfold mC at HB0
      dsimp only at HB0
      have d0 := cell_of_block (i := 0) HB0.out
      have d1 := cell_of_block (i := 1) HB0.out
      have d2 := cell_of_block (i := 2) HB0.out
      have d3 := cell_of_block (i := 3) HB0.out
      have d4 := cell_of_block (i := 4) HB0.out
      have d5 := cell_of_block (i := 5) HB0.out
      have d6 := cell_of_block (i := 6) HB0.out
      have d7 := cell_of_block (i := 7) HB0.out
      have d8 := cell_of_block (i := 8) HB0.out
      have z0 := cell_of_block (i := 0) HB1.out
      have y0 := free_of_block (i := 0) HB1.out
      have z1 := cell_of_block (i := 1) HB1.out
      have y1 := free_of_block (i := 1) HB1.out
      have z2 := cell_of_block (i := 2) HB1.out
      have y2 := free_of_block (i := 2) HB1.out
      have z3 := cell_of_block (i := 3) HB1.out
      have y3 := free_of_block (i := 3) HB1.out
      have z4 := cell_of_block (i := 4) HB1.out
      have y4 := free_of_block (i := 4) HB1.out
      have z5 := cell_of_block (i := 5) HB1.out
      have y5 := free_of_block (i := 5) HB1.out
      have z6 := cell_of_block (i := 6) HB1.out
      have y6 := free_of_block (i := 6) HB1.out
      have z7 := cell_of_block (i := 7) HB1.out
      have y7 := free_of_block (i := 7) HB1.out
      have z8 := cell_of_block (i := 8) HB1.out
      have y8 := free_of_block (i := 8) HB1.out
      simp only [List.getElem?_toArray, List.getElem?_cons_succ, List.getElem?_cons_zero] at d0 d1 d2 d3 d4 d5 d6 d7 d8 z0 z1 z2 z3 z4 z5 z6 z7 z8
      go_wp2_with fail
      refine bodyPost_ret (by simp [results, Tryd.results41, go_sem, *]; try rfl) rfl ?_
      refine ⟨⟨⟨mkind, bn, br, first, last, commit⟩, vo, vc, votes, so, sc, batches, pl, po, pc⟩, sk, rfl, HMK.out, HTF.out, ?_, ?_, ?_⟩
      · exact (T.out.nm.off (by exact (((((((((Mod.setCell _ _ _ (by simp)).trans' (Mod.setCell _ _ _ (by simp))).trans' (Mod.setCell _ _ _ (by simp))).trans' (Mod.setCell _ _ _ (by simp))).trans' (Mod.setCell _ _ _ (by simp))).trans' (Mod.setCell _ _ _ (by simp))).trans' (Mod.setCell _ _ _ (by simp))).trans' (Mod.setCell _ _ _ (by simp))).trans' (Mod.setCell _ _ _ (by simp)))) (S := [w.heap.size + 1]) (by simp)).grow (by omega)
      · exact T.out.tb.st.mod (by exact (((((((((Mod.setCell _ _ _ (by simp)).trans' (Mod.setCell _ _ _ (by simp))).trans' (Mod.setCell _ _ _ (by simp))).trans' (Mod.setCell _ _ _ (by simp))).trans' (Mod.setCell _ _ _ (by simp))).trans' (Mod.setCell _ _ _ (by simp))).trans' (Mod.setCell _ _ _ (by simp))).trans' (Mod.setCell _ _ _ (by simp))).trans' (Mod.setCell _ _ _ (by simp)))) (S := [w.heap.size + 1]) (by have := hz; simp; omega) (by have := hz; simp; omega) (fun i hi hs => by have := T.out.tb.lt.2.2 i hi; simp at hs; omega)
      · exact T.out.tb.mod.trans (T := [w.heap.size + 1]) (by exact (((((((((Mod.setCell _ _ _ (by simp)).trans' (Mod.setCell _ _ _ (by simp))).trans' (Mod.setCell _ _ _ (by simp))).trans' (Mod.setCell _ _ _ (by simp))).trans' (Mod.setCell _ _ _ (by simp))).trans' (Mod.setCell _ _ _ (by simp))).trans' (Mod.setCell _ _ _ (by simp))).trans' (Mod.setCell _ _ _ (by simp))).trans' (Mod.setCell _ _ _ (by simp)))) (by simp; omega)
    have hlt2 : (k : Int) < (Fs.length : Int) := by omega
    obtain ⟨_, _, e0, p⟩ := T.out.fs k hlt
    cases e0
    rw [Nat.zero_add] at p
    have hE := takeF_take lim Fs k hlt ((mz kind).d, s)
    rw [HTF.out] at hE
    have hci := hFi _ (List.getElem_mem hlt)
    obtain ⟨ch, hch⟩ : ∃ x, Fs[k] = x := ⟨_, rfl⟩
    rw [hch] at p hE hci
    clear hch HTF
    obtain ⟨⟨mkind, bn, br, first, last, commit⟩, vo, vc, votes, so, sc, batches, pl, po, pc⟩ := m
    dsimp only at HMK
    obtain ⟨mm, hmm⟩ : ∃ x, (⟨⟨mkind, bn, br, first, last, commit⟩, vo, vc, votes, so, sc, batches, pl, po, pc⟩ : Mm) = x := ⟨_, rfl⟩
    have HMM := Lib.hid hmm
    rw [hmm] at T hE
    clear hmm
    have t0 := cell_of_block (i := 0) T.out.tb.st.at0
    rcases hci with rfl | rfl | rfl | rfl | rfl | rfl | rfl
    · have p0 : wr.cell? ⟨gF, k, none⟩ = some (.int .u8 98) := p
      have HE : Hid (takeF lim (Fs.take (k + 1)) ((mz kind).d, s) = setF lim 98 (mm.d, sk)) := Lib.hid hE
      clear p hE
      have HC := Lib.hid (tball_any tk g bs lim sk wr T.out.tb.st)
      obtain ⟨⟨⟨n1, r1⟩, s3⟩, hs3⟩ : ∃ x, sk.ball = x := ⟨_, rfl⟩
      rw [hs3] at HC
      dsimp only at HC
      have HS := Lib.hid hs3
      clear hs3
      go_wp2_with fail
      refine HC.out.mono ?_
      rintro r' w3 ⟨rfl, k3, m3⟩
      have T3 := Lib.hid (T.out.read k3 m3)
      clear k3 m3 HC T t0 p0
      rw [← HMM.out] at T3 HE
      have f1 := free_of_block (i := 1) T3.out.tb.b0
      have c1 := cell_of_block (i := 1) T3.out.tb.b0
      have f2 := free_of_block (i := 2) T3.out.tb.b0
      have c2 := cell_of_block (i := 2) T3.out.tb.b0
      unfold mC at c1 c2
      dsimp only at c1 c2
      simp only [List.getElem?_toArray, List.getElem?_cons_succ, List.getElem?_cons_zero] at c1 c2
      have T4 := Lib.hid (T3.out.set (m' := ⟨⟨mkind, n1, br, first, last, commit⟩, vo, vc, votes, so, sc, batches, pl, po, pc⟩) 1 (.int .u64 (n1 : Int)) rfl ⟨T3.out.nm.votes, T3.out.nm.batches, T3.out.nm.snap⟩)
      have T5 := Lib.hid (T4.out.set (m' := ⟨⟨mkind, n1, (r1 : Int), first, last, commit⟩, vo, vc, votes, so, sc, batches, pl, po, pc⟩) 2 (.int .i64 (r1 : Int)) rfl ⟨T4.out.nm.votes, T4.out.nm.batches, T4.out.nm.snap⟩)
      have HT9 : Hid (takeF lim (Fs.take (k + 1)) ((mz kind).d, s) = (Mm.d ⟨⟨mkind, n1, (r1 : Int), first, last, commit⟩, vo, vc, votes, so, sc, batches, pl, po, pc⟩, s3)) := Lib.hid (by rw [HE.out]; unfold setF Mm.d; rw [if_pos rfl]; dsimp only; rw [HS.out])
      go_wp2_with fail
      go_roundw
      case rel => exact ⟨k + 1, ⟨⟨mkind, n1, (r1 : Int), first, last, commit⟩, vo, vc, votes, so, sc, batches, pl, po, pc⟩, s3, by omega, by go_num, HMK.out, HT9.out, T5.out⟩
      case measure => simp [intOf]; omega
    · have p0 : wr.cell? ⟨gF, k, none⟩ = some (.int .u8 99) := p
      have HE : Hid (takeF lim (Fs.take (k + 1)) ((mz kind).d, s) = setF lim 99 (mm.d, sk)) := Lib.hid hE
      clear p hE
      have HC := Lib.hid (ruint_any g bs sk.e sk.l lim wr T.out.tb.st.rd)
      obtain ⟨⟨n1, s3⟩, hs3⟩ : ∃ x, sk.uint = x := ⟨_, rfl⟩
      have HS := Lib.hid hs3
      have H1 : Hid ((uintE 10 0 0 sk.e sk.l).1 = n1 ∧ (⟨(uintE 10 0 0 sk.e sk.l).2.1, (uintE 10 0 0 sk.e sk.l).2.2, sk.bad⟩ : St) = s3) := Lib.hid ⟨congrArg Prod.fst hs3, congrArg Prod.snd hs3⟩
      clear hs3
      go_wp2_with fail
      refine HC.out.mono ?_
      rintro r' w3 ⟨rfl, r3, m3'⟩
      have k3 := T.out.tb.st.read r3 m3'
      rw [H1.out.2] at k3
      rw [H1.out.1]
      have m3 := m3'.weaken (S' := [g, tk]) (by simp)
      have T3 := Lib.hid (T.out.read k3 m3)
      clear k3 m3 r3 m3' HC H1 T t0 p0
      rw [← HMM.out] at T3 HE
      have f5 := free_of_block (i := 5) T3.out.tb.b0
      have c5 := cell_of_block (i := 5) T3.out.tb.b0
      unfold mC at c5
      dsimp only at c5
      simp only [List.getElem?_toArray, List.getElem?_cons_succ, List.getElem?_cons_zero] at c5
      have T4 := Lib.hid (T3.out.set (m' := ⟨⟨mkind, bn, br, first, last, n1⟩, vo, vc, votes, so, sc, batches, pl, po, pc⟩) 5 (.int .u64 (n1 : Int)) rfl ⟨T3.out.nm.votes, T3.out.nm.batches, T3.out.nm.snap⟩)
      have HT9 : Hid (takeF lim (Fs.take (k + 1)) ((mz kind).d, s) = (Mm.d ⟨⟨mkind, bn, br, first, last, n1⟩, vo, vc, votes, so, sc, batches, pl, po, pc⟩, s3)) := Lib.hid (by rw [HE.out]; unfold setF Mm.d; rw [if_neg (by decide)]; rw [if_pos rfl]; dsimp only; rw [HS.out])
      go_wp2_with fail
      go_roundw
      case rel => exact ⟨k + 1, ⟨⟨mkind, bn, br, first, last, n1⟩, vo, vc, votes, so, sc, batches, pl, po, pc⟩, s3, by omega, by go_num, HMK.out, HT9.out, T4.out⟩
      case measure => simp [intOf]; omega
    · have p0 : wr.cell? ⟨gF, k, none⟩ = some (.int .u8 102) := p
      have HE : Hid (takeF lim (Fs.take (k + 1)) ((mz kind).d, s) = setF lim 102 (mm.d, sk)) := Lib.hid hE
      clear p hE
      have HC := Lib.hid (ruint_any g bs sk.e sk.l lim wr T.out.tb.st.rd)
      obtain ⟨⟨n1, s3⟩, hs3⟩ : ∃ x, sk.uint = x := ⟨_, rfl⟩
      have HS := Lib.hid hs3
      have H1 : Hid ((uintE 10 0 0 sk.e sk.l).1 = n1 ∧ (⟨(uintE 10 0 0 sk.e sk.l).2.1, (uintE 10 0 0 sk.e sk.l).2.2, sk.bad⟩ : St) = s3) := Lib.hid ⟨congrArg Prod.fst hs3, congrArg Prod.snd hs3⟩
      clear hs3
      go_wp2_with fail
      refine HC.out.mono ?_
      rintro r' w3 ⟨rfl, r3, m3'⟩
      have k3 := T.out.tb.st.read r3 m3'
      rw [H1.out.2] at k3
      rw [H1.out.1]
      have m3 := m3'.weaken (S' := [g, tk]) (by simp)
      have T3 := Lib.hid (T.out.read k3 m3)
      clear k3 m3 r3 m3' HC H1 T t0 p0
      rw [← HMM.out] at T3 HE
      have f3 := free_of_block (i := 3) T3.out.tb.b0
      have c3 := cell_of_block (i := 3) T3.out.tb.b0
      unfold mC at c3
      dsimp only at c3
      simp only [List.getElem?_toArray, List.getElem?_cons_succ, List.getElem?_cons_zero] at c3
      have T4 := Lib.hid (T3.out.set (m' := ⟨⟨mkind, bn, br, n1, last, commit⟩, vo, vc, votes, so, sc, batches, pl, po, pc⟩) 3 (.int .u64 (n1 : Int)) rfl ⟨T3.out.nm.votes, T3.out.nm.batches, T3.out.nm.snap⟩)
      have HT9 : Hid (takeF lim (Fs.take (k + 1)) ((mz kind).d, s) = (Mm.d ⟨⟨mkind, bn, br, n1, last, commit⟩, vo, vc, votes, so, sc, batches, pl, po, pc⟩, s3)) := Lib.hid (by rw [HE.out]; unfold setF Mm.d; rw [if_neg (by decide)]; rw [if_neg (by decide)]; rw [if_pos rfl]; dsimp only; rw [HS.out])
      go_wp2_with fail
      go_roundw
      case rel => exact ⟨k + 1, ⟨⟨mkind, bn, br, n1, last, commit⟩, vo, vc, votes, so, sc, batches, pl, po, pc⟩, s3, by omega, by go_num, HMK.out, HT9.out, T4.out⟩
      case measure => simp [intOf]; omega
    · have p0 : wr.cell? ⟨gF, k, none⟩ = some (.int .u8 108) := p
      have HE : Hid (takeF lim (Fs.take (k + 1)) ((mz kind).d, s) = setF lim 108 (mm.d, sk)) := Lib.hid hE
      clear p hE
      have HC := Lib.hid (ruint_any g bs sk.e sk.l lim wr T.out.tb.st.rd)
      obtain ⟨⟨n1, s3⟩, hs3⟩ : ∃ x, sk.uint = x := ⟨_, rfl⟩
      have HS := Lib.hid hs3
      have H1 : Hid ((uintE 10 0 0 sk.e sk.l).1 = n1 ∧ (⟨(uintE 10 0 0 sk.e sk.l).2.1, (uintE 10 0 0 sk.e sk.l).2.2, sk.bad⟩ : St) = s3) := Lib.hid ⟨congrArg Prod.fst hs3, congrArg Prod.snd hs3⟩
      clear hs3
      go_wp2_with fail
      refine HC.out.mono ?_
      rintro r' w3 ⟨rfl, r3, m3'⟩
      have k3 := T.out.tb.st.read r3 m3'
      rw [H1.out.2] at k3
      rw [H1.out.1]
      have m3 := m3'.weaken (S' := [g, tk]) (by simp)
      have T3 := Lib.hid (T.out.read k3 m3)
      clear k3 m3 r3 m3' HC H1 T t0 p0
      rw [← HMM.out] at T3 HE
      have f4 := free_of_block (i := 4) T3.out.tb.b0
      have c4 := cell_of_block (i := 4) T3.out.tb.b0
      unfold mC at c4
      dsimp only at c4
      simp only [List.getElem?_toArray, List.getElem?_cons_succ, List.getElem?_cons_zero] at c4
      have T4 := Lib.hid (T3.out.set (m' := ⟨⟨mkind, bn, br, first, n1, commit⟩, vo, vc, votes, so, sc, batches, pl, po, pc⟩) 4 (.int .u64 (n1 : Int)) rfl ⟨T3.out.nm.votes, T3.out.nm.batches, T3.out.nm.snap⟩)
      have HT9 : Hid (takeF lim (Fs.take (k + 1)) ((mz kind).d, s) = (Mm.d ⟨⟨mkind, bn, br, first, n1, commit⟩, vo, vc, votes, so, sc, batches, pl, po, pc⟩, s3)) := Lib.hid (by rw [HE.out]; unfold setF Mm.d; rw [if_neg (by decide)]; rw [if_neg (by decide)]; rw [if_neg (by decide)]; rw [if_pos rfl]; dsimp only; rw [HS.out])
      go_wp2_with fail
      go_roundw
      case rel => exact ⟨k + 1, ⟨⟨mkind, bn, br, first, n1, commit⟩, vo, vc, votes, so, sc, batches, pl, po, pc⟩, s3, by omega, by go_num, HMK.out, HT9.out, T4.out⟩
      case measure => simp [intOf]; omega
    · have p0 : wr.cell? ⟨gF, k, none⟩ = some (.int .u8 112) := p
      have HE : Hid (takeF lim (Fs.take (k + 1)) ((mz kind).d, s) = setF lim 112 (mm.d, sk)) := Lib.hid hE
      clear p hE
      have HC := Lib.hid (ttext_any tk g bs lim sk wr T.out.tb.st hl1 hl2)
      obtain ⟨⟨tx, s3⟩, hs3⟩ : ∃ x, sk.text lim = x := ⟨_, rfl⟩
      rw [hs3] at HC
      dsimp only at HC
      have HS := Lib.hid hs3
      clear hs3
      go_wp2_with fail
      refine HC.out.mono ?_
      rintro r' w3 ⟨ao, cap, rfl, nb3, k3, m3⟩
      have T3 := Lib.hid (T.out.read k3 m3)
      have NB3 := Lib.hid (nb3.grow (B' := w.heap.size + 2) (by have := lt_of_block T.out.tb.b1; omega))
      clear nb3
      unfold bsV
      dsimp only
      clear k3 m3 HC T t0 p0
      rw [← HMM.out] at T3 HE
      have f8 := free_of_block (i := 8) T3.out.tb.b0
      have c8 := cell_of_block (i := 8) T3.out.tb.b0
      unfold mC at c8
      dsimp only at c8
      simp only [List.getElem?_toArray, List.getElem?_cons_succ, List.getElem?_cons_zero] at c8
      have T4 := Lib.hid (T3.out.set (m' := ⟨⟨mkind, bn, br, first, last, commit⟩, vo, vc, votes, so, sc, batches, tx, ao, cap⟩) 8 (.slice ao tx.length cap) rfl ⟨T3.out.nm.votes, T3.out.nm.batches, NB3.out⟩)
      have HT9 : Hid (takeF lim (Fs.take (k + 1)) ((mz kind).d, s) = (Mm.d ⟨⟨mkind, bn, br, first, last, commit⟩, vo, vc, votes, so, sc, batches, tx, ao, cap⟩, s3)) := Lib.hid (by rw [HE.out]; unfold setF Mm.d; rw [if_neg (by decide)]; rw [if_neg (by decide)]; rw [if_neg (by decide)]; rw [if_neg (by decide)]; rw [if_pos rfl]; dsimp only; rw [HS.out])
      go_wp2_with fail
      go_roundw
      case rel => exact ⟨k + 1, ⟨⟨mkind, bn, br, first, last, commit⟩, vo, vc, votes, so, sc, batches, tx, ao, cap⟩, s3, by omega, by go_num, HMK.out, HT9.out, T4.out⟩
      case measure => simp [intOf]; omega
    · have p0 : wr.cell? ⟨gF, k, none⟩ = some (.int .u8 115) := p
      have HE : Hid (takeF lim (Fs.take (k + 1)) ((mz kind).d, s) = setF lim 115 (mm.d, sk)) := Lib.hid hE
      clear p hE
      have HC := Lib.hid (rows1_any tk g bs lim sk wr T.out.tb.st hl1 hl2)
      obtain ⟨⟨tx, s3⟩, hs3⟩ : ∃ x, sk.rows 16 (St.text lim) = x := ⟨_, rfl⟩
      rw [hs3] at HC
      dsimp only at HC
      have HS := Lib.hid hs3
      clear hs3
      go_wp2_with fail
      refine HC.out.mono ?_
      rintro r' w3 ⟨ao, nn, cap, bl, rfl, hnn, hbl, nb3, k3, m3⟩
      have T3 := Lib.hid (T.out.read k3 m3)
      subst hnn
      have NB3 := Lib.hid (nb3.grow (B' := w.heap.size + 2) (by have := lt_of_block T.out.tb.b1; omega))
      have HBL := Lib.hid hbl
      clear nb3 hbl
      clear k3 m3 HC T t0 p0
      rw [← HMM.out] at T3 HE
      have f7 := free_of_block (i := 7) T3.out.tb.b0
      have c7 := cell_of_block (i := 7) T3.out.tb.b0
      unfold mC at c7
      dsimp only at c7
      simp only [List.getElem?_toArray, List.getElem?_cons_succ, List.getElem?_cons_zero] at c7
      have T4 := Lib.hid (T3.out.set (m' := ⟨⟨mkind, bn, br, first, last, commit⟩, vo, vc, votes, ao, cap, bl, pl, po, pc⟩) 7 (.slice ao bl.length cap) rfl ⟨T3.out.nm.votes, NB3.out, T3.out.nm.snap⟩)
      have HT9 : Hid (takeF lim (Fs.take (k + 1)) ((mz kind).d, s) = (Mm.d ⟨⟨mkind, bn, br, first, last, commit⟩, vo, vc, votes, ao, cap, bl, pl, po, pc⟩, s3)) := Lib.hid (by rw [HE.out]; unfold setF Mm.d; rw [if_neg (by decide)]; rw [if_neg (by decide)]; rw [if_neg (by decide)]; rw [if_neg (by decide)]; rw [if_neg (by decide)]; rw [if_pos rfl]; dsimp only; rw [HS.out, HBL.out])
      go_wp2_with fail
      go_roundw
      case rel => exact ⟨k + 1, ⟨⟨mkind, bn, br, first, last, commit⟩, vo, vc, votes, ao, cap, bl, pl, po, pc⟩, s3, by omega, by go_num, HMK.out, HT9.out, T4.out⟩
      case measure => simp [intOf]; omega
    · have p0 : wr.cell? ⟨gF, k, none⟩ = some (.int .u8 118) := p
      have HE : Hid (takeF lim (Fs.take (k + 1)) ((mz kind).d, s) = setF lim 118 (mm.d, sk)) := Lib.hid hE
      clear p hE
      have HC := Lib.hid (rows2_any tk g bs lim sk wr T.out.tb.st hl1 hl2)
      obtain ⟨⟨tx, s3⟩, hs3⟩ : ∃ x, sk.rows 256 (St.vote lim) = x := ⟨_, rfl⟩
      rw [hs3] at HC
      dsimp only at HC
      have HS := Lib.hid hs3
      clear hs3
      go_wp2_with fail
      refine HC.out.mono ?_
      rintro r' w3 ⟨ao, nn, cap, bl, rfl, hnn, hbl, nb3, k3, m3⟩
      have T3 := Lib.hid (T.out.read k3 m3)
      subst hnn
      have NB3 := Lib.hid (nb3.grow (B' := w.heap.size + 2) (by have := lt_of_block T.out.tb.b1; omega))
      have HBL := Lib.hid hbl
      clear nb3 hbl
      clear k3 m3 HC T t0 p0
      rw [← HMM.out] at T3 HE
      have f6 := free_of_block (i := 6) T3.out.tb.b0
      have c6 := cell_of_block (i := 6) T3.out.tb.b0
      unfold mC at c6
      dsimp only at c6
      simp only [List.getElem?_toArray, List.getElem?_cons_succ, List.getElem?_cons_zero] at c6
      have T4 := Lib.hid (T3.out.set (m' := ⟨⟨mkind, bn, br, first, last, commit⟩, ao, cap, bl, so, sc, batches, pl, po, pc⟩) 6 (.slice ao bl.length cap) rfl ⟨NB3.out, T3.out.nm.batches, T3.out.nm.snap⟩)
      have HT9 : Hid (takeF lim (Fs.take (k + 1)) ((mz kind).d, s) = (Mm.d ⟨⟨mkind, bn, br, first, last, commit⟩, ao, cap, bl, so, sc, batches, pl, po, pc⟩, s3)) := Lib.hid (by rw [HE.out]; unfold setF Mm.d; rw [if_neg (by decide)]; rw [if_neg (by decide)]; rw [if_neg (by decide)]; rw [if_neg (by decide)]; rw [if_neg (by decide)]; rw [if_neg (by decide)]; rw [if_pos rfl]; dsimp only; rw [HS.out, HBL.out])
      go_wp2_with fail
      go_roundw
      case rel => exact ⟨k + 1, ⟨⟨mkind, bn, br, first, last, commit⟩, ao, cap, bl, so, sc, batches, pl, po, pc⟩, s3, by omega, by go_num, HMK.out, HT9.out, T4.out⟩
      case measure => simp [intOf]; omega
end Go.Proofs.YtekdnljincbghaaDoor
/- What is read of a message holds what its types hold; bytes.Equal. -/
namespace Go.Proofs.YtekdnljincbghaaDoor
open Go Go.RowKit Go.Lib

/-- Numbers that the types hold. -/
def NumD (d : Md) : Prop := WfH d.h ∧ ∀ v ∈ d.votes, WfV v.1
theorem uint_lt (s : St) : s.uint.1 < 18446744073709551616 := uintE_lt s.e s.l
theorem ball_lt (s : St) : s.ball.1.1 < 18446744073709551616 ∧ s.ball.1.2 < 7 := by
  have h1 := uintE_lt s.e s.l
  unfold St.ball takeB
  dsimp only
  split
  · exact ⟨by dsimp only; omega, by dsimp only; omega⟩
  · split
    · exact ⟨by dsimp only; omega, by dsimp only; omega⟩
    · exact ⟨h1, by dsimp only; omega⟩
theorem vote_num (lim : Int) (s : St) : WfV (s.vote lim).1.1 := by
  have h1 := uint_lt s
  have h2 := ball_lt s.uint.2
  unfold St.vote WfV
  dsimp only
  omega
theorem rep_num {α : Type} (p : α → Prop) (f : St → α × St) (h : ∀ s, p (f s).1) (k : Nat) (s : St) : ∀ x ∈ (St.rep f k s).1, p x := by
  induction k with
  | zero => simp [St.rep]
  | succ k ih =>
    intro x hx
    rw [rep_succ] at hx
    rcases List.mem_append.1 hx with h1 | h1
    · exact ih x h1
    · simp only [List.mem_singleton] at h1
      subst h1
      exact h _
theorem rows_num (lim : Int) (s : St) : ∀ v ∈ (s.rows 256 (St.vote lim)).1, WfV v.1 := by
  unfold St.rows
  split
  · simp
  · exact rep_num (fun v : Vd × List UInt8 => WfV v.1) _ (vote_num lim) _ _
theorem rows_len {α : Type} (most : Nat) (f : St → α × St) (s : St) : (s.rows most f).1.length ≤ most := by
  unfold St.rows
  split
  · simp
  · rw [rep_len]
    omega
theorem setF_num (lim : Int) (c : UInt8) (x : Md × St) (h : NumD x.1) : NumD (setF lim c x).1 := by
  obtain ⟨⟨a1, a2, a3, a4, a5, a6⟩, hv⟩ := h
  have h1 := uint_lt x.2
  have h2 := ball_lt x.2
  unfold setF
  repeat' split
  · exact ⟨⟨a1, by dsimp only; omega, by dsimp only; omega, a4, a5, a6⟩, hv⟩
  · exact ⟨⟨a1, a2, a3, a4, a5, h1⟩, hv⟩
  · exact ⟨⟨a1, a2, a3, h1, a5, a6⟩, hv⟩
  · exact ⟨⟨a1, a2, a3, a4, h1, a6⟩, hv⟩
  · exact ⟨⟨a1, a2, a3, a4, a5, a6⟩, hv⟩
  · exact ⟨⟨a1, a2, a3, a4, a5, a6⟩, hv⟩
  · exact ⟨⟨a1, a2, a3, a4, a5, a6⟩, rows_num lim x.2⟩
  · exact ⟨⟨a1, a2, a3, a4, a5, a6⟩, hv⟩
theorem takeF_num (lim : Int) : ∀ (l : List UInt8) (x : Md × St), NumD x.1 → NumD (takeF lim l x).1 := by
  intro l
  induction l with
  | nil => intro x h; exact h
  | cons c l ih => intro x h; exact ih _ (setF_num lim c x h)
theorem setF_kind (lim : Int) (c : UInt8) (x : Md × St) : (setF lim c x).1.h.kind = x.1.h.kind := by
  unfold setF
  repeat' split
  all_goals rfl
theorem takeF_kind (lim : Int) : ∀ (l : List UInt8) (x : Md × St), (takeF lim l x).1.h.kind = x.1.h.kind := by
  intro l
  induction l with
  | nil => intro x; rfl
  | cons c l ih =>
    intro x
    show (takeF lim l (setF lim c x)).1.h.kind = _
    rw [ih, setF_kind]
theorem own_max {w : World} {e : TypeId} {z n c : Nat} {ao : Option Addr} {xs : List Value} (h : Own w e z ao n c xs) : n ≤ c ∧ c ≤ 9223372036854775807 := by
  refine ⟨h.le, ?_⟩
  rcases h.2 with ⟨_, _, rfl⟩ | ⟨g, cur, fz, rfl, hg, hz, hn, hm, _⟩
  · omega
  · unfold maxLen at hm
    omega
theorem NewB.wf {B : Nat} {w : World} {b : Bs} (h : NewB B w b) : WfB b := own_max h.1
theorem NewM.wf {B : Nat} {w : World} {m : Mm} (h : NewM B w m) (hn : NumD m.d) : WfM m := by
  refine ⟨hn.1, ?_, fun v hv => ⟨?_, (h.votes.el v hv).wf⟩, ?_, fun b hb => (h.batches.el b hb).wf, h.snap.wf⟩
  · have := own_max h.votes.own
    omega
  · exact hn.2 (v.1, v.2.1) (List.mem_map.2 ⟨v, hv, rfl⟩)
  · have := own_max h.batches.own
    omega
theorem NewVs.sees {B : Nat} {w : World} {so : Option Addr} {sc : Nat} {l : List Vm} (h : NewVs B w so sc l) : SeesVs w so l := by
  intro j hj
  obtain ⟨g, h1, h2⟩ := h.own.at' hj
  refine ⟨g, 0, h1, ⟨?_, ?_, ?_, ?_⟩, (h.el _ (List.getElem_mem hj)).1.sees⟩
  all_goals rw [Nat.zero_add]
  · exact (h2 0 _ (by omega) rfl).1
  · exact (h2 1 _ (by omega) rfl).1
  · exact (h2 2 _ (by omega) rfl).1
  · exact (h2 3 _ (by omega) rfl).1
theorem NewBs.sees {B : Nat} {w : World} {so : Option Addr} {sc : Nat} {l : List Bs} (h : NewBs B w so sc l) : SeesBs w so l := by
  intro j hj
  obtain ⟨g, h1, h2, _⟩ := h.own.at' hj
  exact ⟨g, 0, h1, by rw [Nat.zero_add]; exact h2, (h.el _ (List.getElem_mem hj)).1.sees⟩
theorem NewM.sees {B : Nat} {w : World} {m : Mm} (h : NewM B w m) : SeesM w m := ⟨h.votes.sees, h.batches.sees, h.snap.1.sees⟩

theorem bequal_any (ao bo : Option Addr) (n m c d : Nat) (a b : List UInt8) (w : World) (ha : a.length = n) (hb : b.length = m) (h1 : Sees w ao a) (h2 : Sees w bo b) :
    Calls Tryd.prog 38 #[.slice ao n c, .slice bo m d] w fun e w' => e = .returned (.bool (decide (a = b))) ∧ w' = w := by
  subst ha
  subst hb
  have H1 := Lib.hid h1
  have H2 := Lib.hid h2
  clear h1 h2
  have hd : (a == b) = decide (a = b) := by
    by_cases h : a = b
    · subst h
      simp
    · rw [decide_eq_false h, beq_eq_false_iff_ne]
      exact h
  obtain ⟨q, hq⟩ : ∃ q, (a == b) = q := ⟨_, rfl⟩
  have HQ : Hid (decide (a = b) = q) := Lib.hid (by rw [← hd, hq])
  clear hd
  go_enter Tryd.func38, Tryd.ntmps38
  go_wp2_with (first | (refine wpl_str (dst := some 6) _ ao _ c a rfl rfl H1.out (by rfl) ?_) | (refine wpl_str (dst := some 8) _ bo _ d b rfl rfl H2.out (by rfl) ?_) | fail)
  go_ret
  exact ⟨by rw [HQ.out]; rfl, rfl⟩
end Go.Proofs.YtekdnljincbghaaDoor
/- Whether two messages are alike: the walks of slices.EqualFunc and msg.Same. -/
namespace Go.Proofs.YtekdnljincbghaaDoor
open Go Go.RowKit Go.Lib

theorem take_eq_step {α : Type} [DecidableEq α] (a b : List α) (k : Nat) (h1 : k < a.length) (h2 : k < b.length) (h : a.take k = b.take k) : (a.take (k + 1) = b.take (k + 1)) ↔ a[k] = b[k] := by
  rw [List.take_succ_eq_append_getElem h1, List.take_succ_eq_append_getElem h2, h]
  constructor
  · intro h'
    have := List.append_cancel_left h'
    simpa using this
  · intro h'
    rw [h']
theorem dB_get (l : List Bs) (k : Nat) (h : k < l.length) (h' : k < (dB l).length) : (dB l)[k] = l[k].1 := List.getElem_map _
theorem dV_get (l : List Vm) (k : Nat) (h : k < l.length) (h' : k < (dV l).length) : (dV l)[k] = (l[k].1, l[k].2.1) := List.getElem_map _
set_option maxRecDepth 100000 in
theorem eqBs_any (so so' : Option Addr) (n n' c c' : Nat) (l l' : List Bs) (w : World) (hl : l.length = n) (hl' : l'.length = n') (hn : n ≤ 9223372036854775807) (hn' : n' ≤ 9223372036854775807) (h1 : SeesBs w so l) (h2 : SeesBs w so' l') :
    Calls Tryd.prog 48 #[.slice so n c, .slice so' n' c', .func (.func 38) #[] #[]] w fun e w' => e = .returned (.bool (decide (dB l = dB l'))) ∧ Mod [] w w' := by
  have H1 := Lib.hid h1
  have H2 := Lib.hid h2
  have HL := Lib.hid hl
  have HL' := Lib.hid hl'
  clear h1 h2
  by_cases hne : n = n'
  case neg =>
    have hno : ¬ dB l = dB l' := fun h => hne (by have := congrArg List.length h; rw [dB_length, dB_length] at this; omega)
    rw [decide_eq_false hno]
    have D : ((n : Int) != (n' : Int)) = true := by simp; omega
    clear hno hl hl' hne
    go_enter Tryd.func48, Tryd.ntmps48
    go_wp2_with fail
    go_ret
    exact ⟨rfl, Mod.refl _ _⟩
  subst hne
  clear hl hl'
  obtain ⟨mb, hmb⟩ : ∃ b, decide (dB l = dB l') = b := ⟨_, rfl⟩
  rw [hmb]
  have HV := Lib.hid hmb
  clear hmb
  go_enter Tryd.func48, Tryd.ntmps48
  go_wp2_with fail
  go_loopw [17] (fun s17 wr => ∃ k : Nat, k ≤ n ∧ s17 = .int .i64 (k : Int) ∧ (dB l).take k = (dB l').take k ∧ Mod [] w wr) (fun s17 _ => n - (intOf s17).toNat)
  case atStart => exact ⟨0, Nat.zero_le _, rfl, rfl, Mod.refl _ _⟩
  case round =>
    obtain ⟨k, hk, rfl, hall, hm⟩ := hrel
    rename World => wr
    have HA := Lib.hid hall
    have HM := Lib.hid hm
    clear hall hm
    by_cases hlt : k < n
    case neg =>
      have hke : k = n := by omega
      have HH : Hid (mb = true) := Lib.hid (by
        rw [← HV.out]
        have h := HA.out
        rw [List.take_of_length_le (by rw [dB_length, HL.out]; omega), List.take_of_length_le (by rw [dB_length, HL'.out]; omega)] at h
        exact decide_eq_true h)
      subst hke
      clear HA
      go_wp2_with fail
      go_ret
      exact ⟨by rw [HH.out]; rfl, HM.out⟩
    have hlt3 : (k : Int) < (n : Int) := by omega
    have g1 : k < l.length := by rw [HL.out]; exact hlt
    have g2 : k < l'.length := by rw [HL'.out]; exact hlt
    have d1 : k < (dB l).length := by rw [dB_length]; exact g1
    have d2 : k < (dB l').length := by rw [dB_length]; exact g2
    obtain ⟨b, off, rfl, hb⟩ := H1.out.batch g1
    obtain ⟨b', off', rfl, hb'⟩ := H2.out.batch g2
    obtain ⟨p0, p1⟩ := hb wr HM.out
    obtain ⟨q0, q1⟩ := hb' wr HM.out
    have hst := take_eq_step (dB l) (dB l') k d1 d2 HA.out
    have e1 := dB_get l k g1 d1
    have e2 := dB_get l' k g2 d2
    rw [e1, e2] at hst
    obtain ⟨⟨x, xo, xc⟩, hx⟩ : ∃ x, l[k] = x := ⟨_, rfl⟩
    obtain ⟨⟨y, yo, yc⟩, hy⟩ : ∃ x, l'[k] = x := ⟨_, rfl⟩
    rw [hx] at p0 p1 hst
    rw [hy] at q0 q1 hst
    dsimp only at p0 p1 q0 q1 hst
    have HST := Lib.hid hst
    have HC := Lib.hid (bequal_any xo yo x.length y.length xc yc x y wr rfl rfl p1 q1)
    obtain ⟨q, hq⟩ : ∃ q, decide (x = y) = q := ⟨_, rfl⟩
    rw [hq] at HC
    have HQ := Lib.hid hq
    clear hb hb' p1 q1 hst e1 e2 hx hy hq g1 g2 d1 d2
    go_wp2_with fail
    refine HC.out.mono ?_
    rintro e w2 ⟨rfl, rfl⟩
    cases q
    case false =>
      have HH : Hid (mb = false) := Lib.hid (by
        rw [← HV.out]
        refine decide_eq_false (fun h => of_decide_eq_false HQ.out (HST.out.1 ?_))
        rw [h])
      clear HC HST HQ
      go_wp2_with fail
      go_ret
      exact ⟨by rw [HH.out]; rfl, HM.out⟩
    have HA2 := Lib.hid (HST.out.2 (of_decide_eq_true HQ.out))
    clear HC HST HQ
    go_wp2_with fail
    go_roundw
    case rel => exact ⟨k + 1, by omega, by go_num, HA2.out, HM.out⟩
    case measure => simp [intOf]; omega
def voteV (v : Vm) : Value := .agg #[.int .u64 (v.1.slot : Int), .int .u64 (v.1.n : Int), .int .i64 v.1.r, .slice v.2.2.1 v.2.1.length v.2.2.2]
set_option maxRecDepth 100000 in
theorem sameV_any (x y : Vm) (w : World) (h1 : Sees w x.2.2.1 x.2.1) (h2 : Sees w y.2.2.1 y.2.1) :
    Calls Tryd.prog 47 #[voteV x, voteV y] w fun e w' => e = .returned (.bool (decide ((x.1, x.2.1) = (y.1, y.2.1)))) ∧ Mod [] w w' := by
  obtain ⟨⟨sl, n, r⟩, l, lo, lc⟩ := x
  obtain ⟨⟨sl', n', r'⟩, l', lo', lc'⟩ := y
  dsimp only at h1 h2 ⊢
  unfold voteV
  dsimp only
  have hiff : (((⟨sl, n, r⟩ : Vd), l) = ((⟨sl', n', r'⟩ : Vd), l')) ↔ (sl = sl' ∧ n = n' ∧ r = r' ∧ l = l') := by
    simp only [Prod.mk.injEq, Vd.mk.injEq]
    constructor
    · rintro ⟨⟨a, b, c⟩, d⟩; exact ⟨a, b, c, d⟩
    · rintro ⟨a, b, c, d⟩; exact ⟨⟨a, b, c⟩, d⟩
  obtain ⟨q, hq⟩ : ∃ q, decide (((⟨sl, n, r⟩ : Vd), l) = ((⟨sl', n', r'⟩ : Vd), l')) = q := ⟨_, rfl⟩
  rw [hq]
  have hqi : q = true ↔ (sl = sl' ∧ n = n' ∧ r = r' ∧ l = l') := by rw [← hq, decide_eq_true_eq]; exact hiff
  have HQ := Lib.hid hqi
  clear hq hiff hqi
  have ma := Mod.alloc [] w (.cells #[.int .u64 (sl : Int), .int .u64 (n : Int), .int .i64 r, .slice lo l.length lc] 52)
  have ha := heap_alloc_new w (.cells #[.int .u64 (sl : Int), .int .u64 (n : Int), .int .i64 r, .slice lo l.length lc] 52)
  obtain ⟨wa, hwa⟩ : ∃ x, w.alloc (.cells #[.int .u64 (sl : Int), .int .u64 (n : Int), .int .i64 r, .slice lo l.length lc] 52) = x := ⟨_, rfl⟩
  rw [hwa] at ma ha
  have mb := Mod.alloc [] wa (.cells #[.int .u64 (sl' : Int), .int .u64 (n' : Int), .int .i64 r', .slice lo' l'.length lc'] 52)
  have hb := heap_alloc_new wa (.cells #[.int .u64 (sl' : Int), .int .u64 (n' : Int), .int .i64 r', .slice lo' l'.length lc'] 52)
  obtain ⟨wb, hwb⟩ : ∃ x, wa.alloc (.cells #[.int .u64 (sl' : Int), .int .u64 (n' : Int), .int .i64 r', .slice lo' l'.length lc'] 52) = x := ⟨_, rfl⟩
  rw [hwb] at mb hb
  have ha2 := mb.get ha List.not_mem_nil
  have M := Lib.hid (ma.trans' mb)
  have HC := Lib.hid (bequal_any lo lo' l.length l'.length lc lc' l l' wb rfl rfl (h1.mod0 M.out) (h2.mod0 M.out))
  have a0 := cell_of_block (i := 0) ha2
  have a1 := cell_of_block (i := 1) ha2
  have a2 := cell_of_block (i := 2) ha2
  have a3 := cell_of_block (i := 3) ha2
  have b0 := cell_of_block (i := 0) hb
  have b1 := cell_of_block (i := 1) hb
  have b2 := cell_of_block (i := 2) hb
  have b3 := cell_of_block (i := 3) hb
  simp only [List.getElem?_toArray, List.getElem?_cons_succ, List.getElem?_cons_zero] at a0 a1 a2 a3 b0 b1 b2 b3
  clear h1 h2 ma mb ha hb ha2
  go_enter Tryd.func47, Tryd.ntmps47
  by_cases e1 : sl = sl'
  case neg =>
    have D : ((sl : Int) == (sl' : Int)) = false := by simp; omega
    have HH : Hid (q = false) := Lib.hid (by cases q; rfl; exact absurd (HQ.out.1 rfl).1 e1)
    clear e1
    go_wp2_with fail
    go_ret
    exact ⟨by rw [HH.out]; rfl, M.out⟩
  subst e1
  by_cases e2 : n = n'
  case neg =>
    have D : ((n : Int) == (n' : Int)) = false := by simp; omega
    have D2 : ((n : Int) = (n' : Int)) = False := by simp; omega
    have D3 : (n = n') = False := by simp; omega
    have HH : Hid (q = false) := Lib.hid (by cases q; rfl; exact absurd (HQ.out.1 rfl).2.1 e2)
    clear e2
    go_wp2_with fail
    go_ret
    exact ⟨by rw [HH.out]; rfl, M.out⟩
  subst e2
  by_cases e3 : r = r'
  case neg =>
    have D : (r == r') = false := by simp; omega
    have D3 : (r = r') = False := by simp; omega
    have HH : Hid (q = false) := Lib.hid (by cases q; rfl; exact absurd (HQ.out.1 rfl).2.2.1 e3)
    clear e3
    go_wp2_with fail
    go_ret
    exact ⟨by rw [HH.out]; rfl, M.out⟩
  subst e3
  obtain ⟨p, hp⟩ : ∃ p, decide (l = l') = p := ⟨_, rfl⟩
  rw [hp] at HC
  have HH : Hid (q = p) := Lib.hid (by
    cases p
    · cases q
      · rfl
      · exact absurd (HQ.out.1 rfl).2.2.2 (of_decide_eq_false hp)
    · exact HQ.out.2 ⟨rfl, rfl, rfl, of_decide_eq_true hp⟩)
  clear hp
  go_wp2_with fail
  refine HC.out.mono ?_
  rintro e w2 ⟨rfl, rfl⟩
  go_wp2_with fail
  go_ret
  exact ⟨by rw [HH.out]; rfl, M.out⟩
set_option maxRecDepth 100000 in
theorem eqVs_any (so so' : Option Addr) (n n' c c' : Nat) (l l' : List Vm) (w : World) (hl : l.length = n) (hl' : l'.length = n') (hn : n ≤ 9223372036854775807) (hn' : n' ≤ 9223372036854775807) (h1 : SeesVs w so l) (h2 : SeesVs w so' l') :
    Calls Tryd.prog 46 #[.slice so n c, .slice so' n' c', .func (.func 47) #[] #[]] w fun e w' => e = .returned (.bool (decide (dV l = dV l'))) ∧ Mod [] w w' := by
  have H1 := Lib.hid h1
  have H2 := Lib.hid h2
  have HL := Lib.hid hl
  have HL' := Lib.hid hl'
  clear h1 h2
  by_cases hne : n = n'
  case neg =>
    have hno : ¬ dV l = dV l' := fun h => hne (by have := congrArg List.length h; rw [dV_length, dV_length] at this; omega)
    rw [decide_eq_false hno]
    have D : ((n : Int) != (n' : Int)) = true := by simp; omega
    clear hno hl hl' hne
    go_enter Tryd.func46, Tryd.ntmps46
    go_wp2_with fail
    go_ret
    exact ⟨rfl, Mod.refl _ _⟩
  subst hne
  clear hl hl'
  obtain ⟨mb, hmb⟩ : ∃ b, decide (dV l = dV l') = b := ⟨_, rfl⟩
  rw [hmb]
  have HV := Lib.hid hmb
  clear hmb
  go_enter Tryd.func46, Tryd.ntmps46
  go_wp2_with fail
  go_loopw [17] (fun s17 wr => ∃ k : Nat, k ≤ n ∧ s17 = .int .i64 (k : Int) ∧ (dV l).take k = (dV l').take k ∧ Mod [] w wr) (fun s17 _ => n - (intOf s17).toNat)
  case atStart => exact ⟨0, Nat.zero_le _, rfl, rfl, Mod.refl _ _⟩
  case round =>
    obtain ⟨k, hk, rfl, hall, hm⟩ := hrel
    rename World => wr
    have HA := Lib.hid hall
    have HM := Lib.hid hm
    clear hall hm
    by_cases hlt : k < n
    case neg =>
      have hke : k = n := by omega
      have HH : Hid (mb = true) := Lib.hid (by
        rw [← HV.out]
        have h := HA.out
        rw [List.take_of_length_le (by rw [dV_length, HL.out]; omega), List.take_of_length_le (by rw [dV_length, HL'.out]; omega)] at h
        exact decide_eq_true h)
      subst hke
      clear HA
      go_wp2_with fail
      go_ret
      exact ⟨by rw [HH.out]; rfl, HM.out⟩
    have hlt3 : (k : Int) < (n : Int) := by omega
    have g1 : k < l.length := by rw [HL.out]; exact hlt
    have g2 : k < l'.length := by rw [HL'.out]; exact hlt
    have d1 : k < (dV l).length := by rw [dV_length]; exact g1
    have d2 : k < (dV l').length := by rw [dV_length]; exact g2
    obtain ⟨b, off, rfl, hb⟩ := H1.out.vote g1
    obtain ⟨b', off', rfl, hb'⟩ := H2.out.vote g2
    obtain ⟨p0, p1, p2, p3, ps⟩ := hb wr HM.out
    obtain ⟨q0, q1, q2, q3, qs⟩ := hb' wr HM.out
    have hst := take_eq_step (dV l) (dV l') k d1 d2 HA.out
    have e1 := dV_get l k g1 d1
    have e2 := dV_get l' k g2 d2
    rw [e1, e2] at hst
    obtain ⟨⟨⟨sl, n1, r1⟩, x, xo, xc⟩, hx⟩ : ∃ x, l[k] = x := ⟨_, rfl⟩
    obtain ⟨⟨⟨sl', n1', r1'⟩, y, yo, yc⟩, hy⟩ : ∃ x, l'[k] = x := ⟨_, rfl⟩
    rw [hx] at p0 p1 p2 p3 ps hst
    rw [hy] at q0 q1 q2 q3 qs hst
    dsimp only at p0 p1 p2 p3 ps q0 q1 q2 q3 qs hst
    have HST := Lib.hid hst
    have ma := Mod.alloc [] wr (.cells #[.int .u64 (sl : Int), .int .u64 (n1 : Int), .int .i64 r1, .slice xo x.length xc] 52)
    have ha := heap_alloc_new wr (.cells #[.int .u64 (sl : Int), .int .u64 (n1 : Int), .int .i64 r1, .slice xo x.length xc] 52)
    obtain ⟨wa, hwa⟩ : ∃ x', wr.alloc (.cells #[.int .u64 (sl : Int), .int .u64 (n1 : Int), .int .i64 r1, .slice xo x.length xc] 52) = x' := ⟨_, rfl⟩
    rw [hwa] at ma ha
    have mb := Mod.alloc [] wa (.cells #[.int .u64 (sl' : Int), .int .u64 (n1' : Int), .int .i64 r1', .slice yo y.length yc] 52)
    have hbb := heap_alloc_new wa (.cells #[.int .u64 (sl' : Int), .int .u64 (n1' : Int), .int .i64 r1', .slice yo y.length yc] 52)
    obtain ⟨wb, hwb⟩ : ∃ x', wa.alloc (.cells #[.int .u64 (sl' : Int), .int .u64 (n1' : Int), .int .i64 r1', .slice yo y.length yc] 52) = x' := ⟨_, rfl⟩
    rw [hwb] at mb hbb
    have ha2 := mb.get ha List.not_mem_nil
    have HMB := Lib.hid (HM.out.trans' (ma.trans' mb))
    replace q0 := ma.cell q0 List.not_mem_nil
    replace q1 := ma.cell q1 List.not_mem_nil
    replace q2 := ma.cell q2 List.not_mem_nil
    replace q3 := ma.cell q3 List.not_mem_nil
    replace ps := ps.mod0 (ma.trans' mb)
    replace qs := qs.mod0 (ma.trans' mb)
    have a0 := cell_of_block (i := 0) ha2
    have a1 := cell_of_block (i := 1) ha2
    have a2 := cell_of_block (i := 2) ha2
    have a3 := cell_of_block (i := 3) ha2
    have b0 := cell_of_block (i := 0) hbb
    have b1 := cell_of_block (i := 1) hbb
    have b2 := cell_of_block (i := 2) hbb
    have b3 := cell_of_block (i := 3) hbb
    simp only [List.getElem?_toArray, List.getElem?_cons_succ, List.getElem?_cons_zero] at a0 a1 a2 a3 b0 b1 b2 b3
    clear ma mb ha hbb ha2
    have HC := Lib.hid (sameV_any (⟨sl, n1, r1⟩, x, xo, xc) (⟨sl', n1', r1'⟩, y, yo, yc) wb ps qs)
    unfold voteV at HC
    dsimp only at HC
    obtain ⟨q, hq⟩ : ∃ q, decide (((⟨sl, n1, r1⟩ : Vd), x) = ((⟨sl', n1', r1'⟩ : Vd), y)) = q := ⟨_, rfl⟩
    rw [hq] at HC
    have HQ := Lib.hid hq
    clear hb hb' ps qs hst e1 e2 hx hy hq g1 g2 d1 d2
    go_wp2_with fail
    refine HC.out.mono ?_
    rintro e w2 ⟨rfl, m2⟩
    have HM2 := Lib.hid (HMB.out.trans' m2)
    clear m2 HMB
    cases q
    case false =>
      have HH : Hid (mb = false) := Lib.hid (by
        rw [← HV.out]
        refine decide_eq_false (fun h => of_decide_eq_false HQ.out (HST.out.1 ?_))
        rw [h])
      clear HC HST HQ
      go_wp2_with fail
      go_ret
      exact ⟨by rw [HH.out]; rfl, HM2.out⟩
    have HA2 := Lib.hid (HST.out.2 (of_decide_eq_true HQ.out))
    clear HC HST HQ
    go_wp2_with fail
    go_roundw
    case rel => exact ⟨k + 1, by omega, by go_num, HA2.out, HM2.out⟩
    case measure => simp [intOf]; omega
end Go.Proofs.YtekdnljincbghaaDoor
/- The law's guard: the walk of quoratelaw17.Great. -/
namespace Go.Proofs.YtekdnljincbghaaDoor
open Go Go.RowKit Go.Lib

/-- A message that the guard lets through. -/
structure FineM (m : Mm) : Prop where
  votes : m.votes.length ≤ 300
  vote : ∀ v ∈ m.votes, v.2.1.length ≤ 300
  batches : m.batches.length ≤ 30
  batch : ∀ b ∈ m.batches, b.1.length ≤ 300
  snap : m.p.1.length ≤ 300
theorem FineM.small {m : Mm} (h : FineM m) : SmallM m := ⟨h.votes, fun v hv => Nat.le_trans (h.vote v hv) (by omega), Nat.le_trans h.batches (by omega), fun v hv => Nat.le_trans (h.batch v hv) (by omega), Nat.le_trans h.snap (by omega)⟩
/-- What the guard tells. -/
def GreatR (m : Mm) (e : Ending) : Prop := ∃ q, e = .returned (.bool q) ∧ (q = false → FineM m)
set_option maxRecDepth 100000 in
set_option maxHeartbeats 4000000 in
theorem great17_any (m : Mm) (w : World) (hs : SeesM w m) (hw : WfM m) : Calls Tryd.prog 10 #[msgV m] w fun e w' => GreatR m e ∧ Mod [] w w' := by
  have HR : Hid (GreatR m (.returned (.bool true)) ∧ (FineM m → GreatR m (.returned (.bool false)))) := Lib.hid ⟨⟨true, rfl, fun h => absurd h (by decide)⟩, fun h => ⟨false, rfl, fun _ => h⟩⟩
  have HFI : Hid (m.votes.length ≤ 300 → m.batches.length ≤ 30 → m.p.1.length ≤ 300 → (∀ v ∈ m.votes, v.2.1.length ≤ 300) → (∀ b ∈ m.batches, b.1.length ≤ 300) → FineM m) := Lib.hid (fun a b c d e => ⟨a, d, b, e, c⟩)
  obtain ⟨mm, hmm⟩ : ∃ x, GreatR m = x := ⟨_, rfl⟩
  rw [hmm] at HR ⊢
  clear hmm
  obtain ⟨fm, hfm⟩ : ∃ x, FineM m = x := ⟨_, rfl⟩
  rw [hfm] at HR HFI
  clear hfm
  have l1 := hw.vlen
  have l2 := hw.blen
  have HSV := Lib.hid hs.votes
  have HSB := Lib.hid hs.batches
  obtain ⟨⟨kind, bn, br, first, last, commit⟩, vo, vc, votes, so, sc, batches, pl, po, pc⟩ := m
  dsimp only at l1 l2 HSV HSB HFI
  obtain ⟨vl, hvl⟩ : ∃ n, votes.length = n := ⟨_, rfl⟩
  obtain ⟨bl, hbl⟩ : ∃ n, batches.length = n := ⟨_, rfl⟩
  obtain ⟨sl, hsl⟩ : ∃ n, pl.length = n := ⟨_, rfl⟩
  unfold msgV mC
  dsimp only
  rw [hvl, hbl, hsl] at HFI ⊢
  rw [hvl] at l1
  rw [hbl] at l2
  have HVL := Lib.hid hvl
  have HBL := Lib.hid hbl
  clear hs hw hvl hbl hsl
  have m1 := Mod.alloc [] w (.cells #[.int .u8 (kind : Int), .int .u64 (bn : Int), .int .i64 br, .int .u64 (first : Int), .int .u64 (last : Int), .int .u64 (commit : Int), .slice vo vl vc, .slice so bl sc, .slice po sl pc] 29)
  have hb := heap_alloc_new w (.cells #[.int .u8 (kind : Int), .int .u64 (bn : Int), .int .i64 br, .int .u64 (first : Int), .int .u64 (last : Int), .int .u64 (commit : Int), .slice vo vl vc, .slice so bl sc, .slice po sl pc] 29)
  obtain ⟨w1, hw1⟩ : ∃ x, w.alloc (.cells #[.int .u8 (kind : Int), .int .u64 (bn : Int), .int .i64 br, .int .u64 (first : Int), .int .u64 (last : Int), .int .u64 (commit : Int), .slice vo vl vc, .slice so bl sc, .slice po sl pc] 29) = x := ⟨_, rfl⟩
  rw [hw1] at m1 hb
  have c6 := cell_of_block (i := 6) hb
  have c7 := cell_of_block (i := 7) hb
  have c8 := cell_of_block (i := 8) hb
  simp only [List.getElem?_toArray, List.getElem?_cons_succ, List.getElem?_cons_zero] at c6 c7 c8
  have HB := Lib.hid hb
  have M1 := Lib.hid m1
  replace HSV := Lib.hid (HSV.out.mod0 m1)
  replace HSB := Lib.hid (HSB.out.mod0 m1)
  clear m1 hb
  go_enter Tryd.func10, Tryd.ntmps10
  by_cases h1 : 300 < vl
  case pos =>
    have D1 : decide ((300 : Int) < (vl : Int)) = true := decide_eq_true (by omega)
    clear h1
    go_wp2_with fail
    go_ret
    exact ⟨HR.out.1, M1.out⟩
  have D1 : decide ((300 : Int) < (vl : Int)) = false := decide_eq_false (by omega)
  by_cases h2 : 30 < bl
  case pos =>
    have D2 : decide ((30 : Int) < (bl : Int)) = true := decide_eq_true (by omega)
    clear h1 h2
    go_wp2_with fail
    go_ret
    exact ⟨HR.out.1, M1.out⟩
  have D2 : decide ((30 : Int) < (bl : Int)) = false := decide_eq_false (by omega)
  by_cases h3 : 300 < sl
  case pos =>
    have D3 : decide ((300 : Int) < (sl : Int)) = true := decide_eq_true (by omega)
    clear h1 h2 h3
    go_wp2_with fail
    go_ret
    exact ⟨HR.out.1, M1.out⟩
  have D3 : decide ((300 : Int) < (sl : Int)) = false := decide_eq_false (by omega)
  have HF2 : Hid ((∀ v ∈ votes, v.2.1.length ≤ 300) → (∀ b ∈ batches, b.1.length ≤ 300) → fm) := Lib.hid (HFI.out (by omega) (by omega) (by omega))
  clear HFI h1 h2 h3
  go_wp2_with fail
  clear D1 D2 D3
  go_loopw [3] (fun s3 wr => ∃ k : Nat, k ≤ vl ∧ s3 = .int .i64 (k : Int) ∧ (∀ j (h : j < votes.length), j < k → votes[j].2.1.length ≤ 300) ∧ Mod [] w1 wr) (fun s3 _ => vl - (intOf s3).toNat)
  case atStart => exact ⟨0, Nat.zero_le _, rfl, fun j h h' => absurd h' (by omega), Mod.refl _ _⟩
  case round =>
    obtain ⟨k, hk, rfl, hall, hm⟩ := hrel
    rename World => wr
    have HA := Lib.hid hall
    have HM := Lib.hid hm
    have MM := Lib.hid (M1.out.trans' hm)
    have HBr := Lib.hid (hm.get HB.out List.not_mem_nil)
    clear hall hm c6 c7 c8 hw1
    have c6 := cell_of_block (i := 6) HBr.out
    have c7 := cell_of_block (i := 7) HBr.out
    simp only [List.getElem?_toArray, List.getElem?_cons_succ, List.getElem?_cons_zero] at c6 c7
    by_cases hlt : k < vl
    · have hlt2 : (k : Int) < (vl : Int) := by omega
      have g1 : k < votes.length := by rw [HVL.out]; exact hlt
      obtain ⟨b, off, rfl, hc⟩ := HSV.out.vote g1
      obtain ⟨-, -, -, p3, -⟩ := hc wr HM.out
      by_cases h4 : 300 < votes[k].2.1.length
      · have D : decide ((300 : Int) < (votes[k].2.1.length : Int)) = true := decide_eq_true (by omega)
        clear hc h4
        go_wp2_with fail
        go_ret
        exact ⟨HR.out.1, MM.out⟩
      · have D : decide ((300 : Int) < (votes[k].2.1.length : Int)) = false := decide_eq_false (by omega)
        have HA2 : Hid (∀ j (h : j < votes.length), j < k + 1 → votes[j].2.1.length ≤ 300) := Lib.hid (fun j h h' => by
          rcases Nat.lt_or_ge j k with h5 | h5
          · exact HA.out j h h5
          · obtain rfl : j = k := by omega
            omega)
        clear hc h4 HA
        go_wp2_with fail
        go_roundw
        case rel => exact ⟨k + 1, by omega, by go_num, HA2.out, HM.out⟩
        case measure => simp [intOf]; omega
    · have hke : k = vl := by omega
      subst hke
      have HV1 : Hid (∀ v ∈ votes, v.2.1.length ≤ 300) := Lib.hid (fun v hv => by
        obtain ⟨j, hj, rfl⟩ := List.getElem_of_mem hv
        exact HA.out j hj (by have := HVL.out; omega))
      clear HA
      go_wp2_with fail
      go_loopw [4] (fun s4 wr' => ∃ k : Nat, k ≤ bl ∧ s4 = .int .i64 (k : Int) ∧ (∀ j (h : j < batches.length), j < k → batches[j].1.length ≤ 300) ∧ Mod [] wr wr') (fun s4 _ => bl - (intOf s4).toNat)
      case atStart => exact ⟨0, Nat.zero_le _, rfl, fun j h h' => absurd h' (by omega), Mod.refl _ _⟩
      case round =>
        obtain ⟨k2, hk2, rfl, hall, hm⟩ := hrel
        rename World => wr2
        have HA := Lib.hid hall
        have HM3 := Lib.hid hm
        have HM2 := Lib.hid (HM.out.trans' hm)
        have MM2 := Lib.hid (MM.out.trans' hm)
        have HBr2 := Lib.hid (hm.get HBr.out List.not_mem_nil)
        clear hall hm c6 c7
        have c7 := cell_of_block (i := 7) HBr2.out
        simp only [List.getElem?_toArray, List.getElem?_cons_succ, List.getElem?_cons_zero] at c7
        by_cases hlt4 : k2 < bl
        · have hlt5 : (k2 : Int) < (bl : Int) := by omega
          have g1 : k2 < batches.length := by rw [HBL.out]; exact hlt4
          obtain ⟨b, off, rfl, hc⟩ := HSB.out.batch g1
          obtain ⟨p3, -⟩ := hc wr2 HM2.out
          by_cases h4 : 300 < batches[k2].1.length
          · have D : decide ((300 : Int) < (batches[k2].1.length : Int)) = true := decide_eq_true (by omega)
            clear hc h4
            go_wp2_with fail
            go_ret
            exact ⟨HR.out.1, MM2.out⟩
          · have D : decide ((300 : Int) < (batches[k2].1.length : Int)) = false := decide_eq_false (by omega)
            have HA2 : Hid (∀ j (h : j < batches.length), j < k2 + 1 → batches[j].1.length ≤ 300) := Lib.hid (fun j h h' => by
              rcases Nat.lt_or_ge j k2 with h5 | h5
              · exact HA.out j h h5
              · obtain rfl : j = k2 := by omega
                omega)
            clear hc h4 HA
            go_wp2_with fail
            go_roundw
            case rel => exact ⟨k2 + 1, by omega, by go_num, HA2.out, HM3.out⟩
            case measure => simp [intOf]; omega
        · have hke2 : k2 = bl := by omega
          subst hke2
          have HV2 : Hid (∀ v ∈ batches, v.1.length ≤ 300) := Lib.hid (fun v hv => by
            obtain ⟨j, hj, rfl⟩ := List.getElem_of_mem hv
            exact HA.out j hj (by have := HBL.out; omega))
          have HFF := Lib.hid (HR.out.2 (HF2.out HV1.out HV2.out))
          clear HA
          go_wp2_with fail
          go_ret
          exact ⟨HFF.out, MM2.out⟩
end Go.Proofs.YtekdnljincbghaaDoor
/- Regions that draw their order, in two phases: till one operation comes up fewer blocks are written than behind it. So a load of a cell that the region itself writes later is taken first. Over any program. -/
namespace Go.Proofs.YtekdnljincbghaaDoor
open Go Go.RowKit Go.Lib

section
variable {P : Program} {ops : Array Oper} {Q : Exit → Act → World → Prop} {md : Region.Mode}

/-- Whatever order is picked from here on, and S holds, of what has come up and the world, behind each operation. -/
def wpAnyL (P : Program) (md : Region.Mode) (ops : Array Oper) (Q : Exit → Act → World → Prop) (S : Array Bool → World → Prop) : Nat → Array Bool → Act → World → Prop
  | 0, listed, a, w => Region.ready md ops listed = [] ∧ Q .normal a w
  | fuel + 1, listed, a, w =>
    (Region.ready md ops listed = [] → Q .normal a w) ∧
    ∀ i ∈ Region.ready md ops listed, wpOp P ops Q i (fun a' w' => S (listed.setIfInBounds i true) w' ∧ wpAnyL P md ops Q S fuel (listed.setIfInBounds i true) a' w') a w

theorem wpAny_of_L {S : Array Bool → World → Prop} : ∀ (fuel : Nat) (listed : Array Bool) (a : Act) (w : World), wpAnyL P md ops Q S fuel listed a w → wpAny P md ops Q fuel listed a w
  | 0, _, _, _, h => h
  | fuel + 1, _, _, _, h => ⟨h.1, fun i hi => wpOp_mono (fun a' w' h' => wpAny_of_L fuel _ a' w' h'.2) (h.2 i hi)⟩

theorem wpAnyL_weaken {S S' : Array Bool → World → Prop} (hs : ∀ ls w, S' ls w → S ls w) : ∀ (fuel : Nat) (listed : Array Bool) (a : Act) (w : World), wpAnyL P md ops Q S' fuel listed a w → wpAnyL P md ops Q S fuel listed a w
  | 0, _, _, _, h => h
  | fuel + 1, _, _, _, h => ⟨h.1, fun i hi => wpOp_mono (fun a' w' h' => ⟨hs _ _ h'.1, wpAnyL_weaken hs fuel _ a' w' h'.2⟩) (h.2 i hi)⟩

theorem wpAnyL_of_H {m : Nat} {S : Array Bool → World → Prop} {S' : World → Prop} (hs : ∀ ls w, ls.getD m true = true → S' w → S ls w) :
    ∀ (fuel : Nat) (listed : Array Bool) (a : Act) (w : World), listed.getD m true = true → wpAnyH P md ops Q S' fuel listed a w → wpAnyL P md ops Q S fuel listed a w
  | 0, _, _, _, _, h => h
  | fuel + 1, listed, _, _, hl, h => ⟨h.1, fun i hi => wpOp_mono (fun a' w' h' => by
      have hl' : (listed.setIfInBounds i true).getD m true = true := by
        by_cases hij : i = m
        · subst hij
          rcases Nat.lt_or_ge i listed.size with h | h
          · simp [h]
          · simp [h]
        · rw [getD_set_ne true hij]; exact hl
      exact ⟨hs _ _ hl' h'.1, wpAnyL_of_H hs fuel _ a' w' hl' h'.2⟩) (h.2 i hi)⟩

theorem wpAnyL_first {S : Array Bool → World → Prop} {T : World → Prop} {inv : Array Bool → Prop} {i : Nat} {oi : Oper} {v : Value} (hi : ops[i]? = some oi) (hsel : ∀ (j : Nat) (o : Oper) cs b, ops[j]? = some o → o.op ≠ .select cs b)
    (hQ : ∀ c a w, Q (.panic c) (a.put oi.dst v) w → Q (.panic c) a w)
    (hinv : ∀ ls j, inv ls → i ∈ Region.ready md ops ls → j ∈ Region.ready md ops ls → j ≠ i → inv (ls.setIfInBounds j true))
    (hSi : ∀ ls w, S (ls.setIfInBounds i true) w → S ls w) (hSo : ∀ ls w, S ls w → S (ls.setIfInBounds i true) w) (hT : ∀ ls w, inv ls → S ls w → T w) :
    ∀ (fuel : Nat) (listed : Array Bool) (a : Act) (w : World),
      (∀ j oj, ops[j]? = some oj → j ≠ i → listed.getD j true = false → (∀ e ∈ oj.after, Region.binds md e = true → e.on ≠ i) → oi.apart ops oj = true) →
      i ∈ Region.ready md ops listed → YieldsIf P ops T oi v a → inv listed → S listed w →
      wpAnyL P md ops Q S fuel (listed.setIfInBounds i true) (a.put oi.dst v) w → wpAnyL P md ops Q S (fuel + 1) listed a w := by
  intro fuel
  induction fuel with
  | zero =>
    intro listed a w _ hr hy hn hS H
    refine ⟨fun h => (by rw [h] at hr; cases hr), fun j hj => ?_⟩
    by_cases hji : j = i
    · subst hji; exact hy.wpOp hi (hT _ _ hn hS) ⟨hSo _ _ hS, H⟩
    · have := ready_mono hj hji
      rw [H.1] at this
      cases this
  | succ fuel ih =>
    intro listed a w hfree hr hy hn hS H
    refine ⟨fun h => (by rw [h] at hr; cases hr), fun j hj => ?_⟩
    by_cases hji : j = i
    · subst hji; exact hy.wpOp hi (hT _ _ hn hS) ⟨hSo _ _ hS, H⟩
    · have h1 := H.2 j (ready_mono hj hji)
      obtain ⟨hjun, oj, hoj, hall⟩ := mem_ready.1 hj
      have hnot : ∀ e ∈ oj.after, Region.binds md e = true → e.on ≠ i := fun e he hb heq => by
        have h1 := hall e he hb
        have h0 := (mem_ready.1 hr).1
        rw [heq] at h1
        rcases Nat.lt_or_ge i listed.size with h' | h'
        · simp [h'] at h0 h1; rw [h0] at h1; cases h1
        · simp [Array.getElem?_eq_none h'] at h1
      have h2 := wpOp_putIf hoj (hfree j oj hoj hji hjun hnot) (fun cs b => hsel i oi cs b hi) (fun cs b => hsel j oj cs b hoj) hQ hy h1
      have hfree' : ∀ k ok, ops[k]? = some ok → k ≠ i → (listed.setIfInBounds j true).getD k true = false →
          (∀ e ∈ ok.after, Region.binds md e = true → e.on ≠ i) → oi.apart ops ok = true := fun k ok hk hki hun hno => by
        refine hfree k ok hk hki ?_ hno
        by_cases hjk : j = k
        · subst hjk; exact hjun
        · rw [getD_set_ne true hjk] at hun; exact hun
      refine wpOp_mono (fun a' w' h3 => ?_) h2
      obtain ⟨h3, h4, h5⟩ := h3
      rw [← Array.setIfInBounds_comm _ _ hji] at h4 h5
      exact ⟨hSi _ _ h4, ih (listed.setIfInBounds j true) a' w' hfree' (ready_mono hr (Ne.symm hji)) h3 (hinv _ _ hn hr hj hji) (hSi _ _ h4) h5⟩

/-- Till number m comes up at most the blocks K are written, behind it at most K2. -/
def Phase (m : Nat) (K K2 : List Nat) (w : World) (ls : Array Bool) (w' : World) : Prop := Mod K2 w w' ∧ (ls.getD m true = false → Mod K w w')
def RestU (P : Program) (md : Region.Mode) (ops : Array Oper) (Q : Exit → Act → World → Prop) (m : Nat) (K K2 : List Nat) (fuel : Nat) (listed : Array Bool) (a : Act) (w : World) : Prop :=
  wpAnyL P md ops Q (Phase m K K2 w) fuel listed a w

theorem restu_start {id : Nat} {a : Act} {w : World} (m : Nat) (K K2 : List Nat) (n : Nat) (L : Array Bool) (hn : ops.size = n) (hL : Array.replicate n false = L) (hm : P.follows .mixedOrders = true)
    (h : ∀ w1, Mod [] w w1 → RestU P .any ops Q m K K2 n L a w1) : (Code.region id ops true).wp P Q a w := by
  subst hn hL
  exact wp_region_any hm (wpAny_of_L _ _ _ _ (h w.drew (Mod.drew _ _)))

theorem phase_set {m i : Nat} {K K2 : List Nat} {w : World} (hne : (i == m) = false) (ls : Array Bool) (w' : World) : Phase m K K2 w (ls.setIfInBounds i true) w' ↔ Phase m K K2 w ls w' := by
  unfold Phase
  rw [getD_set_ne true (by simpa using hne)]

/-- Number m waits for number i. -/
def waits (md : Region.Mode) (ops : Array Oper) (m i : Nat) : Bool := match ops[m]? with
  | some o => o.after.any fun e => Region.binds md e && e.on == i
  | none => false

/-- Each of the numbers D waits for number i, or for another one of D. -/
def chain (md : Region.Mode) (ops : Array Oper) (i : Nat) (D : List Nat) : Bool := D.all fun d => waits md ops d i || D.any fun d' => waits md ops d d'
/-- All that wait for number i, in one step or in more. -/
def descs (md : Region.Mode) (ops : Array Oper) (i : Nat) : List Nat := (List.range ops.size).foldl (fun acc d => if waits md ops d i || acc.any (fun d' => waits md ops d d') then acc ++ [d] else acc) []

theorem waits_not {j d : Nat} {ls : Array Bool} (hw : waits md ops j d = true) (hd : ls.getD d true = false) : j ∉ Region.ready md ops ls := by
  intro hj
  unfold waits at hw
  obtain ⟨_, oj, hoj, hall⟩ := mem_ready.1 hj
  rw [hoj] at hw
  obtain ⟨e, he, hb⟩ := Array.any_eq_true'.1 hw
  simp only [Bool.and_eq_true, beq_iff_eq] at hb
  have h1 := hall e he hb.1
  rw [hb.2] at h1
  rcases Nat.lt_or_ge d ls.size with h' | h'
  · simp [h'] at hd h1; rw [hd] at h1; cases h1
  · simp [Array.getElem?_eq_none h'] at h1

theorem restu_earlytake {m : Nat} {K K2 : List Nat} {i : Nat} (D : List Nat) {oi : Oper} {v : Value} {fuel : Nat} {listed : Array Bool} {a : Act} {w : World} (hi : ops[i]? = some oi)
    (hs : Region.noSelect ops = true) (hf : Region.free md ops listed i = true) (hr : (Region.ready md ops listed).contains i = true) (hne : (i == m) = false) (hD : chain md ops i D = true) (hmD : D.contains m = true) (hun : D.all (fun d => !listed.getD d true) = true)
    (hQ : ∀ c a w, Q (.panic c) (a.put oi.dst v) w → Q (.panic c) a w) (hy : YieldsIf P ops (Mod K w) oi v a)
    (h : RestU P md ops Q m K K2 fuel (listed.setIfInBounds i true) (a.put oi.dst v) w) : RestU P md ops Q m K K2 (fuel + 1) listed a w := by
  refine wpAnyL_first (T := Mod K w) (inv := fun ls => ∀ d ∈ D, ls.getD d true = false) hi (Region.noSelect_spec hs) hQ ?_ (fun ls w' => (phase_set hne ls w').1) (fun ls w' => (phase_set hne ls w').2) (fun ls w' h1 h2 => h2.2 (h1 m (by simpa using hmD)))
    fuel listed a w (Region.free_spec hi hf) (by simpa using hr) hy (by simpa using hun) ⟨Mod.refl _ _, fun _ => Mod.refl _ _⟩ h
  intro ls j hn hir hj hji d hd
  by_cases hjd : j = d
  · subst hjd
    have h1 := List.all_eq_true.1 hD j hd
    rw [Bool.or_eq_true] at h1
    rcases h1 with h1 | h1
    · exact absurd hj (waits_not h1 (mem_ready.1 hir).1)
    · obtain ⟨d', hd', hw⟩ := List.any_eq_true.1 h1
      exact absurd hj (waits_not hw (hn d' hd'))
  · rw [getD_set_ne true hjd]
    exact hn d hd
theorem restu_early {m : Nat} {K K2 : List Nat} {i : Nat} (D : List Nat) {dst : Option Tmp} {op : Op} {ty : TypeId} {pos : String} {after : Array Edge} {gd : Option (Nat × Bool)} {v : Value} {fuel : Nat} {listed : Array Bool} {a : Act} {w : World} (hi : ops[i]? = some ⟨dst, op, ty, pos, after, gd⟩)
    (hs : Region.noSelect ops = true) (hf : Region.free md ops listed i = true) (hr : (Region.ready md ops listed).contains i = true) (hne : (i == m) = false) (hD : chain md ops i D = true) (hmD : D.contains m = true) (hun : D.all (fun d => !listed.getD d true) = true)
    (hQ : ∀ c a w, Q (.panic c) (a.put dst v) w → Q (.panic c) a w) (hw : Region.wanted ⟨dst, op, ty, pos, after, gd⟩ (yielded ops a.tmps) = true)
    (hy : ∀ w', Mod K w w' → (execOp a.eval ⟨dst, op, ty, pos, after, gd⟩).run P w' = .ok (.value v) w')
    (h : RestU P md ops Q m K K2 fuel (listed.setIfInBounds i true) (a.put dst v) w) : RestU P md ops Q m K K2 (fuel + 1) listed a w :=
  restu_earlytake D hi hs hf hr hne hD hmD hun hQ (Or.inl ⟨hw, hy⟩) h
theorem restu_take {m : Nat} {K K2 : List Nat} {i : Nat} {oi : Oper} {v : Value} {fuel : Nat} {listed : Array Bool} {a : Act} {w : World} (hi : ops[i]? = some oi)
    (hs : Region.noSelect ops = true) (hf : Region.free md ops listed i = true) (hr : (Region.ready md ops listed).contains i = true) (hne : (i == m) = false)
    (hQ : ∀ c a w, Q (.panic c) (a.put oi.dst v) w → Q (.panic c) a w) (hy : YieldsIf P ops (Mod K2 w) oi v a)
    (h : RestU P md ops Q m K K2 fuel (listed.setIfInBounds i true) (a.put oi.dst v) w) : RestU P md ops Q m K K2 (fuel + 1) listed a w :=
  wpAnyL_first (T := Mod K2 w) (inv := fun _ => True) hi (Region.noSelect_spec hs) hQ (fun _ _ _ _ _ _ => trivial) (fun ls w' => (phase_set hne ls w').1) (fun ls w' => (phase_set hne ls w').2) (fun ls w' _ h2 => h2.1)
    fuel listed a w (Region.free_spec hi hf) (by simpa using hr) hy trivial ⟨Mod.refl _ _, fun _ => Mod.refl _ _⟩ h
theorem restu_got {m : Nat} {K K2 : List Nat} {i : Nat} {dst : Option Tmp} {op : Op} {ty : TypeId} {pos : String} {after : Array Edge} {gd : Option (Nat × Bool)} {v : Value} {fuel : Nat} {listed : Array Bool} {a : Act} {w : World} (hi : ops[i]? = some ⟨dst, op, ty, pos, after, gd⟩)
    (hs : Region.noSelect ops = true) (hf : Region.free md ops listed i = true) (hr : (Region.ready md ops listed).contains i = true) (hne : (i == m) = false)
    (hQ : ∀ c a w, Q (.panic c) (a.put dst v) w → Q (.panic c) a w) (hw : Region.wanted ⟨dst, op, ty, pos, after, gd⟩ (yielded ops a.tmps) = true)
    (hy : ∀ w', Mod K2 w w' → (execOp a.eval ⟨dst, op, ty, pos, after, gd⟩).run P w' = .ok (.value v) w')
    (h : RestU P md ops Q m K K2 fuel (listed.setIfInBounds i true) (a.put dst v) w) : RestU P md ops Q m K K2 (fuel + 1) listed a w :=
  restu_take hi hs hf hr hne hQ (Or.inl ⟨hw, hy⟩) h
theorem restu_skip {m : Nat} {K K2 : List Nat} {i : Nat} {dst : Option Tmp} {op : Op} {ty : TypeId} {pos : String} {after : Array Edge} {gd : Option (Nat × Bool)} {fuel : Nat} {listed : Array Bool} {a : Act} {w : World} (hi : ops[i]? = some ⟨dst, op, ty, pos, after, gd⟩)
    (hs : Region.noSelect ops = true) (hf : Region.free md ops listed i = true) (hr : (Region.ready md ops listed).contains i = true) (hne : (i == m) = false)
    (hQ : ∀ c a w, Q (.panic c) (a.put dst undef) w → Q (.panic c) a w) (hw : Region.wanted ⟨dst, op, ty, pos, after, gd⟩ (yielded ops a.tmps) = false)
    (h : RestU P md ops Q m K K2 fuel (listed.setIfInBounds i true) (a.put dst undef) w) : RestU P md ops Q m K K2 (fuel + 1) listed a w :=
  restu_take hi hs hf hr hne hQ (Or.inr ⟨hw, rfl⟩) h

/-- The way back into the region behind an operation that is not number m; behind number m. -/
def BackU (P : Program) (md : Region.Mode) (ops : Array Oper) (Q : Exit → Act → World → Prop) (m : Nat) (K K2 : List Nat) (w : World) (fuel : Nat) (listed : Array Bool) : Exit → Act → World → Prop := fun e a1 w1 =>
  match e with
  | .normal => Phase m K K2 w listed w1 ∧ wpAnyL P md ops Q (Phase m K K2 w) fuel listed a1 w1
  | e => Q e a1 w1
theorem backu_to {m : Nat} {K K2 K' K2' : List Nat} {w w1 : World} {a1 : Act} {fuel : Nat} {listed : Array Bool} (hm : Mod K w w1) (hkk : ∀ k, k ∈ K → k ∈ K2) (hk : ∀ k, k ∈ K' → k < w.heap.size → k ∈ K) (hk2 : ∀ k, k ∈ K2' → k < w.heap.size → k ∈ K2)
    (h : RestU P md ops Q m K' K2' fuel listed a1 w1) : BackU P md ops Q m K K2 w fuel listed .normal a1 w1 :=
  ⟨⟨hm.weaken hkk, fun _ => hm⟩, wpAnyL_weaken (fun _ _ hw => ⟨(hm.weaken hkk).trans hw.1 hk2, fun hl => hm.trans (hw.2 hl) hk⟩) _ _ _ _ h⟩
theorem backm_to {m : Nat} {K K2 K1 : List Nat} {w w1 : World} {a1 : Act} {fuel : Nat} {listed : Array Bool} (hl : listed.getD m true = true) (hm : Mod K2 w w1) (hk : ∀ k, k ∈ K1 → k < w.heap.size → k ∈ K2)
    (h : Rest P md ops Q K1 fuel listed a1 w1) : BackU P md ops Q m K K2 w fuel listed .normal a1 w1 :=
  ⟨⟨hm, fun h => by rw [hl] at h; cases h⟩, wpAnyL_of_H (fun ls w' h1 h2 => ⟨hm.trans h2 hk, fun h => by rw [h1] at h; cases h⟩) _ _ _ _ hl h⟩

theorem oneu_op {m : Nat} {K K2 : List Nat} {i : Nat} {dst : Option Tmp} {op : Op} {ty : TypeId} {pos : String} {after : Array Edge} {gd : Option (Nat × Bool)} {fuel : Nat} {listed : Array Bool} {a : Act} {w : World} (ho : ops[i]? = some ⟨dst, op, ty, pos, after, gd⟩)
    (hw : Region.wanted ⟨dst, op, ty, pos, after, gd⟩ (yielded ops a.tmps) = true)
    (h : wpList P ops (BackU P md ops Q m K K2 w fuel (listed.setIfInBounds i true)) [⟨dst, op, ty, pos, after, none⟩] a w) :
    wpOp P ops Q i (fun a' w' => Phase m K K2 w (listed.setIfInBounds i true) w' ∧ wpAnyL P md ops Q (Phase m K K2 w) fuel (listed.setIfInBounds i true) a' w') a w := by
  unfold wpOp
  simp only [ho]
  rw [if_pos hw]
  have hwn : Region.wanted ⟨dst, op, ty, pos, after, none⟩ (yielded ops a.tmps) = true := rfl
  unfold wpList at h
  rw [if_pos hwn] at h
  refine h.imp (fun h => ?_) id
  have h : Oper.upon P ⟨dst, op, ty, pos, after, gd⟩ a (wpList P ops (BackU P md ops Q m K K2 w fuel (listed.setIfInBounds i true)) []) (BackU P md ops Q m K K2 w fuel (listed.setIfInBounds i true)) ((execOp a.eval ⟨dst, op, ty, pos, after, gd⟩).run P w) := h
  unfold Oper.wp
  generalize (execOp a.eval ⟨dst, op, ty, pos, after, gd⟩).run P w = r at *
  cases r with
  | ok n w' =>
    cases n <;> simp only [Oper.upon] at h ⊢ <;>
      first
        | exact Calls.mono h (fun e w'' he => by cases e <;> exact he)
        | exact Rows.mono h (fun _ _ he => he)
        | exact h
  | halt x w' => cases x <;> simp only [Oper.upon] at h ⊢ <;> exact h

theorem restu_one {m : Nat} {K K2 : List Nat} {i : Nat} {dst : Option Tmp} {op : Op} {ty : TypeId} {pos : String} {after : Array Edge} {gd : Option (Nat × Bool)} {fuel : Nat} {listed : Array Bool} {a : Act} {w : World} (hr : Region.ready md ops listed = [i]) (ho : ops[i]? = some ⟨dst, op, ty, pos, after, gd⟩)
    (hw : Region.wanted ⟨dst, op, ty, pos, after, gd⟩ (yielded ops a.tmps) = true)
    (h : wpList P ops (BackU P md ops Q m K K2 w fuel (listed.setIfInBounds i true)) [⟨dst, op, ty, pos, after, none⟩] a w) : RestU P md ops Q m K K2 (fuel + 1) listed a w := by
  refine ⟨fun h0 => (by rw [hr] at h0; cases h0), ?_⟩
  intro j hj
  rw [hr] at hj
  simp only [List.mem_singleton] at hj
  subst hj
  exact oneu_op ho hw h
end
end Go.Proofs.YtekdnljincbghaaDoor
/- The walk of msg.Take. -/
namespace Go.Proofs.YtekdnljincbghaaDoor
open Go Go.RowKit Go.Lib

/-- What bytes behind the sum say. -/
def insR (l : List UInt8) : Int × Md :=
  if Known (St.uint ⟨0, l.drop 4, false⟩).1 then
    if (takeF l.length (Fl (St.uint ⟨0, l.drop 4, false⟩).1) ((mz (St.uint ⟨0, l.drop 4, false⟩).1).d, (St.uint ⟨0, l.drop 4, false⟩).2)).2.bad = false ∧
      doneR (takeF l.length (Fl (St.uint ⟨0, l.drop 4, false⟩).1) ((mz (St.uint ⟨0, l.drop 4, false⟩).1).d, (St.uint ⟨0, l.drop 4, false⟩).2)).2.e (takeF l.length (Fl (St.uint ⟨0, l.drop 4, false⟩).1) ((mz (St.uint ⟨0, l.drop 4, false⟩).1).d, (St.uint ⟨0, l.drop 4, false⟩).2)).2.l = 0 ∧
      MayM (takeF l.length (Fl (St.uint ⟨0, l.drop 4, false⟩).1) ((mz (St.uint ⟨0, l.drop 4, false⟩).1).d, (St.uint ⟨0, l.drop 4, false⟩).2)).1
    then (0, (takeF l.length (Fl (St.uint ⟨0, l.drop 4, false⟩).1) ((mz (St.uint ⟨0, l.drop 4, false⟩).1).d, (St.uint ⟨0, l.drop 4, false⟩).2)).1) else (11, (mz 0).d)
  else (11, (mz 0).d)
/-- What bytes say. -/
def takeR (l : List UInt8) : Int × Md :=
  if l.length < 5 then (10, (mz 0).d) else if sum4 (l.drop 4) = l.take 4 then insR l else (12, (mz 0).d)
/-- What Take tells. -/
def TakeM (w : World) (l : List UInt8) (e : Ending) (w' : World) : Prop :=
  ∃ m, e = .returned (.tuple #[msgV m, .int .i64 (takeR l).1]) ∧ m.d = (takeR l).2 ∧ NewM w.heap.size w' m ∧ WfM m ∧ Mod [] w w'
theorem wf_mz : WfM (mz 0) := by
  refine ⟨?_, Nat.zero_le _, by simp [mz], Nat.zero_le _, by simp [mz], ?_⟩
  · unfold WfH mz; dsimp only; omega
  · unfold WfB mz; dsimp only; simp
/-- Nothing, and an error. -/
theorem TakeM.no {w w' : World} {l : List UInt8} {n : Int} (m : Mod [] w w') (h : takeR l = (n, (mz 0).d)) : TakeM w l (.returned (.tuple #[.agg #[.int .u8 0, .int .u64 0, .int .i64 0, .int .u64 0, .int .u64 0, .int .u64 0, .slice none 0 0, .slice none 0 0, .slice none 0 0], .int .i64 n])) w' :=
  ⟨mz 0, by rw [h]; rfl, by rw [h], NewM.mz _ _ _, wf_mz, m⟩

set_option maxRecDepth 100000 in
set_option maxHeartbeats 16000000 in
theorem mtake_any (ao : Option Addr) (len cap : Nat) (l : List UInt8) (w : World) (hl : l.length = len) (hlc : len ≤ cap) (hc : cap ≤ 9223372036854775807) (hs : Sees w ao l) (hf : Flds w) (hT : TableAt w T0) :
    Calls Tryd.prog 20 #[.slice ao len cap] w (TakeM w l) := by
  obtain ⟨w1, hw1, A1, m1⟩ : ∃ x, w.alloc (.cells #[.int .u8 0, .int .u64 0, .int .i64 0, .int .u64 0, .int .u64 0, .int .u64 0, .slice none 0 0, .slice none 0 0, .slice none 0 0] 29) = x ∧
    x.heap[w.heap.size]? = some (.cells #[.int .u8 0, .int .u64 0, .int .i64 0, .int .u64 0, .int .u64 0, .int .u64 0, .slice none 0 0, .slice none 0 0, .slice none 0 0] 29 (0, 0)) ∧ Mod [] w x := ⟨_, rfl, heap_alloc_new w _, Mod.alloc _ _ _⟩
  have M1 := Lib.hid m1
  have HA1 := Lib.hid A1
  by_cases h5 : len < 5
  case pos =>
    have D : decide ((len : Int) < 5) = true := decide_eq_true (by omega)
    have HR : Hid (takeR l = (10, (mz 0).d)) := Lib.hid (if_pos (by omega))
    clear hs hf hT hl m1 A1
    have z0 := cell_of_block (i := 0) HA1.out
    have y0 := free_of_block (i := 0) HA1.out
    have z1 := cell_of_block (i := 1) HA1.out
    have y1 := free_of_block (i := 1) HA1.out
    have z2 := cell_of_block (i := 2) HA1.out
    have y2 := free_of_block (i := 2) HA1.out
    have z3 := cell_of_block (i := 3) HA1.out
    have y3 := free_of_block (i := 3) HA1.out
    have z4 := cell_of_block (i := 4) HA1.out
    have y4 := free_of_block (i := 4) HA1.out
    have z5 := cell_of_block (i := 5) HA1.out
    have y5 := free_of_block (i := 5) HA1.out
    have z6 := cell_of_block (i := 6) HA1.out
    have y6 := free_of_block (i := 6) HA1.out
    have z7 := cell_of_block (i := 7) HA1.out
    have y7 := free_of_block (i := 7) HA1.out
    have z8 := cell_of_block (i := 8) HA1.out
    have y8 := free_of_block (i := 8) HA1.out
    simp only [List.getElem?_toArray, List.getElem?_cons_succ, List.getElem?_cons_zero] at z0 z1 z2 z3 z4 z5 z6 z7 z8
    go_enter Tryd.func20, Tryd.ntmps20
    go_wp2_with fail
    ((try simp only [Exit.inBlock, Exit.then]); refine bodyPost_ret (by simp [results, Tryd.results20, go_sem, *]; try rfl) rfl ?_)
    exact TakeM.no (M1.out.trans (T := [w.heap.size]) (((((((((Mod.setCell _ _ _ (by simp)).trans' (Mod.setCell _ _ _ (by simp))).trans' (Mod.setCell _ _ _ (by simp))).trans' (Mod.setCell _ _ _ (by simp))).trans' (Mod.setCell _ _ _ (by simp))).trans' (Mod.setCell _ _ _ (by simp))).trans' (Mod.setCell _ _ _ (by simp))).trans' (Mod.setCell _ _ _ (by simp))).trans' (Mod.setCell _ _ _ (by simp))) (by simp)) HR.out
  case neg =>
  obtain ⟨b, off, rfl, -⟩ := hs 0 (by omega)
  have hs4 : Sees w (some ⟨b, off + 4, none⟩) (l.drop 4) := by
    intro j hj
    have hj' : 4 + j < l.length := by simp only [List.length_drop] at hj; omega
    obtain ⟨b', off', e, h2⟩ := hs (4 + j) hj'
    cases e
    exact ⟨b, off + 4, rfl, by rw [List.getElem_drop, Nat.add_assoc]; exact h2⟩
  have D : decide ((len : Int) < 5) = false := decide_eq_false (by omega)
  have hdl : (l.drop 4).length = len - 4 := by rw [List.length_drop, hl]
  have htl : (l.take 4).length = 4 := by rw [List.length_take, hl]; omega
  obtain ⟨q, hq⟩ : ∃ q, decide (sum4 (l.drop 4) = l.take 4) = q := ⟨_, rfl⟩
  have HTR : Hid (takeR l = if q = true then insR l else (12, (mz 0).d)) := Lib.hid (by
    unfold takeR
    rw [if_neg (by omega)]
    cases q
    · rw [if_neg (of_decide_eq_false hq), if_neg (by decide)]
    · rw [if_pos (of_decide_eq_true hq), if_pos rfl])
  have HQ := Lib.hid hq
  have HS := Lib.hid (hs.take 4)
  have HS4 := Lib.hid hs4
  have HF := Lib.hid hf
  have HT := Lib.hid hT
  have HDL := Lib.hid hdl
  have HTL := Lib.hid htl
  have HL := Lib.hid hl
  clear hs hf hT hl m1 A1 hs4 hq hdl htl
  go_enter Tryd.func20, Tryd.ntmps20
  go_upto_region 3 with (fail)
  have HI4 : Hid ((4 : Int) ≤ (len : Int)) := Lib.hid (by omega)
  have HI5 : Hid ((4 : Int) ≤ (cap : Int)) := Lib.hid (by omega)
  have HC4 : Hid (¬ cap = 4) := Lib.hid (by omega)
  clear hw1
  refine rest_start [] 8 #[false, false, false, false, false, false, false, false] rfl (by kernel_rfl) (by kernel_rfl) ?_
  intro w3 m3
  have M3 := Lib.hid (M1.out.trans' m3)
  have HA3 := Lib.hid (m3.get HA1.out List.not_mem_nil)
  clear m3 M1 HA1
  refine rest_got (i := 0) (v := ?v1) rfl (by kernel_rfl) (by kernel_rfl) (by kernel_rfl) (fun _ _ _ h => h) (by rfl) ?y1 ?r1
  case y1 => (intro w9q hSwq; clear hSwq; go_simp; with_reducible rfl)
  try simp only [Act.put, List.setIfInBounds_toArray, List.set_cons_zero, List.set_cons_succ]
  refine rest_got (i := 1) (v := ?v2) rfl (by kernel_rfl) (by kernel_rfl) (by kernel_rfl) (fun _ _ _ h => h) (by rfl) ?y2 ?r2
  case y2 => ((intro w9' hm9'; clear hm9'; go_simp; (first | rw [if_pos HI4.out, if_neg HC4.out] | rw [if_pos HI5.out])))
  try simp only [Act.put, List.setIfInBounds_toArray, List.set_cons_zero, List.set_cons_succ]
  refine rest_got (i := 3) (v := ?v3) rfl (by kernel_rfl) (by kernel_rfl) (by kernel_rfl) (fun _ _ _ h => h) (by rfl) ?y3 ?r3
  case y3 => (intro w9q hSwq; clear hSwq; go_simp; with_reducible rfl)
  try simp only [Act.put, List.setIfInBounds_toArray, List.set_cons_zero, List.set_cons_succ]
  refine rest_got (i := 4) (v := ?v4) rfl (by kernel_rfl) (by kernel_rfl) (by kernel_rfl) (fun _ _ _ h => h) (by rfl) ?y4 ?r4
  case y4 => ((intro w9' hm9'; clear hm9'; go_simp; (first | rw [if_pos HI4.out, if_neg HC4.out] | rw [if_pos HI5.out])))
  try simp only [Act.put, List.setIfInBounds_toArray, List.set_cons_zero, List.set_cons_succ]
  refine rest_one (i := 2) (by kernel_rfl) rfl (by rfl) ?_
  go_wp2_with fail
  refine (msum_any (some ⟨b, off + 4, none⟩) (len - 4) (cap - 4) (l.drop 4) w3 HDL.out (by omega) (HS4.out.mod0 M3.out) (HT.out.mod0 M3.out)).mono ?_
  rintro e w4 ⟨a4, n4, c4, rfl, k4, o4, m4, s4⟩
  have h4 : n4 = 4 := by rw [← k4]; rfl
  subst h4
  have O4 := Lib.hid o4
  have M4 := Lib.hid (M3.out.trans' m4)
  have HA4 := Lib.hid (m4.get HA3.out (by simp [blk]))
  go_wp2_with fail
  refine back_to (K1 := []) m4 (by simp) ?_
  clear k4 o4 m4 s4 M3 HA3
  
  refine rest_one (i := 5) (by kernel_rfl) rfl (by rfl) ?_
  go_wp2_with fail
  refine (bequal_any a4 (some ⟨b, off, none⟩) 4 4 c4 cap (sum4 (l.drop 4)) (l.take 4) w4 rfl HTL.out O4.out.sees (HS.out.mod0 M4.out)).mono ?_
  rintro e w4' ⟨rfl, rfl⟩
  rw [HQ.out]
  go_wp2_with fail
  refine back_to (K1 := []) (Mod.refl _ _) (by simp) ?_
  refine rest_got (i := 6) (v := ?v5) rfl (by kernel_rfl) (by kernel_rfl) (by kernel_rfl) (fun _ _ _ h => h) (by rfl) ?y5 ?r5
  case y5 => (intro w9q hSwq; clear hSwq; go_simp; with_reducible rfl)
  try simp only [Act.put, List.setIfInBounds_toArray, List.set_cons_zero, List.set_cons_succ]
  refine rest_got (i := 7) (v := ?v6) rfl (by kernel_rfl) (by kernel_rfl) (by kernel_rfl) (fun _ _ _ h => h) (by rfl) ?y6 ?r6
  case y6 => (intro w9q hSwq; clear hSwq; go_simp; with_reducible rfl)
  try simp only [Act.put, List.setIfInBounds_toArray, List.set_cons_zero, List.set_cons_succ]
  refine rest_done (by kernel_rfl) ?_ _
  clear O4
  cases q
  case false =>
    have HR : Hid (takeR l = (12, (mz 0).d)) := Lib.hid (by rw [HTR.out, if_neg (by decide)])
    have z0 := cell_of_block (i := 0) HA4.out
    have y0 := free_of_block (i := 0) HA4.out
    have z1 := cell_of_block (i := 1) HA4.out
    have y1 := free_of_block (i := 1) HA4.out
    have z2 := cell_of_block (i := 2) HA4.out
    have y2 := free_of_block (i := 2) HA4.out
    have z3 := cell_of_block (i := 3) HA4.out
    have y3 := free_of_block (i := 3) HA4.out
    have z4 := cell_of_block (i := 4) HA4.out
    have y4 := free_of_block (i := 4) HA4.out
    have z5 := cell_of_block (i := 5) HA4.out
    have y5 := free_of_block (i := 5) HA4.out
    have z6 := cell_of_block (i := 6) HA4.out
    have y6 := free_of_block (i := 6) HA4.out
    have z7 := cell_of_block (i := 7) HA4.out
    have y7 := free_of_block (i := 7) HA4.out
    have z8 := cell_of_block (i := 8) HA4.out
    have y8 := free_of_block (i := 8) HA4.out
    simp only [List.getElem?_toArray, List.getElem?_cons_succ, List.getElem?_cons_zero] at z0 z1 z2 z3 z4 z5 z6 z7 z8
    clear HTR
    go_wp2_with fail
    ((try simp only [Exit.inBlock, Exit.then]); refine bodyPost_ret (by simp [results, Tryd.results20, go_sem, *]; try rfl) rfl ?_)
    exact TakeM.no (M4.out.trans (T := [w.heap.size]) (((((((((Mod.setCell _ _ _ (by simp)).trans' (Mod.setCell _ _ _ (by simp))).trans' (Mod.setCell _ _ _ (by simp))).trans' (Mod.setCell _ _ _ (by simp))).trans' (Mod.setCell _ _ _ (by simp))).trans' (Mod.setCell _ _ _ (by simp))).trans' (Mod.setCell _ _ _ (by simp))).trans' (Mod.setCell _ _ _ (by simp))).trans' (Mod.setCell _ _ _ (by simp))) (by simp)) HR.out
  have HTR2 : Hid (takeR l = insR l) := Lib.hid (by rw [HTR.out, if_pos rfl])
  clear HTR HQ HT
  go_wp2_with fail
  refine (newReader_any (some ⟨b, off + 4, none⟩) (len - 4) (cap - 4) (l.drop 4) (len : Int) w4' HDL.out (by omega) (by omega) (HS4.out.mod0 M4.out)).mono ?_
  rintro e w5 ⟨g, rfl, r5, m5, hg5⟩
  have M5 := Lib.hid (M4.out.trans' m5)
  have HA5 := Lib.hid (m5.get HA4.out List.not_mem_nil)
  have hgw : w.heap.size < g := by have := lt_of_block HA4.out; omega
  have m6 := Mod.alloc [] w5 (.cells #[.pointer (some ⟨g, 0, none⟩), .bool false] 75)
  have hb6 := heap_alloc_new w5 (.cells #[.pointer (some ⟨g, 0, none⟩), .bool false] 75)
  have hg6 := r5.lt
  have hlt5 : ∀ k, k ∈ blkOf (some ⟨b, off + 4, none⟩) (l.drop 4) → k < w5.heap.size := fun k hk => by
    have := (HS4.out).ltOf k hk
    have := M5.out.size
    omega
  obtain ⟨bs, hbs⟩ : ∃ x, blkOf (some ⟨b, off + 4, none⟩) (l.drop 4) = x := ⟨_, rfl⟩
  rw [hbs] at r5 hlt5
  obtain ⟨tk, htk⟩ : ∃ x, w5.heap.size = x := ⟨_, rfl⟩
  obtain ⟨w6, hw6⟩ : ∃ x, w5.alloc (.cells #[.pointer (some ⟨g, 0, none⟩), .bool false] 75) = x := ⟨_, rfl⟩
  have hz6 : w6.heap.size = tk + 1 := by rw [← hw6, ← htk]; simp
  rw [hw6] at m6 hb6
  rw [htk] at hb6 hg6 hlt5
  have T6 : Hid (TkS w6 tk g bs (len : Int) ⟨0, l.drop 4, false⟩) := Lib.hid ⟨r5.mod0 m6, hb6, by omega, fun hk => by have := hlt5 _ hk; omega, fun k hk => by have := hlt5 _ hk; omega⟩
  have M6 := Lib.hid (M5.out.trans' m6)
  have HA6 := Lib.hid (m6.get HA5.out List.not_mem_nil)
  have hgt : w.heap.size < tk := by omega
  obtain ⟨⟨kind, s1⟩, hu⟩ : ∃ x, St.uint ⟨0, l.drop 4, false⟩ = x := ⟨_, rfl⟩
  have hkl : kind < 18446744073709551616 := by have := uint_lt ⟨0, l.drop 4, false⟩; rw [hu] at this; exact this
  have HIN : Hid (takeR l = if Known kind then (if (takeF len (Fl kind) ((mz kind).d, s1)).2.bad = false ∧ doneR (takeF len (Fl kind) ((mz kind).d, s1)).2.e (takeF len (Fl kind) ((mz kind).d, s1)).2.l = 0 ∧ MayM (takeF len (Fl kind) ((mz kind).d, s1)).1 then (0, (takeF len (Fl kind) ((mz kind).d, s1)).1) else (11, (mz 0).d)) else (11, (mz 0).d)) := Lib.hid (by
    rw [HTR2.out]
    unfold insR
    rw [hu, HL.out])
  have HU := Lib.hid (ruint_any g bs 0 (l.drop 4) (len : Int) w6 T6.out.rd)
  have H1 : Hid ((uintE 10 0 0 0 (l.drop 4)).1 = kind ∧ (⟨(uintE 10 0 0 0 (l.drop 4)).2.1, (uintE 10 0 0 0 (l.drop 4)).2.2, false⟩ : St) = s1) := Lib.hid ⟨congrArg Prod.fst hu, congrArg Prod.snd hu⟩
  have t0 := cell_of_block (i := 0) hb6
  simp only [List.getElem?_toArray, List.getElem?_cons_zero] at t0
  clear r5 m5 m6 hb6 hlt5 hbs hu HTR2 HA4 HA5 M4 M5
  go_wp2_with fail
  refine HU.out.mono ?_
  rintro e w7 ⟨rfl, r7, m7⟩
  have T7 := T6.out.read r7 m7
  rw [H1.out.2] at T7
  rw [H1.out.1]
  have HT7 := Lib.hid T7
  have hz7g := T7.tlt
  have M7 := Lib.hid (M6.out.trans m7 (by simp; omega))
  have HA7 := Lib.hid (m7.get HA6.out (by simp; omega))
  have hz7 : w.heap.size < w7.heap.size := by have := m7.size; omega
  clear T7 r7 m7 HU H1 T6 M6 HA6 t0 hw6
  have HK := Lib.hid (known_any kind w7 (HF.out.mod0 M7.out))
  go_wp2_with fail
  refine HK.out.mono ?_
  rintro e w7' ⟨rfl, he⟩
  subst he
  obtain ⟨qk, hqk⟩ : ∃ q, decide (Known kind) = q := ⟨_, rfl⟩
  rw [hqk]
  cases qk
  case false =>
    have HR : Hid (takeR l = (11, (mz 0).d)) := Lib.hid (by rw [HIN.out, if_neg (of_decide_eq_false hqk)])
    clear hqk HK HIN
    have z0 := cell_of_block (i := 0) HA7.out
    have y0 := free_of_block (i := 0) HA7.out
    have z1 := cell_of_block (i := 1) HA7.out
    have y1 := free_of_block (i := 1) HA7.out
    have z2 := cell_of_block (i := 2) HA7.out
    have y2 := free_of_block (i := 2) HA7.out
    have z3 := cell_of_block (i := 3) HA7.out
    have y3 := free_of_block (i := 3) HA7.out
    have z4 := cell_of_block (i := 4) HA7.out
    have y4 := free_of_block (i := 4) HA7.out
    have z5 := cell_of_block (i := 5) HA7.out
    have y5 := free_of_block (i := 5) HA7.out
    have z6 := cell_of_block (i := 6) HA7.out
    have y6 := free_of_block (i := 6) HA7.out
    have z7 := cell_of_block (i := 7) HA7.out
    have y7 := free_of_block (i := 7) HA7.out
    have z8 := cell_of_block (i := 8) HA7.out
    have y8 := free_of_block (i := 8) HA7.out
    simp only [List.getElem?_toArray, List.getElem?_cons_succ, List.getElem?_cons_zero] at z0 z1 z2 z3 z4 z5 z6 z7 z8
    go_wp2_with fail
    ((try simp only [Exit.inBlock, Exit.then]); refine bodyPost_ret (by simp [results, Tryd.results20, go_sem, *]; try rfl) rfl ?_)
    exact TakeM.no (M7.out.trans (T := [w.heap.size]) (((((((((Mod.setCell _ _ _ (by simp)).trans' (Mod.setCell _ _ _ (by simp))).trans' (Mod.setCell _ _ _ (by simp))).trans' (Mod.setCell _ _ _ (by simp))).trans' (Mod.setCell _ _ _ (by simp))).trans' (Mod.setCell _ _ _ (by simp))).trans' (Mod.setCell _ _ _ (by simp))).trans' (Mod.setCell _ _ _ (by simp))).trans' (Mod.setCell _ _ _ (by simp))) (by simp)) HR.out
  have hkn := of_decide_eq_true hqk
  have HIN2 : Hid (takeR l = if (takeF len (Fl kind) ((mz kind).d, s1)).2.bad = false ∧ doneR (takeF len (Fl kind) ((mz kind).d, s1)).2.e (takeF len (Fl kind) ((mz kind).d, s1)).2.l = 0 ∧ MayM (takeF len (Fl kind) ((mz kind).d, s1)).1 then (0, (takeF len (Fl kind) ((mz kind).d, s1)).1) else (11, (mz 0).d)) := Lib.hid (by rw [HIN.out, if_pos hkn])
  have e8 : IntKind.u8.wrap (kind : Int) = (kind : Int) := IntWalk.u8_in _ (by have := hkn.2; omega)
  have HC := Lib.hid (ttake_any tk g bs (len : Int) s1 kind w7' HT7.out (by omega) (by omega) hkn (HF.out.mod0 M7.out))
  have HKN := Lib.hid hkn
  clear hqk HK HIN hkn
  go_wp2_with fail
  refine HC.out.mono ?_
  rintro e w8 ⟨m, s2, rfl, hmk, htf, nm8, t8, m8⟩
  obtain ⟨rr, hrr⟩ : ∃ x, takeF (len : Int) (Fl kind) ((mz kind).d, s1) = x := ⟨_, rfl⟩
  rw [hrr] at htf HIN2
  subst htf
  have hnum : NumD m.d := by
    have := takeF_num (len : Int) (Fl kind) ((mz kind).d, s1) (by
      refine ⟨?_, by simp [mz, Mm.d, dV]⟩
      have := HKN.out.2
      unfold WfH mz Mm.d
      dsimp only
      omega)
    rw [hrr] at this
    exact this
  have HWF := Lib.hid (nm8.wf hnum)
  have HMD := Lib.hid hmk
  have NM8 := Lib.hid nm8
  have T8 := Lib.hid t8
  have M8 := Lib.hid (M7.out.trans m8 (by simp; omega))
  have HA8 := Lib.hid (m8.get HA7.out (by simp; omega))
  have hz8 : tk < w8.heap.size ∧ g < w8.heap.size := t8.tlt
  have hz78 := m8.size
  obtain ⟨w9, hw9, hb9, m9⟩ : ∃ x, w8.alloc (.cells #[.int .u8 0, .int .u64 0, .int .i64 0, .int .u64 0, .int .u64 0, .int .u64 0, .slice none 0 0, .slice none 0 0, .slice none 0 0] 29) = x ∧
    x.heap[w8.heap.size]? = some (.cells #[.int .u8 0, .int .u64 0, .int .i64 0, .int .u64 0, .int .u64 0, .int .u64 0, .slice none 0 0, .slice none 0 0, .slice none 0 0] 29 (0, 0)) ∧ Mod [] w8 x := ⟨_, rfl, heap_alloc_new w8 _, Mod.alloc _ _ _⟩
  have z0 := cell_of_block (i := 0) hb9
  have y0 := free_of_block (i := 0) hb9
  have z1 := cell_of_block (i := 1) hb9
  have y1 := free_of_block (i := 1) hb9
  have z2 := cell_of_block (i := 2) hb9
  have y2 := free_of_block (i := 2) hb9
  have z3 := cell_of_block (i := 3) hb9
  have y3 := free_of_block (i := 3) hb9
  have z4 := cell_of_block (i := 4) hb9
  have y4 := free_of_block (i := 4) hb9
  have z5 := cell_of_block (i := 5) hb9
  have y5 := free_of_block (i := 5) hb9
  have z6 := cell_of_block (i := 6) hb9
  have y6 := free_of_block (i := 6) hb9
  have z7 := cell_of_block (i := 7) hb9
  have y7 := free_of_block (i := 7) hb9
  have z8 := cell_of_block (i := 8) hb9
  have y8 := free_of_block (i := 8) hb9
  simp only [List.getElem?_toArray, List.getElem?_cons_succ, List.getElem?_cons_zero] at z0 z1 z2 z3 z4 z5 z6 z7 z8
  obtain ⟨⟨mkind, bn, br, first, last, commit⟩, vo, vc, votes, so, sc, batches, pl, po, pc⟩ := m
  dsimp only at HMD
  obtain ⟨mm, hmm⟩ : ∃ x, (⟨⟨mkind, bn, br, first, last, commit⟩, vo, vc, votes, so, sc, batches, pl, po, pc⟩ : Mm) = x := ⟨_, rfl⟩
  have HMM := Lib.hid hmm
  have HV : Hid (mC (.int .u8 (kind : Int)) mm = #[.int .u8 (kind : Int), .int .u64 (bn : Int), .int .i64 br, .int .u64 (first : Int), .int .u64 (last : Int), .int .u64 (commit : Int), .slice vo votes.length vc, .slice so batches.length sc, .slice po pl.length pc]) := Lib.hid (by rw [← hmm]; rfl)
  have HVM : Hid (msgV mm = .agg (mC (.int .u8 (kind : Int)) mm)) := Lib.hid (by rw [← hmm]; unfold msgV; dsimp only; rw [HMD.out])
  rw [hmm] at HIN2 HWF NM8 ⊢
  rw [HV.out]
  clear nm8 t8 m8 hnum hmk hrr HC HKN hmm HT7 HA7
  go_upto_region 10 with (fail)
  obtain ⟨wa, hwa⟩ : ∃ x, (((((((((w9.setCell ⟨w8.heap.size, 0, none⟩ (.int .u8 (kind : Int))).setCell ⟨w8.heap.size, 1, none⟩ (.int .u64 (bn : Int))).setCell ⟨w8.heap.size, 2, none⟩ (.int .i64 br)).setCell ⟨w8.heap.size, 3, none⟩ (.int .u64 (first : Int))).setCell ⟨w8.heap.size, 4, none⟩ (.int .u64 (last : Int))).setCell ⟨w8.heap.size, 5, none⟩ (.int .u64 (commit : Int))).setCell ⟨w8.heap.size, 6, none⟩ (.slice vo votes.length vc)).setCell ⟨w8.heap.size, 7, none⟩ (.slice so batches.length sc)).setCell ⟨w8.heap.size, 8, none⟩ (.slice po pl.length pc)) = x := ⟨_, rfl⟩
  rw [hwa]
  have hba : wa.heap[w8.heap.size]? = some (.cells #[.int .u8 (kind : Int), .int .u64 (bn : Int), .int .i64 br, .int .u64 (first : Int), .int .u64 (last : Int), .int .u64 (commit : Int), .slice vo votes.length vc, .slice so batches.length sc, .slice po pl.length pc] 29 (0, 0)) := by
    rw [← hwa]
    have h := (heap_setCell_same (i := 8) (heap_setCell_same (i := 7) (heap_setCell_same (i := 6) (heap_setCell_same (i := 5) (heap_setCell_same (i := 4) (heap_setCell_same (i := 3) (heap_setCell_same (i := 2) (heap_setCell_same (i := 1) (heap_setCell_same (i := 0) hb9 (.int .u8 (kind : Int))) (.int .u64 (bn : Int))) (.int .i64 br)) (.int .u64 (first : Int))) (.int .u64 (last : Int))) (.int .u64 (commit : Int))) (.slice vo votes.length vc)) (.slice so batches.length sc)) (.slice po pl.length pc))
    simp only [List.setIfInBounds_toArray, List.set_cons_zero, List.set_cons_succ] at h
    exact h
  have ma : Mod [] w8 wa := by
    rw [← hwa]
    exact m9.trans (T := [w8.heap.size]) (((((((((Mod.setCell _ _ _ (by simp)).trans' (Mod.setCell _ _ _ (by simp))).trans' (Mod.setCell _ _ _ (by simp))).trans' (Mod.setCell _ _ _ (by simp))).trans' (Mod.setCell _ _ _ (by simp))).trans' (Mod.setCell _ _ _ (by simp))).trans' (Mod.setCell _ _ _ (by simp))).trans' (Mod.setCell _ _ _ (by simp))).trans' (Mod.setCell _ _ _ (by simp))) (by simp)
  have HBA := Lib.hid hba
  have TA := Lib.hid (T8.out.mod0 ma)
  have NMA := Lib.hid (NM8.out.mod0 ma)
  have MA := Lib.hid (M8.out.trans' ma)
  have HAA := Lib.hid (ma.get HA8.out List.not_mem_nil)
  have hza := ma.size
  clear z0 z1 z2 z3 z4 z5 z6 z7 z8 y0 y1 y2 y3 y4 y5 y6 y7 y8 hb9 m9 hw9 hwa ma hba T8 NM8 M8 HA8
  obtain ⟨e2, l2, bad⟩ := s2
  dsimp only at HIN2
  have t0 := cell_of_block (i := 0) TA.out.at0
  have t1 := cell_of_block (i := 1) TA.out.at0
  simp only [List.getElem?_toArray, List.getElem?_cons_succ, List.getElem?_cons_zero] at t0 t1
  have d0 := cell_of_block (i := 0) HBA.out
  have d1 := cell_of_block (i := 1) HBA.out
  have d2 := cell_of_block (i := 2) HBA.out
  have d3 := cell_of_block (i := 3) HBA.out
  have d4 := cell_of_block (i := 4) HBA.out
  have d5 := cell_of_block (i := 5) HBA.out
  have d6 := cell_of_block (i := 6) HBA.out
  have d7 := cell_of_block (i := 7) HBA.out
  have d8 := cell_of_block (i := 8) HBA.out
  simp only [List.getElem?_toArray, List.getElem?_cons_succ, List.getElem?_cons_zero] at d0 d1 d2 d3 d4 d5 d6 d7 d8
  cases bad
  case true =>
    have HR : Hid (takeR l = (11, (mz 0).d)) := Lib.hid (by rw [HIN2.out, if_neg (by simp)])
    clear HIN2
    have z0 := cell_of_block (i := 0) HAA.out
    have y0 := free_of_block (i := 0) HAA.out
    have z1 := cell_of_block (i := 1) HAA.out
    have y1 := free_of_block (i := 1) HAA.out
    have z2 := cell_of_block (i := 2) HAA.out
    have y2 := free_of_block (i := 2) HAA.out
    have z3 := cell_of_block (i := 3) HAA.out
    have y3 := free_of_block (i := 3) HAA.out
    have z4 := cell_of_block (i := 4) HAA.out
    have y4 := free_of_block (i := 4) HAA.out
    have z5 := cell_of_block (i := 5) HAA.out
    have y5 := free_of_block (i := 5) HAA.out
    have z6 := cell_of_block (i := 6) HAA.out
    have y6 := free_of_block (i := 6) HAA.out
    have z7 := cell_of_block (i := 7) HAA.out
    have y7 := free_of_block (i := 7) HAA.out
    have z8 := cell_of_block (i := 8) HAA.out
    have y8 := free_of_block (i := 8) HAA.out
    simp only [List.getElem?_toArray, List.getElem?_cons_succ, List.getElem?_cons_zero] at z0 z1 z2 z3 z4 z5 z6 z7 z8
    go_wp2_with fail
    ((try simp only [Exit.inBlock, Exit.then]); refine bodyPost_ret (by simp [results, Tryd.results20, go_sem, *]; try rfl) rfl ?_)
    exact TakeM.no (MA.out.trans (T := [w.heap.size]) (((((((((Mod.setCell _ _ _ (by simp)).trans' (Mod.setCell _ _ _ (by simp))).trans' (Mod.setCell _ _ _ (by simp))).trans' (Mod.setCell _ _ _ (by simp))).trans' (Mod.setCell _ _ _ (by simp))).trans' (Mod.setCell _ _ _ (by simp))).trans' (Mod.setCell _ _ _ (by simp))).trans' (Mod.setCell _ _ _ (by simp))).trans' (Mod.setCell _ _ _ (by simp))) (by simp)) HR.out
  have HDN := Lib.hid (rdone_any g bs e2 l2 (len : Int) wa TA.out.rd)
  obtain ⟨dn, hdn⟩ : ∃ x, doneR e2 l2 = x := ⟨_, rfl⟩
  rw [hdn] at HIN2 HDN
  clear hdn
  go_wp2_with fail
  refine HDN.out.mono ?_
  rintro e wd ⟨rfl, -, md⟩
  have MD := Lib.hid (MA.out.trans md (by simp; omega))
  have NMD := Lib.hid (NMA.out.off md (by simp; omega))
  have HAD := Lib.hid (md.get HAA.out (by simp; omega))
  have HBD := Lib.hid (md.get HBA.out (by simp; omega))
  have hzd := md.size
  clear md HDN TA t0 t1 NMA MA HAA HBA d0 d1 d2 d3 d4 d5 d6 d7 d8
  have d0 := cell_of_block (i := 0) HBD.out
  have d1 := cell_of_block (i := 1) HBD.out
  have d2 := cell_of_block (i := 2) HBD.out
  have d3 := cell_of_block (i := 3) HBD.out
  have d4 := cell_of_block (i := 4) HBD.out
  have d5 := cell_of_block (i := 5) HBD.out
  have d6 := cell_of_block (i := 6) HBD.out
  have d7 := cell_of_block (i := 7) HBD.out
  have d8 := cell_of_block (i := 8) HBD.out
  simp only [List.getElem?_toArray, List.getElem?_cons_succ, List.getElem?_cons_zero] at d0 d1 d2 d3 d4 d5 d6 d7 d8
  by_cases hd0 : dn = 0
  case neg =>
    have HR : Hid (takeR l = (11, (mz 0).d)) := Lib.hid (by rw [HIN2.out, if_neg (by simp [hd0])])
    have Dd : (dn != 0) = true := by simp [hd0]
    clear HIN2 hd0
    have z0 := cell_of_block (i := 0) HAD.out
    have y0 := free_of_block (i := 0) HAD.out
    have z1 := cell_of_block (i := 1) HAD.out
    have y1 := free_of_block (i := 1) HAD.out
    have z2 := cell_of_block (i := 2) HAD.out
    have y2 := free_of_block (i := 2) HAD.out
    have z3 := cell_of_block (i := 3) HAD.out
    have y3 := free_of_block (i := 3) HAD.out
    have z4 := cell_of_block (i := 4) HAD.out
    have y4 := free_of_block (i := 4) HAD.out
    have z5 := cell_of_block (i := 5) HAD.out
    have y5 := free_of_block (i := 5) HAD.out
    have z6 := cell_of_block (i := 6) HAD.out
    have y6 := free_of_block (i := 6) HAD.out
    have z7 := cell_of_block (i := 7) HAD.out
    have y7 := free_of_block (i := 7) HAD.out
    have z8 := cell_of_block (i := 8) HAD.out
    have y8 := free_of_block (i := 8) HAD.out
    simp only [List.getElem?_toArray, List.getElem?_cons_succ, List.getElem?_cons_zero] at z0 z1 z2 z3 z4 z5 z6 z7 z8
    go_wp2_with fail
    ((try simp only [Exit.inBlock, Exit.then]); refine bodyPost_ret (by simp [results, Tryd.results20, go_sem, *]; try rfl) rfl ?_)
    exact TakeM.no (MD.out.trans (T := [w.heap.size]) (((((((((Mod.setCell _ _ _ (by simp)).trans' (Mod.setCell _ _ _ (by simp))).trans' (Mod.setCell _ _ _ (by simp))).trans' (Mod.setCell _ _ _ (by simp))).trans' (Mod.setCell _ _ _ (by simp))).trans' (Mod.setCell _ _ _ (by simp))).trans' (Mod.setCell _ _ _ (by simp))).trans' (Mod.setCell _ _ _ (by simp))).trans' (Mod.setCell _ _ _ (by simp))) (by simp)) HR.out
  subst hd0
  have HCK := Lib.hid (check_any mm wd NMD.out.sees HWF.out (HF.out.mod0 MD.out))
  rw [HVM.out, HV.out] at HCK
  obtain ⟨q2, hq2⟩ : ∃ q, decide (MayM mm.d) = q := ⟨_, rfl⟩
  have hck : checkE mm.d = if q2 = true then 0 else 1 := by
    unfold checkE
    cases q2
    · rw [if_neg (of_decide_eq_false hq2), if_neg (by decide)]
    · rw [if_pos (of_decide_eq_true hq2), if_pos rfl]
  rw [hck] at HCK
  clear hck
  cases q2
  case false =>
    have HR : Hid (takeR l = (11, (mz 0).d)) := Lib.hid (by rw [HIN2.out, if_neg (fun h => (of_decide_eq_false hq2) h.2.2)])
    clear HIN2 hq2
    rw [if_neg (by decide)] at HCK
    go_wp2_with fail
    refine HCK.out.mono ?_
    rintro e we ⟨rfl, me⟩
    have ME := Lib.hid (MD.out.trans' me)
    have HAE := Lib.hid (me.get HAD.out List.not_mem_nil)
    clear me HCK
    have z0 := cell_of_block (i := 0) HAE.out
    have y0 := free_of_block (i := 0) HAE.out
    have z1 := cell_of_block (i := 1) HAE.out
    have y1 := free_of_block (i := 1) HAE.out
    have z2 := cell_of_block (i := 2) HAE.out
    have y2 := free_of_block (i := 2) HAE.out
    have z3 := cell_of_block (i := 3) HAE.out
    have y3 := free_of_block (i := 3) HAE.out
    have z4 := cell_of_block (i := 4) HAE.out
    have y4 := free_of_block (i := 4) HAE.out
    have z5 := cell_of_block (i := 5) HAE.out
    have y5 := free_of_block (i := 5) HAE.out
    have z6 := cell_of_block (i := 6) HAE.out
    have y6 := free_of_block (i := 6) HAE.out
    have z7 := cell_of_block (i := 7) HAE.out
    have y7 := free_of_block (i := 7) HAE.out
    have z8 := cell_of_block (i := 8) HAE.out
    have y8 := free_of_block (i := 8) HAE.out
    simp only [List.getElem?_toArray, List.getElem?_cons_succ, List.getElem?_cons_zero] at z0 z1 z2 z3 z4 z5 z6 z7 z8
    go_wp2_with fail
    ((try simp only [Exit.inBlock, Exit.then]); refine bodyPost_ret (by simp [results, Tryd.results20, go_sem, *]; try rfl) rfl ?_)
    exact TakeM.no (ME.out.trans (T := [w.heap.size]) (((((((((Mod.setCell _ _ _ (by simp)).trans' (Mod.setCell _ _ _ (by simp))).trans' (Mod.setCell _ _ _ (by simp))).trans' (Mod.setCell _ _ _ (by simp))).trans' (Mod.setCell _ _ _ (by simp))).trans' (Mod.setCell _ _ _ (by simp))).trans' (Mod.setCell _ _ _ (by simp))).trans' (Mod.setCell _ _ _ (by simp))).trans' (Mod.setCell _ _ _ (by simp))) (by simp)) HR.out
  have HR : Hid (takeR l = (0, mm.d)) := Lib.hid (by rw [HIN2.out, if_pos (by simp [of_decide_eq_true hq2])])
  clear HIN2 hq2
  rw [if_pos rfl] at HCK
  go_wp2_with fail
  refine HCK.out.mono ?_
  rintro e we ⟨rfl, me⟩
  have ME := Lib.hid (MD.out.trans' me)
  have NME := Lib.hid (NMD.out.mod0 me)
  have HAE := Lib.hid (me.get HAD.out List.not_mem_nil)
  have HBE := Lib.hid (me.get HBD.out List.not_mem_nil)
  clear me HCK d0 d1 d2 d3 d4 d5 d6 d7 d8
  have z0 := cell_of_block (i := 0) HAE.out
  have y0 := free_of_block (i := 0) HAE.out
  have z1 := cell_of_block (i := 1) HAE.out
  have y1 := free_of_block (i := 1) HAE.out
  have z2 := cell_of_block (i := 2) HAE.out
  have y2 := free_of_block (i := 2) HAE.out
  have z3 := cell_of_block (i := 3) HAE.out
  have y3 := free_of_block (i := 3) HAE.out
  have z4 := cell_of_block (i := 4) HAE.out
  have y4 := free_of_block (i := 4) HAE.out
  have z5 := cell_of_block (i := 5) HAE.out
  have y5 := free_of_block (i := 5) HAE.out
  have z6 := cell_of_block (i := 6) HAE.out
  have y6 := free_of_block (i := 6) HAE.out
  have z7 := cell_of_block (i := 7) HAE.out
  have y7 := free_of_block (i := 7) HAE.out
  have z8 := cell_of_block (i := 8) HAE.out
  have y8 := free_of_block (i := 8) HAE.out
  simp only [List.getElem?_toArray, List.getElem?_cons_succ, List.getElem?_cons_zero] at z0 z1 z2 z3 z4 z5 z6 z7 z8
  have d0 := cell_of_block (i := 0) HBE.out
  have d1 := cell_of_block (i := 1) HBE.out
  have d2 := cell_of_block (i := 2) HBE.out
  have d3 := cell_of_block (i := 3) HBE.out
  have d4 := cell_of_block (i := 4) HBE.out
  have d5 := cell_of_block (i := 5) HBE.out
  have d6 := cell_of_block (i := 6) HBE.out
  have d7 := cell_of_block (i := 7) HBE.out
  have d8 := cell_of_block (i := 8) HBE.out
  simp only [List.getElem?_toArray, List.getElem?_cons_succ, List.getElem?_cons_zero] at d0 d1 d2 d3 d4 d5 d6 d7 d8
  go_wp2_with fail
  ((try simp only [Exit.inBlock, Exit.then]); refine bodyPost_ret (by simp [results, Tryd.results20, go_sem, *]; try rfl) rfl ?_)
  refine ⟨mm, by rw [HVM.out, HV.out, HR.out], by rw [HR.out], ?_, HWF.out, ME.out.trans (T := [w.heap.size]) (((((((((Mod.setCell _ _ _ (by simp)).trans' (Mod.setCell _ _ _ (by simp))).trans' (Mod.setCell _ _ _ (by simp))).trans' (Mod.setCell _ _ _ (by simp))).trans' (Mod.setCell _ _ _ (by simp))).trans' (Mod.setCell _ _ _ (by simp))).trans' (Mod.setCell _ _ _ (by simp))).trans' (Mod.setCell _ _ _ (by simp))).trans' (Mod.setCell _ _ _ (by simp))) (by simp)⟩
  exact (NME.out.off (S := [w.heap.size]) (((((((((Mod.setCell _ _ _ (by simp)).trans' (Mod.setCell _ _ _ (by simp))).trans' (Mod.setCell _ _ _ (by simp))).trans' (Mod.setCell _ _ _ (by simp))).trans' (Mod.setCell _ _ _ (by simp))).trans' (Mod.setCell _ _ _ (by simp))).trans' (Mod.setCell _ _ _ (by simp))).trans' (Mod.setCell _ _ _ (by simp))).trans' (Mod.setCell _ _ _ (by simp))) (by simp; omega)).grow (by omega)
end Go.Proofs.YtekdnljincbghaaDoor
