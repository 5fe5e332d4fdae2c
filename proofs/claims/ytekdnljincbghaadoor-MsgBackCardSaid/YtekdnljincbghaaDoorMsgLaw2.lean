/- What is put is taken; a bit that turned is told: plain laws. -/
import Derived.Test.YtekdnljincbghaaDoorMsgLaw
namespace Go.Proofs.YtekdnljincbghaaDoor
open Go Go.RowKit Go.Lib

theorem uint_write (v : Nat) (rest : List UInt8) (b : Bool) (h : v < 18446744073709551616) : St.uint ⟨0, enc7 v ++ rest, b⟩ = (v, ⟨0, rest, b⟩) := by
  unfold St.uint
  dsimp only
  rw [uintE_write v rest h]
theorem ball_write (n : Nat) (r : Int) (rest : List UInt8) (h : n < 18446744073709551616) (hr : Place r) : St.ball ⟨0, ballB n r ++ rest, false⟩ = ((n, r.toNat), ⟨0, rest, false⟩) := by
  have h1 := hr.1
  have h2 := hr.2
  unfold St.ball takeB ballB
  dsimp only
  rw [List.append_assoc, uintE_write n _ h]
  dsimp only
  rw [uintE_write r.toNat rest (by omega)]
  dsimp only
  rw [if_neg (by simp), if_neg (by omega)]
  rfl
theorem text_write (lim : Int) (t rest : List UInt8) (b : Bool) (h : (t.length : Int) ≤ lim) (h2 : t.length < 18446744073709551616) : St.text lim ⟨0, txL t ++ rest, b⟩ = (t, ⟨0, rest, b⟩) := by
  unfold St.text txL
  dsimp only
  rw [textR_write lim t rest h h2]
theorem vote_write (lim : Int) (v : Vd × List UInt8) (rest : List UInt8) (hw : WfV v.1) (hp : Place v.1.r) (h : (v.2.length : Int) ≤ lim) (h2 : v.2.length < 18446744073709551616) : St.vote lim ⟨0, voteB v ++ rest, false⟩ = (v, ⟨0, rest, false⟩) := by
  obtain ⟨⟨sl, n, r⟩, t⟩ := v
  have h3 := hp.1
  unfold St.vote voteB
  dsimp only at *
  rw [List.append_assoc, List.append_assoc, uint_write sl _ _ hw.1]
  dsimp only
  rw [ball_write n r _ hw.2.1 hp]
  dsimp only
  rw [text_write lim t rest false h h2]
  have e : ((r.toNat : Nat) : Int) = r := by omega
  rw [e]
theorem rep_write {α : Type} (f : St → α × St) (enc : α → List UInt8) (l : List α) (h : ∀ x ∈ l, ∀ rest, f ⟨0, enc x ++ rest, false⟩ = (x, ⟨0, rest, false⟩)) (rest : List UInt8) :
    ∀ k, k ≤ l.length → St.rep f k ⟨0, l.flatMap enc ++ rest, false⟩ = (l.take k, ⟨0, (l.drop k).flatMap enc ++ rest, false⟩) := by
  intro k
  induction k with
  | zero => intro _; rfl
  | succ k ih =>
    intro hk
    rw [rep_succ, ih (by omega)]
    dsimp only
    have hlt : k < l.length := by omega
    rw [List.drop_eq_getElem_cons hlt, List.flatMap_cons, List.append_assoc, h _ (List.getElem_mem hlt), List.take_succ_eq_append_getElem hlt]
theorem rows_write {α : Type} (f : St → α × St) (enc : α → List UInt8) (most : Nat) (l : List α) (h : ∀ x ∈ l, ∀ rest, f ⟨0, enc x ++ rest, false⟩ = (x, ⟨0, rest, false⟩)) (rest : List UInt8) (hm : l.length ≤ most) (hs : l.length < 18446744073709551616) :
    St.rows most f ⟨0, (enc7 l.length ++ l.flatMap enc) ++ rest, false⟩ = (l, ⟨0, rest, false⟩) := by
  unfold St.rows
  rw [List.append_assoc, uint_write _ _ _ hs]
  dsimp only
  rw [if_neg (by omega), rep_write f enc l h rest l.length (Nat.le_refl _)]
  simp
/-- A field is laid over. -/
def updF (d : Md) (c : UInt8) (x : Md) : Md :=
  if c = 98 then ⟨⟨x.h.kind, d.h.bn, d.h.br, x.h.first, x.h.last, x.h.commit⟩, x.votes, x.batches, x.snap⟩
  else if c = 99 then ⟨⟨x.h.kind, x.h.bn, x.h.br, x.h.first, x.h.last, d.h.commit⟩, x.votes, x.batches, x.snap⟩
  else if c = 102 then ⟨⟨x.h.kind, x.h.bn, x.h.br, d.h.first, x.h.last, x.h.commit⟩, x.votes, x.batches, x.snap⟩
  else if c = 108 then ⟨⟨x.h.kind, x.h.bn, x.h.br, x.h.first, d.h.last, x.h.commit⟩, x.votes, x.batches, x.snap⟩
  else if c = 112 then ⟨x.h, x.votes, x.batches, d.snap⟩
  else if c = 115 then ⟨x.h, x.votes, d.batches, x.snap⟩
  else if c = 118 then ⟨x.h, d.votes, x.batches, x.snap⟩
  else x
theorem mem_flat_le {α : Type} (f : α → List UInt8) (l : List α) (x : α) (h : x ∈ l) : (f x).length ≤ (l.flatMap f).length := by
  obtain ⟨s, t, rfl⟩ := List.append_of_mem h
  rw [List.flatMap_append, List.flatMap_cons, List.length_append, List.length_append]
  omega
/-- Texts fit a reader's limit. -/
def FitD (d : Md) (lim : Int) : Prop := (d.snap.length : Int) ≤ lim ∧ (∀ b ∈ d.batches, (b.length : Int) ≤ lim) ∧ ∀ v ∈ d.votes, (v.2.length : Int) ≤ lim
theorem txL_ge (l : List UInt8) : l.length ≤ (txL l).length := by unfold txL; simp
theorem voteB_ge (v : Vd × List UInt8) : v.2.length ≤ (voteB v).length := by
  have := txL_ge v.2
  unfold voteB
  simp only [List.length_append]
  omega
theorem setF_write (lim : Int) (d : Md) (c : UInt8) (hc : Letter c) (x : Md) (rest : List UInt8) (hM : MayM d) (hn : NumD d) (hlim : lim < 18446744073709551616) (hf : FitD d lim) :
    setF lim c (x, ⟨0, fieldB d c ++ rest, false⟩) = (updF d c x, ⟨0, rest, false⟩) := by
  obtain ⟨⟨n1, n2, n3, n4, n5, n6⟩, n7⟩ := hn
  have hp := hM.2.2.1
  have hL : Lists d := hM.2.2.2.2.2.2.2.2.2.2
  rcases hc with rfl | rfl | rfl | rfl | rfl | rfl | rfl
  · unfold setF updF fieldB
    rw [if_pos rfl, if_pos rfl, if_pos rfl]
    dsimp only
    rw [ball_write _ _ _ n2 hp]
    have e : ((d.h.br.toNat : Nat) : Int) = d.h.br := by have := hp.1; omega
    dsimp only
    rw [e]
  · show (_, _) = _
    have e := uint_write d.h.commit rest false n6
    have e2 : fieldB d 99 = enc7 d.h.commit := rfl
    rw [e2, e]
    rfl
  · show (_, _) = _
    have e := uint_write d.h.first rest false n4
    have e2 : fieldB d 102 = enc7 d.h.first := rfl
    rw [e2, e]
    rfl
  · show (_, _) = _
    have e := uint_write d.h.last rest false n5
    have e2 : fieldB d 108 = enc7 d.h.last := rfl
    rw [e2, e]
    rfl
  · show (_, _) = _
    have e := text_write lim d.snap rest false hf.1 (by have := hf.1; omega)
    have e2 : fieldB d 112 = txL d.snap := rfl
    rw [e2, e]
    rfl
  · show (_, _) = _
    have e := rows_write (St.text lim) txL 16 d.batches (fun b hb rest => text_write lim b rest false (hf.2.1 b hb) (by have := hf.2.1 b hb; omega)) rest hL.1 (by have := hL.1; omega)
    have e2 : fieldB d 115 = enc7 d.batches.length ++ d.batches.flatMap txL := rfl
    rw [e2, e]
    rfl
  · show (_, _) = _
    have e := rows_write (St.vote lim) voteB 256 d.votes (fun v hv rest => vote_write lim v rest (n7 v hv) (hL.2.2.2.2.place v hv) (hf.2.2 v hv) (by have := hf.2.2 v hv; omega)) rest hL.2.1 (by have := hL.2.1; omega)
    have e2 : fieldB d 118 = enc7 d.votes.length ++ d.votes.flatMap voteB := rfl
    rw [e2, e]
    rfl
theorem takeF_write (lim : Int) (d : Md) (hM : MayM d) (hn : NumD d) (hlim : lim < 18446744073709551616) (hf : FitD d lim) (rest : List UInt8) : ∀ (l : List UInt8) (x : Md), (∀ c ∈ l, Letter c) →
    takeF lim l (x, ⟨0, l.flatMap (fieldB d) ++ rest, false⟩) = (l.foldl (fun y c => updF d c y) x, ⟨0, rest, false⟩) := by
  intro l
  induction l with
  | nil => intro x _; rfl
  | cons c l ih =>
    intro x hl
    show takeF lim l (setF lim c _) = _
    rw [List.flatMap_cons, List.append_assoc, setF_write lim d c (hl c (by simp)) x _ hM hn hlim hf, ih _ (fun y hy => hl y (by simp [hy]))]
    rfl
theorem upd_all (d : Md) (hM : MayM d) : (Fl d.h.kind).foldl (fun y c => updF d c y) (mz d.h.kind).d = d := by
  obtain ⟨hk, hb, hp, hc, hf, hl, hl2, hs, hbt, hv, hL⟩ := hM
  obtain ⟨⟨kind, bn, br, first, last, commit⟩, votes, batches, snap⟩ := d
  dsimp only at *
  have n1 : ∀ {l : List (Vd × List UInt8)}, ¬ (0 < l.length) → l = [] := fun h => List.eq_nil_of_length_eq_zero (by omega)
  have n2 : ∀ {l : List (List UInt8)}, ¬ (0 < l.length) → l = [] := fun h => List.eq_nil_of_length_eq_zero (by omega)
  have n3 : ∀ {l : List UInt8}, ¬ (0 < l.length) → l = [] := fun h => List.eq_nil_of_length_eq_zero (by omega)
  obtain ⟨k1, k2⟩ := hk
  have hcases : kind = 1 ∨ kind = 2 ∨ kind = 3 ∨ kind = 4 ∨ kind = 5 ∨ kind = 6 ∨ kind = 7 ∨ kind = 8 := by omega
  have hb' : 98 ∉ Fl kind → bn = 0 ∧ br = 0 := fun h => Classical.not_not.1 (fun h2 => hb ⟨h, h2⟩)
  have hc' : 99 ∉ Fl kind → commit = 0 := fun h => Classical.not_not.1 (fun h2 => hc ⟨h, h2⟩)
  have hl' : 108 ∉ Fl kind → last = 0 := fun h => Classical.not_not.1 (fun h2 => hl ⟨h, h2⟩)
  have hf' : 102 ∉ Fl kind → first = 0 := fun h => hf.1 h
  have hs' : 112 ∉ Fl kind → snap = [] := fun h => n3 (fun h2 => hs ⟨h, h2⟩)
  have hbt' : 115 ∉ Fl kind → batches = [] := fun h => n2 (fun h2 => hbt ⟨h, h2⟩)
  have hv' : 118 ∉ Fl kind → votes = [] := fun h => n1 (fun h2 => hv ⟨h, h2⟩)
  clear hb hc hl hf hs hbt hv n1 n2 n3
  rcases hcases with rfl | rfl | rfl | rfl | rfl | rfl | rfl | rfl
  · rw [hc' (by decide), hl' (by decide), hf' (by decide), hs' (by decide), hbt' (by decide), hv' (by decide)]; rfl
  · rw [hl' (by decide), hf' (by decide), hs' (by decide), hbt' (by decide)]; rfl
  · rw [hc' (by decide), hl' (by decide), hf' (by decide), hs' (by decide), hbt' (by decide), hv' (by decide)]; rfl
  · rw [hl' (by decide), hs' (by decide), hv' (by decide)]; rfl
  · rw [hc' (by decide), hs' (by decide), hbt' (by decide), hv' (by decide)]; rfl
  · rw [(hb' (by decide)).1, (hb' (by decide)).2, hc' (by decide), hl' (by decide), hs' (by decide), hbt' (by decide), hv' (by decide)]; rfl
  · rw [(hb' (by decide)).1, (hb' (by decide)).2, hc' (by decide), hl' (by decide), hs' (by decide), hv' (by decide)]; rfl
  · rw [(hb' (by decide)).1, (hb' (by decide)).2, hc' (by decide), hl' (by decide), hbt' (by decide), hv' (by decide)]; rfl
theorem fit_of (d : Md) (hM : MayM d) : FitD d ((msgB d).length : Int) := by
  obtain ⟨hk, hb, hp, hc, hf, hl, hl2, hs, hbt, hv, hL⟩ := hM
  have hle : ∀ c ∈ Fl d.h.kind, (fieldB d c).length ≤ (msgB d).length := fun c h => by
    have := mem_flat_le (fieldB d) (Fl d.h.kind) c h
    unfold msgB insideB
    simp only [List.length_append]
    omega
  refine ⟨?_, fun b hb => ?_, fun v hv2 => ?_⟩
  · by_cases h : 112 ∈ Fl d.h.kind
    · have h1 := hle 112 h
      have h2 := txL_ge d.snap
      have e : fieldB d 112 = txL d.snap := rfl
      rw [e] at h1
      omega
    · have : ¬ 0 < d.snap.length := fun h2 => hs ⟨h, h2⟩
      omega
  · by_cases h : 115 ∈ Fl d.h.kind
    · have h1 := hle 115 h
      have h2 := txL_ge b
      have h3 := mem_flat_le txL d.batches b hb
      have e : fieldB d 115 = enc7 d.batches.length ++ d.batches.flatMap txL := rfl
      rw [e, List.length_append] at h1
      omega
    · have : ¬ 0 < d.batches.length := fun h2 => hbt ⟨h, h2⟩
      have := List.length_pos_of_mem hb
      omega
  · by_cases h : 118 ∈ Fl d.h.kind
    · have h1 := hle 118 h
      have h2 := voteB_ge v
      have h3 := mem_flat_le voteB d.votes v hv2
      have e : fieldB d 118 = enc7 d.votes.length ++ d.votes.flatMap voteB := rfl
      rw [e, List.length_append] at h1
      omega
    · have : ¬ 0 < d.votes.length := fun h2 => hv ⟨h, h2⟩
      have := List.length_pos_of_mem hv2
      omega
theorem sum4_len (l : List UInt8) : (sum4 l).length = 4 := rfl
theorem msgB_take (d : Md) : (msgB d).take 4 = sum4 (insideB d) := by unfold msgB; exact List.take_left' rfl
theorem msgB_drop (d : Md) : (msgB d).drop 4 = insideB d := by unfold msgB; exact List.drop_left' rfl
theorem insideB_pos (d : Md) : 1 ≤ (insideB d).length := by
  unfold insideB
  have := (enc7_length d.h.kind).1
  rw [List.length_append]
  omega
theorem msgB_len (d : Md) : (msgB d).length = 4 + (insideB d).length := by unfold msgB; rw [List.length_append, sum4_len]
/-- What is put is taken. -/
theorem takeR_write (d : Md) (hM : MayM d) (hn : NumD d) (hs : (msgB d).length < 18446744073709551616) : takeR (msgB d) = (0, d) := by
  have hk := hM.1
  have hk9 : d.h.kind < 9 := by have := hk.2; omega
  unfold takeR
  rw [if_neg (by have := insideB_pos d; rw [msgB_len]; omega), msgB_take, msgB_drop, if_pos rfl]
  unfold insR
  have hu : St.uint ⟨0, (msgB d).drop 4, false⟩ = (d.h.kind, ⟨0, (Fl d.h.kind).flatMap (fieldB d), false⟩) := by
    rw [msgB_drop]
    unfold insideB
    exact uint_write _ _ _ (by omega)
  rw [hu]
  dsimp only
  have ht := takeF_write ((msgB d).length : Int) d hM hn (by omega) (fit_of d hM) [] (Fl d.h.kind) (mz d.h.kind).d (Fl_letter _ hk9)
  rw [List.append_nil, upd_all d hM] at ht
  rw [if_pos hk, ht]
  dsimp only
  rw [if_pos ⟨rfl, rfl, hM⟩]
theorem msgB_inj (d d' : Md) (hM : MayM d) (hn : NumD d) (hs : (msgB d).length < 18446744073709551616) (hM' : MayM d') (hn' : NumD d') (hs' : (msgB d').length < 18446744073709551616) : msgB d = msgB d' ↔ d = d' := by
  constructor
  · intro h
    have h1 := takeR_write d hM hn hs
    rw [h, takeR_write d' hM' hn' hs'] at h1
    simpa using h1.symm
  · intro h
    rw [h]
/-- Bytes whose sum is not theirs. -/
theorem takeR_sum (l : List UInt8) (h5 : 5 ≤ l.length) (h : sum4 (l.drop 4) ≠ l.take 4) : takeR l = (12, (mz 0).d) := by
  unfold takeR
  rw [if_neg (by omega), if_neg h]
theorem sum4_inj (a b : List UInt8) (h : sum4 a = sum4 b) : moreC T0 0 a = moreC T0 0 b := by
  have ha := moreC_lo a
  have hb := moreC_lo b
  have ha' : sumN a < 4294967296 := by unfold sumN; omega
  have hb' : sumN b < 4294967296 := by unfold sumN; omega
  unfold sum4 at h
  simp only [List.cons.injEq, and_true] at h
  have e : ∀ {x y : Nat}, UInt8.ofNat (x % 256) = UInt8.ofNat (y % 256) → x % 256 = y % 256 := fun {x y} h => by
    have := congrArg UInt8.toNat h
    rw [UInt8.toNat_ofNat', UInt8.toNat_ofNat'] at this
    omega
  obtain ⟨h1, h2, h3, h4⟩ := h
  have g1 := e h1
  have g2 := e h2
  have g3 := e h3
  have g4 := e h4
  have : sumN a = sumN b := by omega
  rw [← sumN_eq, ← sumN_eq, this]
theorem crc_flip (l : List UInt8) (r : Nat) (h : r < 8 * l.length) : moreC T0 0 (flip l r) ≠ moreC T0 0 l := by
  have hT : ∀ i, i < 16 → T0 i = T0 i := fun _ _ => rfl
  rw [sum_B T0 hT, sum_B T0 hT]
  intro hc
  have h1 := congrArg toB hc
  rw [toB_ofB, toB_ofB] at h1
  unfold crcB at h1
  rw [foldB_flip l _ r h] at h1
  have h2 : stn (8 * l.length - r) 1#32 = 0#32 := by
    have h3 : ∀ (a s m : B32), (a ^^^ s) ^^^ m = a ^^^ m → s = 0#32 := fun a s m h => by
      have h4 : (a ^^^ m) ^^^ ((a ^^^ s) ^^^ m) = 0#32 := by rw [h]; exact BitVec.xor_self
      have h5 : (a ^^^ m) ^^^ ((a ^^^ s) ^^^ m) = s := by
        ext i hi
        simp only [BitVec.getElem_xor]
        cases a[i] <;> cases s[i] <;> cases m[i] <;> rfl
      rw [h5] at h4
      exact h4
    exact h3 _ _ _ h1
  have h3 := stn_inj0 _ _ h2
  exact absurd h3 (by decide)
/-- A bit that turned is told. -/
theorem takeR_flip (l : List UInt8) (r : Nat) (h5 : 5 ≤ l.length) (hs : sum4 (l.drop 4) = l.take 4) (hr : r < 8 * l.length) : takeR (flip l r) = (12, (mz 0).d) := by
  refine takeR_sum _ (by rw [flip_length]; exact h5) ?_
  by_cases h4 : r / 8 < 4
  · have e1 : (flip l r).drop 4 = l.drop 4 := by
      rw [flip_set l r (by omega), List.drop_set_of_lt h4]
    have e2 : (flip l r).take 4 ≠ l.take 4 := by
      rw [flip_set l r (by omega)]
      intro hc
      have h6 := congrArg (fun x => x[r / 8]?) hc
      simp only [List.getElem?_take, if_pos h4] at h6
      rw [List.getElem?_set_self (by omega), List.getElem?_eq_getElem (by omega)] at h6
      simp only [Option.some.injEq] at h6
      have h7 := congrArg UInt8.toNat h6
      rw [turnU_toNat _ _ (by omega)] at h7
      have h8 : l[r / 8].toNat ^^^ (l[r / 8].toNat ^^^ 2 ^ (r % 8)) = 2 ^ (r % 8) := by rw [← Nat.xor_assoc, Nat.xor_self, Nat.zero_xor]
      rw [h7, Nat.xor_self] at h8
      have := Nat.two_pow_pos (r % 8)
      omega
    rw [e1, hs]
    exact fun h => e2 h.symm
  · have e1 : (flip l r).take 4 = l.take 4 := by
      rw [flip_set l r (by omega), List.take_set_of_le (by omega)]
    have e2 : (flip l r).drop 4 = flip (l.drop 4) (r - 32) := by
      have hd : (r - 32) / 8 = r / 8 - 4 := by omega
      have hm : (r - 32) % 8 = r % 8 := by omega
      rw [flip_set l r (by omega), flip_set (l.drop 4) (r - 32) (by rw [List.length_drop]; omega)]
      rw [List.drop_set, if_neg h4]
      have hg : 4 + (r / 8 - 4) = r / 8 := by omega
      simp only [hd, hm, List.getElem_drop, hg]
    rw [e1, ← hs, e2]
    intro hc
    exact crc_flip (l.drop 4) (r - 32) (by rw [List.length_drop]; omega) (sum4_inj _ _ hc)
end Go.Proofs.YtekdnljincbghaaDoor
