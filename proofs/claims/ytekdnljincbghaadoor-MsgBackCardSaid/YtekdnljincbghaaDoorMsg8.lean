/- Rows that are read: the walks of msg.rows. -/
import Derived.Test.YtekdnljincbghaaDoorMsg7
namespace Go.Proofs.YtekdnljincbghaaDoor
open Go Go.RowKit Go.Lib

/-- Rows of unlike types lie apart. -/
theorem own_apart {w : World} {e e' : TypeId} {z z' n n' c c' : Nat} {ao bo : Option Addr} {xs ys : List Value} (h : Own w e z ao n c xs) (h' : Own w e' z' bo n' c' ys) (hne : e ≠ e') : ∀ k, k ∈ blk ao → k ∉ blk bo := by
  intro k hk hk'
  rcases h.2 with ⟨rfl, _⟩ | ⟨g, cur, fz, rfl, hg, _⟩
  · simp [blk] at hk
  · rcases h'.2 with ⟨rfl, _⟩ | ⟨g', cur', fz', rfl, hg', _⟩
    · simp [blk] at hk'
    · simp only [blk, List.mem_singleton] at hk hk'
      subst hk
      subst hk'
      rw [hg] at hg'
      simp only [Option.some.injEq, Obj.cells.injEq] at hg'
      exact hne hg'.2.1
theorem infoBs : (Tryd.prog.info? 27).map (fun i => (i.zero, i.size, i.bytes)) = some (some (.slice none 0 0), 1, 24) := by kernel_rfl
theorem infoVote : (Tryd.prog.info? 52).map (fun i => (i.zero, i.size, i.bytes)) = some (some (.agg #[.int .u64 0, .int .u64 0, .int .i64 0, .slice none 0 0]), 4, 48) := by kernel_rfl
/-- A row of rows of bytes, all of the call's own. -/
structure NewBs (B : Nat) (w : World) (so : Option Addr) (sc : Nat) (l : List Bs) : Prop where
  own : OwnM bsV w 27 so sc l
  at' : ∀ k, k ∈ blk so → B ≤ k
  el : ∀ b ∈ l, NewB B w b
theorem NewBs.nil (B : Nat) (w : World) : NewBs B w none 0 [] := ⟨OwnM.nil _ _ _, by simp [blk], by simp⟩
theorem NewBs.off {B : Nat} {S : List Nat} {w w' : World} {so : Option Addr} {sc : Nat} {l : List Bs} (h : NewBs B w so sc l) (m : Mod S w w') (hS : ∀ k, k ∈ S → k < B) : NewBs B w' so sc l :=
  ⟨h.own.mod m (fun k hk hs => by have := h.at' k hk; have := hS k hs; omega), h.at', fun b hb => (h.el b hb).off m hS⟩
theorem NewBs.mod0 {B : Nat} {w w' : World} {so : Option Addr} {sc : Nat} {l : List Bs} (h : NewBs B w so sc l) (m : Mod [] w w') : NewBs B w' so sc l := h.off m (by simp)
theorem NewBs.grow {B B' : Nat} {w : World} {so : Option Addr} {sc : Nat} {l : List Bs} (h : NewBs B w so sc l) (hb : B' ≤ B) : NewBs B' w so sc l := ⟨h.own, fun k hk => Nat.le_trans hb (h.at' k hk), fun b hb' => (h.el b hb').grow hb⟩
theorem NewBs.app {B : Nat} {w w' : World} {so so' : Option Addr} {sc sc' : Nat} {l : List Bs} {b : Bs} (h : NewBs B w so sc l) (hb : NewB B w b) (o : OwnM bsV w' 27 so' sc' (l ++ [b])) (m : Mod (blk so) w w') (n : SameOrNew w w' so so') (hB : B ≤ w.heap.size) : NewBs B w' so' sc' (l ++ [b]) := by
  refine ⟨o, fun k hk => ?_, fun b' hb' => ?_⟩
  · rcases n.blk k hk with h1 | h1
    · exact h.at' k h1
    · omega
  · have h1 : NewB B w b' := by
      rcases List.mem_append.1 hb' with h1 | h1
      · exact h.el b' h1
      · simp only [List.mem_singleton] at h1
        subst h1
        exact hb
    exact h1.mod m (own_apart h1.1 h.own (by decide))
def cellsV (l : List Vm) : List Value := l.flatMap voteC
theorem cellsV_length : ∀ (l : List Vm), (cellsV l).length = l.length * 4 := by
  intro l
  induction l with
  | nil => rfl
  | cons x l ih =>
    unfold cellsV at ih ⊢
    rw [List.flatMap_cons, List.length_append, ih, List.length_cons]
    simp [voteC]
    omega
theorem cellsV_at (l : List Vm) : ∀ (j : Nat) (hj : j < l.length) (i : Nat), i < 4 → (cellsV l)[j * 4 + i]? = (voteC l[j])[i]? := by
  induction l with
  | nil => intro j hj; simp at hj
  | cons x l ih =>
    intro j hj i hi
    have hx : (voteC x).length = 4 := rfl
    unfold cellsV at ih ⊢
    rw [List.flatMap_cons]
    cases j with
    | zero =>
      rw [Nat.zero_mul, Nat.zero_add, List.getElem?_append_left (by omega)]
      rfl
    | succ j =>
      rw [List.getElem?_append_right (by omega), hx, show (j + 1) * 4 + i - 4 = j * 4 + i by omega]
      exact ih j (by simpa using hj) i hi
def OwnV (w : World) (ao : Option Addr) (cap : Nat) (l : List Vm) : Prop := Own w 52 4 ao l.length cap (cellsV l)
theorem OwnV.at' {w : World} {ao : Option Addr} {cap : Nat} {l : List Vm} (h : OwnV w ao cap l) {j : Nat} (hj : j < l.length) :
    ∃ g, ao = some ⟨g, 0, none⟩ ∧ ∀ i v, i < 4 → (voteC l[j])[i]? = some v → w.cell? ⟨g, j * 4 + i, none⟩ = some v ∧ w.frozen? ⟨g, j * 4 + i, none⟩ = false := by
  obtain ⟨g, h1, _⟩ := Own.cell h (j := j * 4 + 0) (u := .int .u64 (l[j].1.slot : Int)) (by rw [cellsV_at l j hj 0 (by omega)]; rfl)
  refine ⟨g, h1, fun i v hi hv => ?_⟩
  obtain ⟨g', h1', h2'⟩ := Own.cell h (j := j * 4 + i) (u := v) (by rw [cellsV_at l j hj i hi]; exact hv)
  rw [h1] at h1'
  cases h1'
  exact h2'
theorem wpl_appV {w : World} {ops : Array Oper} {rest : List Oper} {a : Act} {Q : Exit → Act → World → Prop} {dst : Option Tmp} {ty : TypeId} {pos : String} {after : Array Edge} (s x : Operand)
    (ao : Option Addr) (n cap : Nat) (xs : List Vm) (hs : a.eval s = .slice ao n cap) (hn : xs.length = n) (hown : OwnV w ao cap xs)
    (g : Nat) (y : Vm) (hx : a.eval x = .slice (some ⟨g, 0, none⟩) 1 1) (hsh : Shows w (some ⟨g, 0, none⟩) (cellsV [y])) (hb : n + 1 ≤ 1000000)
    (h : ∀ ao' cap' w', OwnV w' ao' cap' (xs ++ [y]) → Mod (blk ao) w w' → SameOrNew w w' ao ao' → wpList Tryd.prog ops Q rest (a.put dst (.slice ao' (n + 1) cap')) w') :
    wpList Tryd.prog ops Q (⟨dst, .call { callee := .builtin .append, args := #[s, x], argTypes := #[25, 25] }, ty, pos, after, none⟩ :: rest) a w := by
  obtain ⟨i0, hi, hz0, hz1, hz2⟩ := info_parts infoVote
  subst hn
  refine wpl_append w rfl s x 25 rfl 52 i0 _ 4 48 Tryd.underlying25 hi hz0 hz1 hz2 rfl (by decide) ao _ cap _ hs hown (some ⟨g, 0, none⟩) 1 1 (cellsV [y]) hx (cellsV_length [y]) hsh ?_ (by unfold maxLen; omega) (by omega) ?_
  · intro u hu
    obtain ⟨x, hx, hu⟩ := List.mem_flatMap.1 hu
    simp only [voteC, List.mem_cons, List.not_mem_nil, or_false] at hu
    rcases hu with rfl | rfl | rfl | rfl <;> rfl
  · intro ao' cap' w' h1 h2 h3
    refine h ao' cap' w' ?_ h2 h3
    unfold OwnV cellsV
    rw [List.length_append, List.flatMap_append]
    exact h1
theorem showsV {w : World} {g : Nat} {x : Vm} {t : TypeId} {z : Nat × Nat} (h : w.heap[g]? = some (.cells (voteC x).toArray t z)) : Shows w (some ⟨g, 0, none⟩) (cellsV [x]) := by
  intro j u hj
  refine ⟨_, rfl, ?_⟩
  rw [Addr.add_lit, cell_of_block h, Nat.zero_add]
  have : cellsV [x] = voteC x := by simp [cellsV]
  rw [this] at hj
  rw [← hj]
  simp
/-- A row of votes, all of the call's own. -/
structure NewVs (B : Nat) (w : World) (so : Option Addr) (sc : Nat) (l : List Vm) : Prop where
  own : OwnV w so sc l
  at' : ∀ k, k ∈ blk so → B ≤ k
  el : ∀ v ∈ l, NewB B w v.2
theorem NewVs.nil (B : Nat) (w : World) : NewVs B w none 0 [] := ⟨Own.nil0 _ _ _, by simp [blk], by simp⟩
theorem NewVs.off {B : Nat} {S : List Nat} {w w' : World} {so : Option Addr} {sc : Nat} {l : List Vm} (h : NewVs B w so sc l) (m : Mod S w w') (hS : ∀ k, k ∈ S → k < B) : NewVs B w' so sc l :=
  ⟨Own.mod h.own m (fun k hk hs => by have := h.at' k hk; have := hS k hs; omega), h.at', fun b hb => (h.el b hb).off m hS⟩
theorem NewVs.mod0 {B : Nat} {w w' : World} {so : Option Addr} {sc : Nat} {l : List Vm} (h : NewVs B w so sc l) (m : Mod [] w w') : NewVs B w' so sc l := h.off m (by simp)
theorem NewVs.grow {B B' : Nat} {w : World} {so : Option Addr} {sc : Nat} {l : List Vm} (h : NewVs B w so sc l) (hb : B' ≤ B) : NewVs B' w so sc l := ⟨h.own, fun k hk => Nat.le_trans hb (h.at' k hk), fun b hb' => (h.el b hb').grow hb⟩
theorem NewVs.app {B : Nat} {w w' : World} {so so' : Option Addr} {sc sc' : Nat} {l : List Vm} {v : Vm} (h : NewVs B w so sc l) (hb : NewB B w v.2) (o : OwnV w' so' sc' (l ++ [v])) (m : Mod (blk so) w w') (n : SameOrNew w w' so so') (hB : B ≤ w.heap.size) : NewVs B w' so' sc' (l ++ [v]) := by
  refine ⟨o, fun k hk => ?_, fun b' hb' => ?_⟩
  · rcases n.blk k hk with h1 | h1
    · exact h.at' k h1
    · omega
  · have h1 : NewB B w b'.2 := by
      rcases List.mem_append.1 hb' with h1 | h1
      · exact h.el b' h1
      · simp only [List.mem_singleton] at h1
        subst h1
        exact hb
    exact h1.mod m (own_apart h1.1 h.own (by decide))

theorem rep_succ {α : Type} (f : St → α × St) (k : Nat) (s : St) : St.rep f (k + 1) s = ((St.rep f k s).1 ++ [(f (St.rep f k s).2).1], (f (St.rep f k s).2).2) := rfl
theorem rep_len {α : Type} (f : St → α × St) (k : Nat) (s : St) : (St.rep f k s).1.length = k := by
  induction k with
  | zero => rfl
  | succ k ih => rw [rep_succ, List.length_append, ih]; rfl

set_option maxRecDepth 100000 in
set_option maxHeartbeats 1000000 in
theorem rows1_any (tk g : Nat) (bs : List Nat) (lim : Int) (s : St) (w : World) (h : TkS w tk g bs lim s) (hl1 : -9223372036854775808 ≤ lim) (hl2 : lim ≤ 9223372036854775807) :
    Calls Tryd.prog 64 #[.pointer (some ⟨tk, 0, none⟩), .int .i64 16, .func (.func 63) #[.pointer (some ⟨tk, 0, none⟩)] #[]] w fun e w' => ∃ so n sc bl, e = .returned (.slice so n sc) ∧ bl.length = n ∧ dB bl = (s.rows 16 (St.text lim)).1 ∧ NewBs w.heap.size w' so sc bl ∧ TkS w' tk g bs lim (s.rows 16 (St.text lim)).2 ∧ Mod [g, tk] w w' := by
  have hz := h.tlt
  have hu := uintE_lt s.e s.l
  obtain ⟨n1, h1⟩ : ∃ x, s.uint.1 = x := ⟨_, rfl⟩
  obtain ⟨s1, h2⟩ : ∃ x, s.uint.2 = x := ⟨_, rfl⟩
  have h1' : (uintE 10 0 0 s.e s.l).1 = n1 := h1
  rw [h1'] at hu
  have HR : Hid (s.rows 16 (St.text lim) = if 16 < n1 then ([], ⟨s1.e, s1.l, true⟩) else St.rep (St.text lim) n1 s1) := Lib.hid (by unfold St.rows; rw [h1, h2])
  have HU := Lib.hid (ruint_any g bs s.e s.l lim w h.rd)
  have H1 : Hid ((uintE 10 0 0 s.e s.l).1 = n1 ∧ (⟨(uintE 10 0 0 s.e s.l).2.1, (uintE 10 0 0 s.e s.l).2.2, s.bad⟩ : St) = s1) := Lib.hid ⟨h1, h2⟩
  have T := Lib.hid h
  have t0 := cell_of_block (i := 0) h.at0
  have HLT := Lib.hid h.lt
  clear h h1 h1' h2
  by_cases hb : 16 < n1
  case pos =>
    rw [HR.out, if_pos hb]
    have D : decide ((16 : Int) < (n1 : Int)) = true := decide_eq_true (by omega)
    clear HR
    go_enter Tryd.func64, Tryd.ntmps64
    go_wp2_with fail
    refine HU.out.mono ?_
    rintro r' w2 ⟨rfl, r2, m2⟩
    have T2 := T.out.read r2 m2
    rw [H1.out.2] at T2
    rw [H1.out.1]
    have t1 := cell_of_block (i := 1) T2.at0
    have f1 := free_of_block (i := 1) T2.at0
    have HT2 := Lib.hid T2
    have M2 := Lib.hid (m2.weaken (S' := [g, tk]) (by simp))
    clear T2 m2 r2 t0 HU
    go_wp2_with fail
    go_ret
    exact ⟨none, 0, 0, [], rfl, rfl, rfl, NewBs.nil _ _, HT2.out.set true, M2.out.trans' (Mod.setCell _ _ _ (by simp))⟩
  case neg =>
    rw [HR.out, if_neg hb]
    have D : decide ((16 : Int) < (n1 : Int)) = false := decide_eq_false (by omega)
    clear HR
    go_enter Tryd.func64, Tryd.ntmps64
    go_wp2_with fail
    refine HU.out.mono ?_
    rintro r' w2 ⟨rfl, r2, m2⟩
    have T2 := T.out.read r2 m2
    rw [H1.out.2] at T2
    rw [H1.out.1]
    have HT2 := Lib.hid T2
    have M2 := Lib.hid (m2.weaken (S' := [g, tk]) (by simp))
    clear T2 m2 r2 t0 HU T
    go_wp2_with fail
    go_loopw [8, 22] (fun s8 s22 wr => ∃ (k : Nat) (so : Option Addr) (kk sc : Nat) (bl : List Bs), k ≤ n1 ∧ s22 = .int .u64 (k : Int) ∧ s8 = .slice so kk sc ∧ bl.length = kk ∧ dB bl = (St.rep (St.text lim) k s1).1 ∧ NewBs w.heap.size wr so sc bl ∧ TkS wr tk g bs lim (St.rep (St.text lim) k s1).2 ∧ Mod [g, tk] w wr) (fun _ s22 _ => n1 - (intOf s22).toNat)
    case atStart => exact ⟨0, none, 0, 0, [], Nat.zero_le _, rfl, rfl, rfl, rfl, NewBs.nil _ _, HT2.out, M2.out⟩
    case round =>
      obtain ⟨k, so, kk, sc, bl, hk, rfl, rfl, hkk, hbl, hnb, ht, hm⟩ := hrel
      rename World => wr
      have hkk2 : kk = k := by rw [← hkk, ← dB_length, hbl, rep_len]
      subst hkk2
      have HKK := Lib.hid hkk
      have HBL := Lib.hid hbl
      have HNB := Lib.hid hnb
      have HT := Lib.hid ht
      have HM := Lib.hid hm
      clear hkk hbl hnb ht hm HT2 M2
      by_cases hlt : kk < n1
      · have hlt2 : (kk : Int) < (n1 : Int) := by omega
        have HC := Lib.hid (ttext_any tk g bs lim _ wr HT.out hl1 hl2)
        have HRS := Lib.hid (rep_succ (St.text lim) kk s1)
        obtain ⟨sk, hsk⟩ : ∃ x, (St.rep (St.text lim) kk s1).2 = x := ⟨_, rfl⟩
        rw [hsk] at HC HT HRS
        obtain ⟨⟨tx, sn⟩, htx⟩ : ∃ x, sk.text lim = x := ⟨_, rfl⟩
        rw [htx] at HC HRS
        dsimp only at HC HRS
        clear hsk htx
        go_wp2_with fail
        refine HC.out.mono ?_
        rintro r' w3 ⟨ao, cap, rfl, nb3, t3, m3⟩
        have NB3 := Lib.hid (nb3.grow HM.out.size)
        have T3 := Lib.hid t3
        have HNB3 := Lib.hid (HNB.out.off m3 (by simp; omega))
        have M3 := Lib.hid (HM.out.trans' m3)
        have hz3 : w.heap.size ≤ w3.heap.size := M3.out.size
        have m4 := Mod.alloc [] w3 (.cells #[.slice ao tx.length cap] 27)
        have sh4 := shows_one (f := bsV) (x := ((tx, ao, cap) : Bs)) (t := 27) (z := (0, 0)) (w := w3.alloc (.cells #[.slice ao tx.length cap] 27)) (g := w3.heap.size) (heap_alloc_new w3 _)
        obtain ⟨w4, hw4⟩ : ∃ x, w3.alloc (.cells #[.slice ao tx.length cap] 27) = x := ⟨_, rfl⟩
        rw [hw4] at m4 sh4
        have NB4 := Lib.hid (NB3.out.mod0 m4)
        have T4 := Lib.hid (T3.out.mod0 m4)
        have HNB4 := Lib.hid (HNB3.out.mod0 m4)
        have M4 := Lib.hid (M3.out.trans0 m4)
        have SH4 := Lib.hid sh4
        clear nb3 t3 m3 m4 sh4 NB3 T3 HNB3 M3 HC HT HNB HM
        unfold bsV
        dsimp only
        go_wp2_with (first | (at_builtin; refine wpl_appM (f := bsV) (dst := some 28) _ _ 26 _ 24 Tryd.underlying26 infoBs rfl (fun _ => rfl) kk bl rfl HKK.out HNB4.out.own _ 1 1 [((tx, ao, cap) : Bs)] rfl rfl SH4.out (by omega) (by omega) ?_) | fail)
        intro so5 sc5 w5 o5 m5 n5
        have hz4 : w.heap.size ≤ w4.heap.size := M4.out.size
        have HNB5 := Lib.hid (HNB4.out.app NB4.out o5 m5 n5 hz4)
        have T5 := Lib.hid (T4.out.off (W := w) m5 hz.1 hz.2 HLT.out (fun k hk => HNB4.out.at' k hk))
        have M5 := Lib.hid (M4.out.trans m5 (fun i hi hl => by have := HNB4.out.at' i hi; omega))
        have HD : Hid (dB (bl ++ [((tx, ao, cap) : Bs)]) = (St.rep (St.text lim) (kk + 1) s1).1) := Lib.hid (by
          rw [HRS.out]
          dsimp only
          rw [← HBL.out]
          unfold dB
          rw [List.map_append]
          rfl)
        have HT6 : Hid (TkS w5 tk g bs lim (St.rep (St.text lim) (kk + 1) s1).2) := Lib.hid (by rw [HRS.out]; exact T5.out)
        have HLL : Hid ((bl ++ [((tx, ao, cap) : Bs)]).length = kk + 1) := Lib.hid (by rw [List.length_append, HKK.out]; rfl)
        clear o5 m5 n5 HNB4 NB4 T4 T5 M4 SH4 hw4
        go_wp2_with fail
        go_roundw
        case rel => exact ⟨kk + 1, so5, kk + 1, sc5, _, by omega, by go_num, rfl, HLL.out, HD.out, HNB5.out, HT6.out, M5.out⟩
        case measure => simp [intOf]; omega
      · have hke : kk = n1 := by omega
        subst hke
        go_wp2_with fail
        go_ret
        exact ⟨so, kk, sc, bl, rfl, HKK.out, HBL.out, HNB.out, HT.out, HM.out⟩
set_option maxRecDepth 100000 in
set_option maxHeartbeats 1000000 in
theorem rows2_any (tk g : Nat) (bs : List Nat) (lim : Int) (s : St) (w : World) (h : TkS w tk g bs lim s) (hl1 : -9223372036854775808 ≤ lim) (hl2 : lim ≤ 9223372036854775807) :
    Calls Tryd.prog 65 #[.pointer (some ⟨tk, 0, none⟩), .int .i64 256, .func (.func 66) #[.pointer (some ⟨tk, 0, none⟩)] #[]] w fun e w' => ∃ so n sc bl, e = .returned (.slice so n sc) ∧ bl.length = n ∧ dV bl = (s.rows 256 (St.vote lim)).1 ∧ NewVs w.heap.size w' so sc bl ∧ TkS w' tk g bs lim (s.rows 256 (St.vote lim)).2 ∧ Mod [g, tk] w w' := by
  have hz := h.tlt
  have hu := uintE_lt s.e s.l
  obtain ⟨n1, h1⟩ : ∃ x, s.uint.1 = x := ⟨_, rfl⟩
  obtain ⟨s1, h2⟩ : ∃ x, s.uint.2 = x := ⟨_, rfl⟩
  have h1' : (uintE 10 0 0 s.e s.l).1 = n1 := h1
  rw [h1'] at hu
  have HR : Hid (s.rows 256 (St.vote lim) = if 256 < n1 then ([], ⟨s1.e, s1.l, true⟩) else St.rep (St.vote lim) n1 s1) := Lib.hid (by unfold St.rows; rw [h1, h2])
  have HU := Lib.hid (ruint_any g bs s.e s.l lim w h.rd)
  have H1 : Hid ((uintE 10 0 0 s.e s.l).1 = n1 ∧ (⟨(uintE 10 0 0 s.e s.l).2.1, (uintE 10 0 0 s.e s.l).2.2, s.bad⟩ : St) = s1) := Lib.hid ⟨h1, h2⟩
  have T := Lib.hid h
  have t0 := cell_of_block (i := 0) h.at0
  have HLT := Lib.hid h.lt
  clear h h1 h1' h2
  by_cases hb : 256 < n1
  case pos =>
    rw [HR.out, if_pos hb]
    have D : decide ((256 : Int) < (n1 : Int)) = true := decide_eq_true (by omega)
    clear HR
    go_enter Tryd.func65, Tryd.ntmps65
    go_wp2_with fail
    refine HU.out.mono ?_
    rintro r' w2 ⟨rfl, r2, m2⟩
    have T2 := T.out.read r2 m2
    rw [H1.out.2] at T2
    rw [H1.out.1]
    have t1 := cell_of_block (i := 1) T2.at0
    have f1 := free_of_block (i := 1) T2.at0
    have HT2 := Lib.hid T2
    have M2 := Lib.hid (m2.weaken (S' := [g, tk]) (by simp))
    clear T2 m2 r2 t0 HU
    go_wp2_with fail
    go_ret
    exact ⟨none, 0, 0, [], rfl, rfl, rfl, NewVs.nil _ _, HT2.out.set true, M2.out.trans' (Mod.setCell _ _ _ (by simp))⟩
  case neg =>
    rw [HR.out, if_neg hb]
    have D : decide ((256 : Int) < (n1 : Int)) = false := decide_eq_false (by omega)
    clear HR
    go_enter Tryd.func65, Tryd.ntmps65
    go_wp2_with fail
    refine HU.out.mono ?_
    rintro r' w2 ⟨rfl, r2, m2⟩
    have T2 := T.out.read r2 m2
    rw [H1.out.2] at T2
    rw [H1.out.1]
    have HT2 := Lib.hid T2
    have M2 := Lib.hid (m2.weaken (S' := [g, tk]) (by simp))
    clear T2 m2 r2 t0 HU T
    go_wp2_with fail
    go_loopw [8, 22] (fun s8 s22 wr => ∃ (k : Nat) (so : Option Addr) (kk sc : Nat) (bl : List Vm), k ≤ n1 ∧ s22 = .int .u64 (k : Int) ∧ s8 = .slice so kk sc ∧ bl.length = kk ∧ dV bl = (St.rep (St.vote lim) k s1).1 ∧ NewVs w.heap.size wr so sc bl ∧ TkS wr tk g bs lim (St.rep (St.vote lim) k s1).2 ∧ Mod [g, tk] w wr) (fun _ s22 _ => n1 - (intOf s22).toNat)
    case atStart => exact ⟨0, none, 0, 0, [], Nat.zero_le _, rfl, rfl, rfl, rfl, NewVs.nil _ _, HT2.out, M2.out⟩
    case round =>
      obtain ⟨k, so, kk, sc, bl, hk, rfl, rfl, hkk, hbl, hnb, ht, hm⟩ := hrel
      rename World => wr
      have hkk2 : kk = k := by rw [← hkk, ← dV_length, hbl, rep_len]
      subst hkk2
      have HKK := Lib.hid hkk
      have HBL := Lib.hid hbl
      have HNB := Lib.hid hnb
      have HT := Lib.hid ht
      have HM := Lib.hid hm
      clear hkk hbl hnb ht hm HT2 M2
      by_cases hlt : kk < n1
      · have hlt2 : (kk : Int) < (n1 : Int) := by omega
        have HC := Lib.hid (tvote_any tk g bs lim _ wr HT.out hl1 hl2)
        have HRS := Lib.hid (rep_succ (St.vote lim) kk s1)
        obtain ⟨sk, hsk⟩ : ∃ x, (St.rep (St.vote lim) kk s1).2 = x := ⟨_, rfl⟩
        rw [hsk] at HC HT HRS
        obtain ⟨⟨⟨⟨sl, bn, br⟩, tx⟩, sn⟩, htx⟩ : ∃ x, sk.vote lim = x := ⟨_, rfl⟩
        rw [htx] at HC HRS
        dsimp only at HC HRS
        clear hsk htx
        go_wp2_with fail
        refine HC.out.mono ?_
        rintro r' w3 ⟨ao, cap, rfl, nb3, t3, m3⟩
        have NB3 := Lib.hid (nb3.grow HM.out.size)
        have T3 := Lib.hid t3
        have HNB3 := Lib.hid (HNB.out.off m3 (by simp; omega))
        have M3 := Lib.hid (HM.out.trans' m3)
        have hz3 : w.heap.size ≤ w3.heap.size := M3.out.size
        have m4 := Mod.alloc [] w3 (.cells #[.int .u64 (sl : Int), .int .u64 (bn : Int), .int .i64 br, .slice ao tx.length cap] 52)
        have sh4 := showsV (x := ((⟨sl, bn, br⟩, tx, ao, cap) : Vm)) (t := 52) (z := (0, 0)) (w := w3.alloc (.cells #[.int .u64 (sl : Int), .int .u64 (bn : Int), .int .i64 br, .slice ao tx.length cap] 52)) (g := w3.heap.size) (heap_alloc_new w3 _)
        obtain ⟨w4, hw4⟩ : ∃ x, w3.alloc (.cells #[.int .u64 (sl : Int), .int .u64 (bn : Int), .int .i64 br, .slice ao tx.length cap] 52) = x := ⟨_, rfl⟩
        rw [hw4] at m4 sh4
        have NB4 := Lib.hid (NB3.out.mod0 m4)
        have T4 := Lib.hid (T3.out.mod0 m4)
        have HNB4 := Lib.hid (HNB3.out.mod0 m4)
        have M4 := Lib.hid (M3.out.trans0 m4)
        have SH4 := Lib.hid sh4
        clear nb3 t3 m3 m4 sh4 NB3 T3 HNB3 M3 HC HT HNB HM
        go_wp2_with (first | (at_builtin; refine wpl_appV (dst := some 28) _ _ so kk sc bl rfl HKK.out HNB4.out.own _ ((⟨sl, bn, br⟩, tx, ao, cap) : Vm) rfl SH4.out (by omega) ?_) | fail)
        intro so5 sc5 w5 o5 m5 n5
        have hz4 : w.heap.size ≤ w4.heap.size := M4.out.size
        have HNB5 := Lib.hid (HNB4.out.app NB4.out o5 m5 n5 hz4)
        have T5 := Lib.hid (T4.out.off (W := w) m5 hz.1 hz.2 HLT.out (fun k hk => HNB4.out.at' k hk))
        have M5 := Lib.hid (M4.out.trans m5 (fun i hi hl => by have := HNB4.out.at' i hi; omega))
        have HD : Hid (dV (bl ++ [((⟨sl, bn, br⟩, tx, ao, cap) : Vm)]) = (St.rep (St.vote lim) (kk + 1) s1).1) := Lib.hid (by
          rw [HRS.out]
          dsimp only
          rw [← HBL.out]
          unfold dV
          rw [List.map_append]
          rfl)
        have HT6 : Hid (TkS w5 tk g bs lim (St.rep (St.vote lim) (kk + 1) s1).2) := Lib.hid (by rw [HRS.out]; exact T5.out)
        have HLL : Hid ((bl ++ [((⟨sl, bn, br⟩, tx, ao, cap) : Vm)]).length = kk + 1) := Lib.hid (by rw [List.length_append, HKK.out]; rfl)
        clear o5 m5 n5 HNB4 NB4 T4 T5 M4 SH4 hw4
        go_wp2_with fail
        go_roundw
        case rel => exact ⟨kk + 1, so5, kk + 1, sc5, _, by omega, by go_num, rfl, HLL.out, HD.out, HNB5.out, HT6.out, M5.out⟩
        case measure => simp [intOf]; omega
      · have hke : kk = n1 := by omega
        subst hke
        go_wp2_with fail
        go_ret
        exact ⟨so, kk, sc, bl, rfl, HKK.out, HBL.out, HNB.out, HT.out, HM.out⟩
end Go.Proofs.YtekdnljincbghaaDoor
