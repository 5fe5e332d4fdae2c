/- The walk of cmd.Parse. -/
import Derived.Test.YtaagfoeedngdjaaDoorCmd11
namespace Go.Proofs.YtaagfoeedngdjaaDoor
open Go Go.RowKit Go.Lib

/-- Commands that are read, at most so many; none: one of them may not be. -/
def parseL : Nat → Int → List UInt8 → Option (List Cd × Int × List UInt8)
  | 0, e, l => some ([], e, l)
  | k + 1, e, l =>
    if e ≠ 0 then some ([], e, l)
    else if (takeR e l).2.1 = 0 ∧ ¬ ((takeR e l).1.2 = true ∧ May (takeR e l).1.1) then none
    else (parseL k (takeR e l).2.1 (takeR e l).2.2).map fun x => ((takeR e l).1.1 :: x.1, x.2)
theorem parseL_stop (k : Nat) (e : Int) (l : List UInt8) (h : e ≠ 0) : parseL k e l = some ([], e, l) := by
  cases k with
  | zero => rfl
  | succ k => exact if_pos h
theorem parseL_none (k : Nat) (l : List UInt8) (h : (takeR 0 l).2.1 = 0 ∧ ¬ ((takeR 0 l).1.2 = true ∧ May (takeR 0 l).1.1)) : parseL (k + 1) 0 l = none := by
  show (if (0 : Int) ≠ 0 then _ else _) = _
  rw [if_neg (by simp), if_pos h]
theorem parseL_more (k : Nat) (l : List UInt8) (h : ¬ ((takeR 0 l).2.1 = 0 ∧ ¬ ((takeR 0 l).1.2 = true ∧ May (takeR 0 l).1.1))) :
    parseL (k + 1) 0 l = (parseL k (takeR 0 l).2.1 (takeR 0 l).2.2).map fun x => ((takeR 0 l).1.1 :: x.1, x.2) := by
  show (if (0 : Int) ≠ 0 then _ else _) = _
  rw [if_neg (by simp), if_neg h]
/-- A batch that is parsed, and the error. -/
def parseR (l : List UInt8) : List Cd × Int :=
  if (uintE 10 0 0 0 l).1 ≤ 8 then
    match parseL (uintE 10 0 0 0 l).1 (uintE 10 0 0 0 l).2.1 (uintE 10 0 0 0 l).2.2 with
    | none => ([], 11)
    | some (cs, e, l') => if e ≠ 0 then ([], e) else if l' = [] then (cs, 0) else ([], 11)
  else if (uintE 10 0 0 0 l).2.1 ≠ 0 then ([], (uintE 10 0 0 0 l).2.1) else ([], 11)

theorem textR_len (e : Int) (l : List UInt8) : (textR 64 e l).1.length ≤ 64 := by
  unfold textR
  split
  · simp
  · split
    · simp
    · split
      · simp
      · rename_i h1 h2 h3
        simp only [List.length_take]
        omega
theorem keysR_size (k : Nat) (e : Int) (l : List UInt8) : ∀ t ∈ (keysR k e l).1, t.size ≤ 64 := by
  induction k with
  | zero => intro t ht; exact absurd ht List.not_mem_nil
  | succ k ih =>
    intro t ht
    have ht' : t ∈ (keysR k e l).1 ++ [⟨(textR 64 (keysR k e l).2.1 (keysR k e l).2.2).1.toArray⟩] := ht
    rcases List.mem_append.1 ht' with h | h
    · exact ih t h
    · simp only [List.mem_singleton] at h
      subst h
      have := textR_len (keysR k e l).2.1 (keysR k e l).2.2
      simpa [ByteArray.size] using this
theorem zag_lo (n : Nat) (h : n < 18446744073709551616) : -9223372036854775808 ≤ zag n ∧ zag n ≤ 9223372036854775807 := by
  unfold zag; split <;> omega
theorem zeroC_wf : Wf zeroC ∧ Small zeroC :=
  ⟨⟨by decide, by decide, by decide, by decide, fun t ht => absurd ht List.not_mem_nil, by decide, by decide, by decide, by decide⟩, ⟨by decide, fun t ht => absurd ht List.not_mem_nil, by decide, by decide⟩⟩
/-- What is read is of its types, and not great. -/
theorem takeR_wf (e : Int) (l : List UInt8) : Wf (takeR e l).1.1 ∧ Small (takeR e l).1.1 := by
  unfold takeR
  dsimp only
  split
  · rename_i h
    obtain ⟨h1, h2, h3, h4⟩ := h
    have hk := keysR_len (uintE 10 0 0 (uintE 10 0 0 (uintE 10 0 0 (uintE 10 0 0 e l).2.1 (uintE 10 0 0 e l).2.2).2.1 (uintE 10 0 0 (uintE 10 0 0 e l).2.1 (uintE 10 0 0 e l).2.2).2.2).2.1 (uintE 10 0 0 (uintE 10 0 0 (uintE 10 0 0 e l).2.1 (uintE 10 0 0 e l).2.2).2.1 (uintE 10 0 0 (uintE 10 0 0 e l).2.1 (uintE 10 0 0 e l).2.2).2.2).2.2).1
    constructor
    · refine ⟨by dsimp only; omega, by dsimp only; omega, by dsimp only; omega, by dsimp only; rw [hk]; omega, fun t ht => by have := keysR_size _ _ _ t ht; omega, ?_, ?_, ?_, ?_⟩
      · have := textR_len; dsimp only; simp only [ByteArray.size, List.size_toArray]; exact Nat.le_trans (this _ _) (by omega)
      · have := textR_len; dsimp only; simp only [ByteArray.size, List.size_toArray]; exact Nat.le_trans (this _ _) (by omega)
      · exact (zag_lo _ (uintE_lt _ _)).1
      · exact (zag_lo _ (uintE_lt _ _)).2
    · refine ⟨by dsimp only; rw [hk]; omega, fun t ht => by have := keysR_size _ _ _ t ht; omega, ?_, ?_⟩
      · have := textR_len; dsimp only; simp only [ByteArray.size, List.size_toArray]; exact Nat.le_trans (this _ _) (by omega)
      · have := textR_len; dsimp only; simp only [ByteArray.size, List.size_toArray]; exact Nat.le_trans (this _ _) (by omega)
  · exact zeroC_wf

theorem Cnt.mod {S : List Nat} {w w' : World} (h : Cnt w) (hm : Mod S w w') (hS : 0 ∉ S) : Cnt w' := fun k h1 h2 => ⟨hm.cell (h k h1 h2).1 hS, hm.cell (h k h1 h2).2 hS⟩
theorem Cnt.lt {w : World} (h : Cnt w) : 0 < w.heap.size := World.block_lt_of_cell? w _ (h 1 (by omega) (by omega)).1

/-- The rounds of the loop over the commands. -/
structure PsR (w1 : World) (g : Nat) (bs : List Nat) (e : Int) (l : List UInt8) (ao : Option Addr) (cap : Nat) (out : List Cm) (wr : World) : Prop where
  rd : Rd wr g bs e l 64
  own : OwnC wr ao cap out
  new : ∀ j, j ∈ blk ao → w1.heap.size ≤ j
  keys : ∀ c ∈ out, SeesT wr c.2.1 c.1.keys ∧ Wf c.1 ∧ (c.1.keys ≠ [] → ∀ j, j ∈ blk c.2.1 → j ∉ blk ao ∧ w1.heap.size ≤ j ∧ j < wr.heap.size)
  mod : Mod [g] w1 wr
section
variable {w1 wr w' : World} {g : Nat} {bs : List Nat} {e e' : Int} {l l' : List UInt8} {ao : Option Addr} {cap : Nat} {out : List Cm}
theorem PsR.read (h : PsR w1 g bs e l ao cap out wr) (hg : g < w1.heap.size) (r : Rd w' g bs e' l' 64) (m : Mod [g] wr w') : PsR w1 g bs e' l' ao cap out w' :=
  ⟨r, Own.mod h.own m (fun j hj hm => by have := h.new j hj; simp at hm; omega), h.new,
   fun c hc => ⟨(h.keys c hc).1.mod m (fun hne j hj hm => by have := ((h.keys c hc).2.2 hne j hj).2.1; simp at hm; omega), (h.keys c hc).2.1, fun hne j hj => ⟨((h.keys c hc).2.2 hne j hj).1, ((h.keys c hc).2.2 hne j hj).2.1, Nat.lt_of_lt_of_le ((h.keys c hc).2.2 hne j hj).2.2 m.size⟩⟩, h.mod.trans' m⟩
theorem PsR.still (h : PsR w1 g bs e l ao cap out wr) (hg : g < w1.heap.size) (m : Mod [] wr w') : PsR w1 g bs e l ao cap out w' :=
  h.read hg (h.rd.mod m List.not_mem_nil (fun _ _ => List.not_mem_nil)) m.nil
theorem PsR.push {ao' : Option Addr} {cap' : Nat} {c : Cm} (h : PsR w1 g bs e l ao cap out wr) (hg : g < w1.heap.size) (hb : ∀ k, k ∈ bs → k < w1.heap.size) (hc : SeesT wr c.2.1 c.1.keys) (hw : Wf c.1) (hn : c.1.keys ≠ [] → ∀ j, j ∈ blk c.2.1 → j ∉ blk ao ∧ w1.heap.size ≤ j ∧ j < wr.heap.size)
    (o : OwnC w' ao' cap' (out ++ [c])) (m : Mod (blk ao) wr w') (s : SameOrNew wr w' ao ao') : PsR w1 g bs e l ao' cap' (out ++ [c]) w' := by
  have hk : ∀ d : Cm, (SeesT wr d.2.1 d.1.keys ∧ Wf d.1 ∧ (d.1.keys ≠ [] → ∀ j, j ∈ blk d.2.1 → j ∉ blk ao ∧ w1.heap.size ≤ j ∧ j < wr.heap.size)) → SeesT w' d.2.1 d.1.keys ∧ Wf d.1 ∧ (d.1.keys ≠ [] → ∀ j, j ∈ blk d.2.1 → j ∉ blk ao' ∧ w1.heap.size ≤ j ∧ j < w'.heap.size) := by
    rintro d ⟨h1, h2, h3⟩
    refine ⟨h1.mod m (fun hne j hj => (h3 hne j hj).1), h2, fun hne j hj => ⟨fun hm => ?_, (h3 hne j hj).2.1, Nat.lt_of_lt_of_le (h3 hne j hj).2.2 m.size⟩⟩
    rcases s.blk j hm with h4 | h4
    · exact (h3 hne j hj).1 h4
    · have := (h3 hne j hj).2.2; omega
  refine ⟨h.rd.mod m (fun hm => by have := h.new g hm; omega) (fun k hk hm => by have := h.new k hm; have := hb k hk; omega), o, fun j hj => ?_, fun d hd => ?_, h.mod.trans m (fun i hi hl => by have := h.new i hi; omega)⟩
  · rcases s.blk j hj with h4 | h4
    · exact h.new j h4
    · exact Nat.le_trans h.mod.size h4
  · rcases List.mem_append.1 hd with h5 | h5
    · exact hk d (h.keys d h5)
    · simp only [List.mem_singleton] at h5
      subst h5
      exact hk d ⟨hc, hw, hn⟩
theorem PsR.sees (h : PsR w1 g bs e l ao cap out wr) : SeesC wr ao out := OwnC.sees h.own (fun c hc => (h.keys c hc).1) (fun c hc => (h.keys c hc).2.1)
end
/-- What is told of a batch that was parsed. -/
def ParseW (w : World) (l : List UInt8) (r : Ending) (w' : World) : Prop :=
  ∃ a cap out, r = .returned (.tuple #[.slice a (parseR l).1.length cap, .int .i64 (parseR l).2]) ∧ out.map Prod.fst = (parseR l).1 ∧ SeesC w' a out ∧ Mod [] w w'
theorem ParseW.bad {w w' : World} {l : List UInt8} {e : Int} (h : parseR l = ([], e)) (hm : Mod [] w w') : ParseW w l (.returned (.tuple #[.slice none 0 0, .int .i64 e])) w' := by
  refine ⟨none, 0, [], ?_, ?_, fun j hj => absurd hj (Nat.not_lt_zero _), hm⟩ <;> rw [h] <;> rfl

set_option maxRecDepth 100000 in
set_option maxHeartbeats 4000000 in
theorem parse_any (ao : Option Addr) (len cap : Nat) (l : List UInt8) (w : World) (hl : l.length = len) (hc : len ≤ cap) (hm : cap ≤ 9223372036854775807) (hs : Sees w ao l) (ht : Cnt w) :
    Calls Tryd.prog 9 #[.slice ao len cap] w (ParseW w l) := by
  have HN := Lib.hid (newReader_any ao len cap l 64 w hl hc hm hs)
  have HT := Lib.hid ht
  have HSL := Lib.hid hs.ltOf
  obtain ⟨⟨n, e0, l0⟩, hu⟩ : ∃ x, uintE 10 0 0 0 l = x := ⟨_, rfl⟩
  have HP : Hid (parseR l = if n ≤ 8 then
    match parseL n e0 l0 with
    | none => ([], 11)
    | some (cs, e, l') => if e ≠ 0 then ([], e) else if l' = [] then (cs, 0) else ([], 11)
    else if e0 ≠ 0 then ([], e0) else ([], 11)) := Lib.hid (by unfold parseR; rw [hu])
  have HU := Lib.hid hu
  clear hs ht hu
  go_enter Tryd.func9, Tryd.ntmps9
  go_wp2_with fail
  refine HN.out.mono ?_
  rintro r w1 ⟨g, rfl, r1, m1, hg1⟩
  have hg := r1.lt
  have HB : Hid (∀ k, k ∈ blkOf ao l → k < w1.heap.size) := Lib.hid (fun k hk => Nat.lt_of_lt_of_le (HSL.out k hk) m1.size)
  have M1 := Lib.hid m1
  have R1 := Lib.hid r1
  obtain ⟨bs, hbs⟩ : ∃ x, blkOf ao l = x := ⟨_, rfl⟩
  rw [hbs] at HB R1
  have hg0 : ∀ S : Nat, S < w.heap.size → S ≠ g := fun S h => by omega
  have HG := Lib.hid hg0
  clear hbs r1 m1 HN HSL hg0
  go_wp2_with fail
  refine (small_any g bs 0 l 64 8 n e0 l0 w1 R1.out HU.out).mono ?_
  rintro r w2 ⟨rfl, r2, m2⟩
  have P2 : Hid (PsR w1 g bs e0 l0 none 0 [] w2) := Lib.hid ⟨r2, Own.nil0 _ _ _, fun j hj => absurd hj List.not_mem_nil, fun c hc => absurd hc List.not_mem_nil, m2⟩
  clear r2 m2 R1 HU
  by_cases hn8 : n ≤ 8
  case neg =>
    have HP2 := Lib.hid (HP.out.trans (if_neg hn8))
    have D : decide (n ≤ 8) = false := decide_eq_false hn8
    have HE := Lib.hid (err_any g bs e0 l0 64 w2 P2.out.rd)
    have hm : Hid (Mod [] w w2) := Lib.hid (M1.out.trans P2.out.mod (by simp; omega))
    clear HP hn8 P2
    go_wp2_with fail
    go_loopw [5, 8] (fun o i wr => o = .slice none 0 0 ∧ i = .int .u64 0 ∧ wr = w2) (fun _ _ _ => 0)
    case atStart => exact ⟨rfl, rfl, rfl⟩
    case round =>
      obtain ⟨rfl, rfl, rfl⟩ := hrel
      go_wp2_with fail
      refine HE.out.mono ?_
      rintro r w3 ⟨rfl, rfl⟩
      by_cases he : e0 = 0
      · subst he
        have HP3 : Hid (parseR l = ([], 11)) := Lib.hid (HP2.out.trans (if_neg (by simp)))
        go_wp2_with fail
        go_ret2
        exact ParseW.bad HP3.out hm.out
      · have HP3 : Hid (parseR l = ([], e0)) := Lib.hid (HP2.out.trans (if_pos he))
        have D0 : (e0 == 0) = false := by simp [he]
        have D1 : (e0 != 0) = true := by simp [he]
        go_wp2_with fail
        go_ret2
        exact ParseW.bad HP3.out hm.out
  have HP2 := Lib.hid (HP.out.trans (if_pos hn8))
  have D : decide (n ≤ 8) = true := decide_eq_true hn8
  clear HP
  go_wp2_with fail
  go_loopw [5, 8] (fun o i wr => ∃ (k : Nat) (a : Option Addr) (c : Nat) (out : List Cm) (e : Int) (l' : List UInt8), k ≤ n ∧ i = .int .u64 (k : Int) ∧ o = .slice a out.length c ∧ out.length = k ∧ PsR w1 g bs e l' a c out wr ∧ parseL n e0 l0 = (parseL (n - k) e l').map fun x => (out.map Prod.fst ++ x.1, x.2)) (fun _ i _ => n - (intOf i).toNat)
  case atStart => exact ⟨0, none, 0, [], e0, l0, Nat.zero_le _, rfl, rfl, rfl, P2.out, by rw [Nat.sub_zero]; cases parseL n e0 l0 <;> rfl⟩
  case round =>
    obtain ⟨k, a, c, out, e, l', hk, rfl, rfl, hol, hp, heq⟩ := hrel
    have P := Lib.hid hp
    have HQ := Lib.hid heq
    have HOL := Lib.hid hol
    have HE := Lib.hid (err_any g bs e l' 64 wr hp.rd)
    have hm : Hid (Mod [] w wr) := Lib.hid (M1.out.trans hp.mod (by simp; omega))
    clear hp heq hol P2
    by_cases hgo : k < n ∧ e = 0
    case neg =>
      have HQ2 : Hid (parseR l = if e ≠ 0 then ([], e) else if l' = [] then (out.map Prod.fst, 0) else ([], 11)) := Lib.hid (by
        rw [HP2.out, HQ.out]
        have : parseL (n - k) e l' = some ([], e, l') := by
          by_cases he : e = 0
          · have : n - k = 0 := by have : ¬ k < n := fun h => hgo ⟨h, he⟩; omega
            rw [this]; rfl
          · exact parseL_stop _ _ _ he
        rw [this]
        simp)
      by_cases hkn : k < n
      · have he : ¬ e = 0 := fun h => hgo ⟨hkn, h⟩
        have HQ3 := Lib.hid (HQ2.out.trans (if_pos he))
        have D0 : (e == 0) = false := by simp [he]
        have D1 : (e != 0) = true := by simp [he]
        clear hgo
        go_wp2_with fail
        refine HE.out.mono ?_
        rintro r w3 ⟨rfl, rfl⟩
        go_wp2_with fail
        refine HE.out.mono ?_
        rintro r w4 ⟨rfl, rfl⟩
        go_wp2_with fail
        go_ret2
        exact ParseW.bad HQ3.out hm.out
      · clear hgo
        go_wp2_with fail
        refine HE.out.mono ?_
        rintro r w3 ⟨rfl, rfl⟩
        by_cases he : e = 0
        · subst he
          have HD := Lib.hid (rdone_any g bs 0 l' 64 w3 P.out.rd)
          have HQ3 := Lib.hid (HQ2.out.trans (if_neg (by simp)))
          by_cases hl0 : l' = []
          · have HQ4 := Lib.hid (HQ3.out.trans (if_pos hl0))
            have hd0 : doneR 0 l' = 0 := by unfold doneR; rw [if_pos rfl, if_pos hl0]
            rw [hd0] at HD
            clear HQ HQ2 HQ3 hl0 hd0
            go_wp2_with fail
            refine HD.out.mono ?_
            rintro r w4 ⟨rfl, r4, m4⟩
            have P4 := Lib.hid (P.out.read hg r4 m4)
            clear r4 m4 HD
            go_wp2_with fail
            go_ret2
            refine ⟨a, c, out, ?_, by rw [HQ4.out], P4.out.sees, M1.out.trans P4.out.mod (by simp; omega)⟩
            rw [HQ4.out]
            show _ = Ending.returned (.tuple #[.slice a (out.map Prod.fst).length c, .int .i64 0])
            rw [List.length_map]
            rfl
          · have HQ4 := Lib.hid (HQ3.out.trans (if_neg hl0))
            have hd0 : doneR 0 l' = 11 := by unfold doneR; rw [if_pos rfl, if_neg hl0]
            rw [hd0] at HD
            clear HQ HQ2 HQ3 hl0 hd0
            go_wp2_with fail
            refine HD.out.mono ?_
            rintro r w4 ⟨rfl, r4, m4⟩
            have P4 := Lib.hid (P.out.read hg r4 m4)
            clear r4 m4 HD
            go_wp2_with fail
            go_ret2
            exact ParseW.bad HQ4.out (M1.out.trans P4.out.mod (by simp; omega))
        · have HQ3 := Lib.hid (HQ2.out.trans (if_pos he))
          have D1 : (e != 0) = true := by simp [he]
          go_wp2_with fail
          go_ret2
          exact ParseW.bad HQ3.out hm.out
    obtain ⟨hkn, rfl⟩ := hgo
    have HTW := Lib.hid (take_any g bs 0 l' wr P.out.rd (fun k hk => Nat.lt_of_lt_of_le (HB.out k hk) P.out.mod.size))
    go_wp2_with fail
    refine HE.out.mono ?_
    rintro r w3 ⟨rfl, rfl⟩
    obtain ⟨⟨⟨⟨client, seq, kind, keys, old, fresh, nn⟩, good⟩, e', l2⟩, htr⟩ : ∃ x, takeR 0 l' = x := ⟨_, rfl⟩
    have HTR := Lib.hid htr
    have HWF := Lib.hid (takeR_wf 0 l').1
    rw [htr] at HTW HWF
    clear htr
    go_wp2_with fail
    refine HTW.out.mono ?_
    rintro r w4 ⟨kao, kcap, rfl, r4, s4, m4, n4⟩
    dsimp only at r4 s4
    unfold cmdV
    dsimp only
    obtain ⟨w5, hw5', M5, z5, q0, q1, q2, q3, q4, q5, q6⟩ := box_facts (⟨client, seq, kind, keys, old, fresh, nn⟩, kao, kcap) w4
    dsimp only at hw5' q0 q1 q2 q3 q4 q5 q6
    have P5 := Lib.hid ((P.out.read hg r4 m4).still hg M5)
    have S5 := Lib.hid (s4.mod0 M5)
    have N5 : Hid (keys ≠ [] → ∀ j, j ∈ blk kao → j ∉ blk a ∧ w1.heap.size ≤ j ∧ j < w5.heap.size) := Lib.hid (fun hne j hj => by
      have h1 := n4 j hj
      have h2 := SeesT.lt (s4.mod0 M5) hne j hj
      have h3 := P.out.mod.size
      exact ⟨fun hm => by have := Own.lt P.out.own j hm; omega, by omega, h2⟩)
    have HE5 := Lib.hid (err_any g bs e' l2 64 w5 P5.out.rd)
    have HC5 := Lib.hid (check_any (⟨client, seq, kind, keys, old, fresh, nn⟩, kao, kcap) w5 HWF.out S5.out (HT.out.mod (M1.out.nil.trans' P5.out.mod) (fun hm => by simp at hm; have := HT.out.lt; omega)))
    have hm5 : Hid (Mod [] w w5) := Lib.hid (M1.out.trans P5.out.mod (by simp; omega))
    have HNK : Hid (n - k = (n - (k + 1)) + 1) := Lib.hid (by omega)
    clear r4 s4 m4 n4 M5 HTW HE P hm z5
    by_cases hbad : e' = 0 ∧ ¬ (good = true ∧ May ⟨client, seq, kind, keys, old, fresh, nn⟩)
    · have HQ3 : Hid (parseR l = ([], 11)) := Lib.hid (by
        have h1 := parseL_none (n - (k + 1)) l' (by rw [HTR.out]; exact hbad)
        rw [HP2.out, HQ.out, HNK.out, h1]
        rfl)
      obtain ⟨rfl, hb2⟩ := hbad
      cases good
      · clear hb2
        go_wp2_with fail
        refine HE5.out.mono ?_
        rintro r w6 ⟨rfl, rfl⟩
        go_wp2_with fail
        go_ret2
        exact ParseW.bad HQ3.out hm5.out
      · have hno : ¬ May ⟨client, seq, kind, keys, old, fresh, nn⟩ := fun h => hb2 ⟨rfl, h⟩
        rw [if_neg hno] at HC5
        clear hb2 hno
        go_wp2_with fail
        refine HE5.out.mono ?_
        rintro r w6 ⟨rfl, rfl⟩
        go_wp2_with fail
        refine HC5.out.mono ?_
        rintro r w7 ⟨rfl, m7⟩
        have hm7 := Lib.hid (hm5.out.trans' m7)
        clear m7
        go_wp2_with fail
        go_ret2
        exact ParseW.bad HQ3.out hm7.out
    have HQ3 : Hid (parseL n e0 l0 = (parseL (n - (k + 1)) e' l2).map fun x => ((out ++ [((⟨client, seq, kind, keys, old, fresh, nn⟩ : Cd), kao, kcap)]).map Prod.fst ++ x.1, x.2)) := Lib.hid (by
      have h1 := parseL_more (n - (k + 1)) l' (by rw [HTR.out]; exact hbad)
      rw [HTR.out] at h1
      dsimp only at h1
      rw [HQ.out, HNK.out, h1]
      cases parseL (n - (k + 1)) e' l2 with
      | none => rfl
      | some x => simp)
    by_cases he : e' = 0
    case neg =>
      have D0 : (e' == 0) = false := by simp [he]
      have S5' := Lib.hid S5.out
      have HSZ : Hid (w5.heap.size ≤ w5.heap.size) := Lib.hid (Nat.le_refl _)
      clear hbad he HC5
      go_wp2_with fail
      refine HE5.out.mono ?_
      rintro r w6 ⟨rfl, rfl⟩
      have mb := Mod.alloc [] w6 (.cells #[.int .u32 (client : Int), .int .u32 (seq : Int), .int .u8 (kind : Int), .slice kao keys.length kcap, .string old, .string fresh, .int .i64 nn] 36)
      have HSH := Lib.hid (showsC (x := ((⟨client, seq, kind, keys, old, fresh, nn⟩ : Cd), kao, kcap)) (heap_alloc_new w6 (.cells #[.int .u32 (client : Int), .int .u32 (seq : Int), .int .u8 (kind : Int), .slice kao keys.length kcap, .string old, .string fresh, .int .i64 nn] 36)))
      have PB := Lib.hid (P5.out.still hg mb)
      have SB := Lib.hid (S5'.out.mod0 mb)
      have NB : Hid (keys ≠ [] → ∀ j, j ∈ blk kao → j ∉ blk a ∧ w1.heap.size ≤ j ∧ j < (w6.alloc (.cells #[.int .u32 (client : Int), .int .u32 (seq : Int), .int .u8 (kind : Int), .slice kao keys.length kcap, .string old, .string fresh, .int .i64 nn] 36)).heap.size) := Lib.hid (fun hne j hj => ⟨(N5.out hne j hj).1, (N5.out hne j hj).2.1, Nat.lt_of_lt_of_le (Nat.lt_of_lt_of_le (N5.out hne j hj).2.2 HSZ.out) mb.size⟩)
      have hol := HOL.out
      have hol6 : out.length + 1 ≤ 1000000 := by omega
      clear mb hol
      go_wp2_with (first | (at_builtin; refine wpl_appC (dst := some 52) _ _ a out.length c out rfl rfl PB.out.own _ ((⟨client, seq, kind, keys, old, fresh, nn⟩ : Cd), kao, kcap) rfl HSH.out hol6 ?_) | fail)
      intro a8 c8 w8 o8 m8 s8
      have P8 := Lib.hid (PB.out.push hg HB.out SB.out HWF.out NB.out o8 m8 s8)
      have HO8 : Hid ((out ++ [((⟨client, seq, kind, keys, old, fresh, nn⟩ : Cd), kao, kcap)]).length = k + 1) := Lib.hid (by rw [List.length_append, HOL.out]; rfl)
      clear o8 m8 s8 PB SB NB HSH
      go_wp2_with fail
      go_roundw
      case rel => exact ⟨k + 1, a8, c8, out ++ [((⟨client, seq, kind, keys, old, fresh, nn⟩ : Cd), kao, kcap)], e', l2, by omega, by go_num, by rw [List.length_append]; rfl, HO8.out, P8.out, HQ3.out⟩
      case measure => simp [intOf]; omega
    subst he
    have hgd : good = true ∧ May ⟨client, seq, kind, keys, old, fresh, nn⟩ := Decidable.byContradiction (fun h => hbad ⟨rfl, h⟩)
    obtain ⟨rfl, hmay⟩ := hgd
    rw [if_pos hmay] at HC5
    clear hbad hmay
    go_wp2_with fail
    refine HE5.out.mono ?_
    rintro r w6 ⟨rfl, rfl⟩
    go_wp2_with fail
    refine HC5.out.mono ?_
    rintro r w7 ⟨rfl, m7⟩
    replace q0 := m7.cell q0 List.not_mem_nil
    replace q1 := m7.cell q1 List.not_mem_nil
    replace q2 := m7.cell q2 List.not_mem_nil
    replace q3 := m7.cell q3 List.not_mem_nil
    replace q4 := m7.cell q4 List.not_mem_nil
    replace q5 := m7.cell q5 List.not_mem_nil
    replace q6 := m7.cell q6 List.not_mem_nil
    have P7 := Lib.hid (P5.out.still hg m7)
    have S5' := Lib.hid (S5.out.mod0 m7)
    have HSZ := Lib.hid m7.size
    clear m7 P5
    have mb := Mod.alloc [] w7 (.cells #[.int .u32 (client : Int), .int .u32 (seq : Int), .int .u8 (kind : Int), .slice kao keys.length kcap, .string old, .string fresh, .int .i64 nn] 36)
    have HSH := Lib.hid (showsC (x := ((⟨client, seq, kind, keys, old, fresh, nn⟩ : Cd), kao, kcap)) (heap_alloc_new w7 (.cells #[.int .u32 (client : Int), .int .u32 (seq : Int), .int .u8 (kind : Int), .slice kao keys.length kcap, .string old, .string fresh, .int .i64 nn] 36)))
    have PB := Lib.hid (P7.out.still hg mb)
    have SB := Lib.hid (S5'.out.mod0 mb)
    have NB : Hid (keys ≠ [] → ∀ j, j ∈ blk kao → j ∉ blk a ∧ w1.heap.size ≤ j ∧ j < (w7.alloc (.cells #[.int .u32 (client : Int), .int .u32 (seq : Int), .int .u8 (kind : Int), .slice kao keys.length kcap, .string old, .string fresh, .int .i64 nn] 36)).heap.size) := Lib.hid (fun hne j hj => ⟨(N5.out hne j hj).1, (N5.out hne j hj).2.1, Nat.lt_of_lt_of_le (Nat.lt_of_lt_of_le (N5.out hne j hj).2.2 HSZ.out) mb.size⟩)
    have hol := HOL.out
    have hol6 : out.length + 1 ≤ 1000000 := by omega
    clear mb hol
    go_wp2_with (first | (at_builtin; refine wpl_appC (dst := some 52) _ _ a out.length c out rfl rfl PB.out.own _ ((⟨client, seq, kind, keys, old, fresh, nn⟩ : Cd), kao, kcap) rfl HSH.out hol6 ?_) | fail)
    intro a8 c8 w8 o8 m8 s8
    have P8 := Lib.hid (PB.out.push hg HB.out SB.out HWF.out NB.out o8 m8 s8)
    have HO8 : Hid ((out ++ [((⟨client, seq, kind, keys, old, fresh, nn⟩ : Cd), kao, kcap)]).length = k + 1) := Lib.hid (by rw [List.length_append, HOL.out]; rfl)
    clear o8 m8 s8 PB SB NB HSH
    go_wp2_with fail
    go_roundw
    case rel => exact ⟨k + 1, a8, c8, out ++ [((⟨client, seq, kind, keys, old, fresh, nn⟩ : Cd), kao, kcap)], 0, l2, by omega, by go_num, by rw [List.length_append]; rfl, HO8.out, P8.out, HQ3.out⟩
    case measure => simp [intOf]; omega
end Go.Proofs.YtaagfoeedngdjaaDoor
