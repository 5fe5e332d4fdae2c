/- Messages as data, and what the world shows of them; the walk of msg.lists. -/
import Derived.Test.YtekdnljincbghaaDoorMsg1
import Derived.IntWalk
import Derived.Deep.CutRange
namespace Go.Proofs.YtekdnljincbghaaDoor
open Go Go.RowKit Go.Lib

/-- Bytes: what they are, where, how much room. -/
abbrev Bs := List UInt8 × Option Addr × Nat
def bsV (b : Bs) : Value := .slice b.2.1 b.1.length b.2.2
/-- A vote without its batch; with it. -/
structure Vd where
  slot : Nat
  n : Nat
  r : Int
deriving DecidableEq
abbrev Vm := Vd × Bs
/-- A message's numbers. -/
structure Hd where
  kind : Nat
  bn : Nat
  br : Int
  first : Nat
  last : Nat
  commit : Nat
deriving DecidableEq
/-- A message in memory. -/
structure Mm where
  h : Hd
  vo : Option Addr
  vc : Nat
  votes : List Vm
  so : Option Addr
  sc : Nat
  batches : List Bs
  p : Bs
/-- A message as data. -/
structure Md where
  h : Hd
  votes : List (Vd × List UInt8)
  batches : List (List UInt8)
  snap : List UInt8
deriving DecidableEq
def dV (l : List Vm) : List (Vd × List UInt8) := l.map fun v => (v.1, v.2.1)
def dB (l : List Bs) : List (List UInt8) := l.map Prod.fst
def Mm.d (m : Mm) : Md := ⟨m.h, dV m.votes, dB m.batches, m.p.1⟩
theorem dV_length (l : List Vm) : (dV l).length = l.length := by simp [dV]
theorem dB_length (l : List Bs) : (dB l).length = l.length := by simp [dB]
/-- The values of a message: the kind's own first. -/
def mC (k : Value) (m : Mm) : Array Value := #[k, .int .u64 (m.h.bn : Int), .int .i64 m.h.br, .int .u64 (m.h.first : Int), .int .u64 (m.h.last : Int), .int .u64 (m.h.commit : Int), .slice m.vo m.votes.length m.vc, .slice m.so m.batches.length m.sc, .slice m.p.2.1 m.p.1.length m.p.2.2]
def msgV (m : Mm) : Value := .agg (mC (.int .u8 (m.h.kind : Int)) m)
def refV (m : Mm) : Value := .agg (mC (.int .i64 (m.h.kind : Int)) m)
def voteC (v : Vm) : List Value := [.int .u64 (v.1.slot : Int), .int .u64 (v.1.n : Int), .int .i64 v.1.r, bsV v.2]
def SeesVs (w : World) (ao : Option Addr) (l : List Vm) : Prop :=
  ∀ j (h : j < l.length), ∃ b off, ao = some ⟨b, off, none⟩ ∧ (w.cell? ⟨b, off + j * 4, none⟩ = some (.int .u64 (l[j].1.slot : Int)) ∧ w.cell? ⟨b, off + j * 4 + 1, none⟩ = some (.int .u64 (l[j].1.n : Int)) ∧ w.cell? ⟨b, off + j * 4 + 2, none⟩ = some (.int .i64 l[j].1.r) ∧
    w.cell? ⟨b, off + j * 4 + 3, none⟩ = some (.slice l[j].2.2.1 l[j].2.1.length l[j].2.2.2)) ∧ Sees w l[j].2.2.1 l[j].2.1
def SeesBs (w : World) (ao : Option Addr) (l : List Bs) : Prop :=
  ∀ j (h : j < l.length), ∃ b off, ao = some ⟨b, off, none⟩ ∧ w.cell? ⟨b, off + j, none⟩ = some (.slice l[j].2.1 l[j].1.length l[j].2.2) ∧ Sees w l[j].2.1 l[j].1
theorem SeesVs.mod0 {w w' : World} {ao : Option Addr} {l : List Vm} (h : SeesVs w ao l) (m : Mod [] w w') : SeesVs w' ao l := fun j hj => by
  obtain ⟨b, off, h1, ⟨c0, c1, c2, c3⟩, h3⟩ := h j hj
  exact ⟨b, off, h1, ⟨m.cell c0 List.not_mem_nil, m.cell c1 List.not_mem_nil, m.cell c2 List.not_mem_nil, m.cell c3 List.not_mem_nil⟩, h3.mod0 m⟩
theorem SeesBs.mod0 {w w' : World} {ao : Option Addr} {l : List Bs} (h : SeesBs w ao l) (m : Mod [] w w') : SeesBs w' ao l := fun j hj => by
  obtain ⟨b, off, h1, c0, h3⟩ := h j hj
  exact ⟨b, off, h1, m.cell c0 List.not_mem_nil, h3.mod0 m⟩
theorem SeesVs.vote {w : World} {ao : Option Addr} {l : List Vm} (h : SeesVs w ao l) {j : Nat} (hj : j < l.length) : ∃ b off, ao = some ⟨b, off, none⟩ ∧ ∀ w', Mod [] w w' →
    w'.cell? ⟨b, off + j * 4, none⟩ = some (.int .u64 (l[j].1.slot : Int)) ∧ w'.cell? ⟨b, off + j * 4 + 1, none⟩ = some (.int .u64 (l[j].1.n : Int)) ∧ w'.cell? ⟨b, off + j * 4 + 2, none⟩ = some (.int .i64 l[j].1.r) ∧
    w'.cell? ⟨b, off + j * 4 + 3, none⟩ = some (.slice l[j].2.2.1 l[j].2.1.length l[j].2.2.2) ∧ Sees w' l[j].2.2.1 l[j].2.1 := by
  obtain ⟨b, off, h1, _⟩ := h j hj
  refine ⟨b, off, h1, fun w' m => ?_⟩
  obtain ⟨b', off', h1', ⟨a0, a1, a2, a3⟩, h3⟩ := (h.mod0 m) j hj
  rw [h1] at h1'
  cases h1'
  exact ⟨a0, a1, a2, a3, h3⟩
theorem SeesBs.batch {w : World} {ao : Option Addr} {l : List Bs} (h : SeesBs w ao l) {j : Nat} (hj : j < l.length) : ∃ b off, ao = some ⟨b, off, none⟩ ∧ ∀ w', Mod [] w w' →
    w'.cell? ⟨b, off + j, none⟩ = some (.slice l[j].2.1 l[j].1.length l[j].2.2) ∧ Sees w' l[j].2.1 l[j].1 := by
  obtain ⟨b, off, h1, _⟩ := h j hj
  refine ⟨b, off, h1, fun w' m => ?_⟩
  obtain ⟨b', off', h1', a0, h3⟩ := (h.mod0 m) j hj
  rw [h1] at h1'
  cases h1'
  exact ⟨a0, h3⟩
theorem dV_drop {l : List Vm} {k : Nat} (hk : k < l.length) : (dV l).drop k = (l[k].1, l[k].2.1) :: (dV l).drop (k + 1) := by
  rw [List.drop_eq_getElem_cons (by rw [dV_length]; exact hk)]
  congr 1
  unfold dV
  rw [List.getElem_map]
theorem dB_drop {l : List Bs} {k : Nat} (hk : k < l.length) : (dB l).drop k = l[k].1 :: (dB l).drop (k + 1) := by
  rw [List.drop_eq_getElem_cons (by rw [dB_length]; exact hk)]
  congr 1
  unfold dB
  rw [List.getElem_map]
/-- What the world shows of a message. -/
structure SeesM (w : World) (m : Mm) : Prop where
  votes : SeesVs w m.vo m.votes
  batches : SeesBs w m.so m.batches
  snap : Sees w m.p.2.1 m.p.1
theorem SeesM.mod0 {w w' : World} {m : Mm} (h : SeesM w m) (hm : Mod [] w w') : SeesM w' m := ⟨h.votes.mod0 hm, h.batches.mod0 hm, h.snap.mod0 hm⟩
def WfV (v : Vd) : Prop := v.slot < 18446744073709551616 ∧ v.n < 18446744073709551616 ∧ -9223372036854775808 ≤ v.r ∧ v.r ≤ 9223372036854775807
def WfH (h : Hd) : Prop := h.kind < 256 ∧ h.bn < 18446744073709551616 ∧ (-9223372036854775808 ≤ h.br ∧ h.br ≤ 9223372036854775807) ∧ h.first < 18446744073709551616 ∧ h.last < 18446744073709551616 ∧ h.commit < 18446744073709551616
def WfB (b : Bs) : Prop := b.1.length ≤ b.2.2 ∧ b.2.2 ≤ 9223372036854775807
/-- Numbers of a message that its types hold. -/
structure WfM (m : Mm) : Prop where
  h : WfH m.h
  vlen : m.votes.length ≤ 9223372036854775807
  votes : ∀ v ∈ m.votes, WfV v.1 ∧ WfB v.2
  blen : m.batches.length ≤ 9223372036854775807
  batches : ∀ b ∈ m.batches, WfB b
  snap : WfB m.p

/-- Do votes rise above a slot, each of a place? -/
def Chain : Nat → List (Vd × List UInt8) → Prop
  | _, [] => True
  | a, v :: r => a < v.1.slot ∧ Place v.1.r ∧ Chain v.1.slot r
def decChain : ∀ (a : Nat) (l : List (Vd × List UInt8)), Decidable (Chain a l)
  | _, [] => .isTrue trivial
  | a, v :: r => @instDecidableAnd (a < v.1.slot) _ inferInstance (@instDecidableAnd (Place v.1.r) _ inferInstance (decChain v.1.slot r))
instance (a : Nat) (l : List (Vd × List UInt8)) : Decidable (Chain a l) := decChain a l
theorem wrapU64 (x : Int) : IntKind.u64.wrap x = x % 18446744073709551616 := by simp [IntKind.wrap, IntKind.signed, IntKind.bits]
/-- May a message's lists be? -/
def Lists (d : Md) : Prop := d.batches.length ≤ 16 ∧ d.votes.length ≤ 256 ∧ ¬ (d.h.kind = 7 ∧ d.batches.length = 0) ∧ ¬ (0 < d.batches.length ∧ 18446744073709551616 ≤ d.h.first + d.batches.length - 1) ∧ Chain d.h.commit d.votes
instance (d : Md) : Decidable (Lists d) := inferInstanceAs (Decidable (_ ∧ _))

set_option maxRecDepth 100000 in
set_option maxHeartbeats 4000000 in
theorem lists_any (m : Mm) (w : World) (hs : SeesM w m) (hw : WfM m) : Calls Tryd.prog 27 #[msgV m] w fun e w' => e = .returned (.bool (decide (Lists m.d))) ∧ Mod [] w w' := by
  obtain ⟨⟨kind, bn, br, first, last, commit⟩, vo, vc, votes, so, sc, batches, pl, po, pc⟩ := m
  have hb := heap_alloc_new w (.cells #[.int .u8 (kind : Int), .int .u64 (bn : Int), .int .i64 br, .int .u64 (first : Int), .int .u64 (last : Int), .int .u64 (commit : Int), .slice vo votes.length vc, .slice so batches.length sc, .slice po pl.length pc] 29)
  have m1 := Mod.alloc [] w (.cells #[.int .u8 (kind : Int), .int .u64 (bn : Int), .int .i64 br, .int .u64 (first : Int), .int .u64 (last : Int), .int .u64 (commit : Int), .slice vo votes.length vc, .slice so batches.length sc, .slice po pl.length pc] 29)
  obtain ⟨w1, hw1⟩ : ∃ x, w.alloc (.cells #[.int .u8 (kind : Int), .int .u64 (bn : Int), .int .i64 br, .int .u64 (first : Int), .int .u64 (last : Int), .int .u64 (commit : Int), .slice vo votes.length vc, .slice so batches.length sc, .slice po pl.length pc] 29) = x := ⟨_, rfl⟩
  rw [hw1] at hb m1
  obtain ⟨vl, hvl⟩ : ∃ n, votes.length = n := ⟨_, rfl⟩
  obtain ⟨bl, hbl⟩ : ∃ n, batches.length = n := ⟨_, rfl⟩
  have hL : Lists (⟨⟨kind, bn, br, first, last, commit⟩, vo, vc, votes, so, sc, batches, pl, po, pc⟩ : Mm).d ↔ (bl ≤ 16 ∧ vl ≤ 256 ∧ ¬ (kind = 7 ∧ bl = 0) ∧ ¬ (0 < bl ∧ 18446744073709551616 ≤ first + bl - 1) ∧ Chain commit (dV votes)) := by
    unfold Lists Mm.d
    dsimp only
    rw [dB_length, dV_length, hvl, hbl]
  have hcb := hw.h
  unfold WfH at hcb
  dsimp only at hcb
  have hvb := hw.vlen
  have hbb := hw.blen
  dsimp only at hvb hbb
  rw [hvl] at hb hw1 hvb
  rw [hbl] at hb hw1 hbb
  have HL := Lib.hid hL
  have HS := Lib.hid (hs.votes.mod0 m1)
  have HVL := Lib.hid hvl
  have M1 := Lib.hid m1
  have HB := Lib.hid hb
  have HWV := Lib.hid hw.votes
  unfold msgV mC
  dsimp only
  rw [hvl, hbl]
  have c0 := cell_of_block (i := 0) hb
  have c3 := cell_of_block (i := 3) hb
  have c5 := cell_of_block (i := 5) hb
  have c6 := cell_of_block (i := 6) hb
  have c7 := cell_of_block (i := 7) hb
  clear hs hw hb m1 hL hvl hbl
  go_enter Tryd.func27, Tryd.ntmps27
  by_cases h1 : 16 < bl
  · have D1 : decide ((16 : Int) < (bl : Int)) = true := decide_eq_true (by omega)
    go_wp2_with fail
    go_ret
    exact ⟨by rw [decide_eq_false (fun h => by have := HL.out.1 h; omega)]; rfl, M1.out⟩
  have D1 : decide ((16 : Int) < (bl : Int)) = false := decide_eq_false (by omega)
  by_cases h2 : 256 < vl
  · have D2 : decide ((256 : Int) < (vl : Int)) = true := decide_eq_true (by omega)
    go_wp2_with fail
    go_ret
    exact ⟨by rw [decide_eq_false (fun h => by have := HL.out.1 h; omega)]; rfl, M1.out⟩
  have D2 : decide ((256 : Int) < (vl : Int)) = false := decide_eq_false (by omega)
  by_cases h3 : kind = 7 ∧ bl = 0
  · have HH : Hid (decide (Lists (⟨⟨kind, bn, br, first, last, commit⟩, vo, vc, votes, so, sc, batches, pl, po, pc⟩ : Mm).d) = false) := Lib.hid (decide_eq_false (fun h => (HL.out.1 h).2.2.1 h3))
    have D3 : ((kind : Int) == 7) = true := by
      rw [beq_iff_eq]
      omega
    have D4 : ((bl : Int) == 0) = true := by
      rw [beq_iff_eq]
      omega
    clear h3
    go_wp2_with fail
    go_ret
    exact ⟨by rw [HH.out]; rfl, M1.out⟩
  go_upto_region 1 with (fail)
  go_cut [27] from 7 to 65 (fun s wx => s = .bool false ∧ w1 = wx)
  case first =>
    by_cases h7 : kind = 7
    · subst h7
      have D3 : ((bl : Int) == 0) = false := by
        rw [beq_eq_false_iff_ne]
        omega
      go_wp2_with fail
      go_meet
      exact ⟨rfl, rfl⟩
    · have D3 : ((kind : Int) == 7) = false := by
        rw [beq_eq_false_iff_ne]
        omega
      go_wp2_with fail
      go_meet
      exact ⟨rfl, rfl⟩
  case rest =>
  obtain ⟨rfl, rfl⟩ := hcut
  have e1 : IntKind.u64.wrap ((first : Int) + (bl : Int)) = ((first : Int) + (bl : Int)) % 18446744073709551616 := wrapU64 _
  have e2 : IntKind.u64.wrap (((first : Int) + (bl : Int)) % 18446744073709551616 - 1) = (((first : Int) + (bl : Int)) - 1) % 18446744073709551616 := by
    rw [wrapU64]
    omega
  by_cases h4 : 0 < bl ∧ 18446744073709551616 ≤ first + bl - 1
  · have D4 : decide (0 < bl) = true := decide_eq_true (by omega)
    have D5 : decide (((first : Int) + (bl : Int) - 1) % 18446744073709551616 < (first : Int)) = true := decide_eq_true (by omega)
    have HH : Hid (decide (Lists (⟨⟨kind, bn, br, first, last, commit⟩, vo, vc, votes, so, sc, batches, pl, po, pc⟩ : Mm).d) = false) := Lib.hid (decide_eq_false (fun h => (HL.out.1 h).2.2.2.1 h4))
    clear h4 h3
    go_wp2_with fail
    go_ret
    exact ⟨by rw [HH.out]; rfl, M1.out⟩
  go_upto_region 4 with (fail)
  go_cut [43] from 32 to 65 (fun s wx => s = .bool false ∧ w1 = wx)
  case first =>
    by_cases h5 : 0 < bl
    · have D4 : decide (0 < bl) = true := decide_eq_true h5
      have D5 : decide (((first : Int) + (bl : Int) - 1) % 18446744073709551616 < (first : Int)) = false := decide_eq_false (by omega)
      clear h4 h3 h5
      go_wp2_with fail
      go_meet
      exact ⟨rfl, rfl⟩
    · have D4 : decide (0 < bl) = false := decide_eq_false h5
      clear h4 h3 h5
      go_wp2_with fail
      go_meet
      exact ⟨rfl, rfl⟩
  case rest =>
  obtain ⟨rfl, rfl⟩ := hcut
  clear e1 e2
  have HB1 : Hid (∀ b : Bool, (Chain commit (dV votes) ↔ b = true) → decide (Lists (⟨⟨kind, bn, br, first, last, commit⟩, vo, vc, votes, so, sc, batches, pl, po, pc⟩ : Mm).d) = b) := Lib.hid (fun b hb => by
    cases b
    · exact decide_eq_false (fun h => by have := hb.1 (HL.out.1 h).2.2.2.2; exact absurd this (by decide))
    · exact decide_eq_true (HL.out.2 ⟨by omega, by omega, h3, h4, hb.2 rfl⟩))
  clear HL h3 h4 D1 D2 h1 h2
  go_wp2_with fail
  go_loopw [4, 49] (fun s4 s49 wr => ∃ (k a : Nat), s4 = .int .u64 (a : Int) ∧ s49 = .int .i64 (k : Int) ∧ k ≤ vl ∧ a < 18446744073709551616 ∧ (Chain commit (dV votes) ↔ Chain a ((dV votes).drop k)) ∧ Mod [] w1 wr) (fun _ s49 _ => vl - (intOf s49).toNat)
  case atStart => exact ⟨0, commit, rfl, rfl, Nat.zero_le _, by omega, by rw [List.drop_zero], Mod.refl _ _⟩
  case round =>
    obtain ⟨k, a, rfl, rfl, hk, ha, hch, hm⟩ := hrel
    rename World => wr
    have HCH := Lib.hid hch
    have HM := Lib.hid hm
    have HWR := Lib.hid (M1.out.trans' hm)
    clear hch hm
    by_cases hkv : k < vl
    case neg =>
      have hke : k = vl := by omega
      have HH := HB1.out true ⟨fun _ => rfl, fun _ => HCH.out.2 (by rw [List.drop_of_length_le (by rw [dV_length, HVL.out]; omega)]; trivial)⟩
      have HHH := Lib.hid HH
      clear HH
      subst hke
      go_wp2_with fail
      go_ret
      exact ⟨by rw [HHH.out]; rfl, HWR.out⟩
    have hkl : k < votes.length := by rw [HVL.out]; exact hkv
    have hkv2 : (k : Int) < (vl : Int) := by omega
    obtain ⟨b, off, rfl, hc⟩ := HS.out.vote hkl
    have hdr := dV_drop hkl
    have hwv := (HWV.out _ (List.getElem_mem hkl)).1
    obtain ⟨⟨⟨sl, n, r⟩, bl', bo, bc⟩, hx⟩ : ∃ x, votes[k] = x := ⟨_, rfl⟩
    rw [hx] at hc hdr hwv
    dsimp only at hc hdr hwv
    unfold WfV at hwv
    dsimp only at hwv
    obtain ⟨a0, a1, a2, a3, -⟩ := hc wr HM.out
    obtain ⟨w2, hw2, A2, m2⟩ : ∃ x, wr.alloc (.cells #[.int .u64 (sl : Int), .int .u64 (n : Int), .int .i64 r, .slice bo bl'.length bc] 52) = x ∧ x.heap[wr.heap.size]? = some (.cells #[.int .u64 (sl : Int), .int .u64 (n : Int), .int .i64 r, .slice bo bl'.length bc] 52 (0, 0)) ∧ Mod [] wr x := ⟨_, rfl, heap_alloc_new wr _, Mod.alloc _ _ _⟩
    have b0 := cell_of_block (i := 0) A2
    have b1 := cell_of_block (i := 1) A2
    have b2 := cell_of_block (i := 2) A2
    have M2 := Lib.hid (HM.out.trans' m2)
    have MW2 := Lib.hid (HWR.out.trans' m2)
    rw [hdr] at HCH
    have HP := Lib.hid (place_any (n : Int) r w2)
    clear hc hdr hx A2 m2 c0 c3 c5 c6 c7 hw1 HB
    by_cases hsl : a < sl
    case neg =>
      have D : decide (sl ≤ a) = true := decide_eq_true (by omega)
      have HH := Lib.hid (HB1.out false ⟨fun h => absurd (show a < sl from (HCH.out.1 h).1) hsl, fun h => absurd h (by decide)⟩)
      go_wp2_with fail
      go_ret
      exact ⟨by rw [HH.out]; rfl, MW2.out⟩
    have D : decide (sl ≤ a) = false := decide_eq_false (by omega)
    go_wp2_with fail
    refine HP.out.mono ?_
    rintro e w3 ⟨rfl, m3⟩
    have M3 := Lib.hid (M2.out.trans' m3)
    have MW3 := Lib.hid (MW2.out.trans' m3)
    have d0 := m3.cell b0 List.not_mem_nil
    obtain ⟨q, hq⟩ : ∃ q, decide (Place r) = q := ⟨_, rfl⟩
    have HQ := Lib.hid hq
    rw [hq]
    clear hq m3 HP hw2 a0 a1 a2 a3 b0 b1 b2
    cases q
    case false =>
      have HH := Lib.hid (HB1.out false ⟨fun h => absurd (HCH.out.1 h).2.1 (of_decide_eq_false HQ.out), fun h => absurd h (by decide)⟩)
      go_wp2_with fail
      go_ret
      exact ⟨by rw [HH.out]; rfl, MW3.out⟩
    go_wp2_with fail
    go_roundw
    case rel => exact ⟨k + 1, sl, rfl, by go_num, by omega, by omega, ⟨fun h => (HCH.out.1 h).2.2, fun h => HCH.out.2 ⟨hsl, of_decide_eq_true HQ.out, h⟩⟩, M3.out⟩
    case measure => simp [intOf]; omega
end Go.Proofs.YtekdnljincbghaaDoor
