/- Texts put together (2 of 3): Ks1, Ks2, Ks3, MapF, Ks4, RegionU, Ks5. -/
import Derived.Test.YtkkjbeakmimmmaaZ1
import Derived.Sort.OwnSorted
import Derived.Deep.LoopGhost
import Derived.MapKept
import Derived.Carry
import Derived.Handy
import Derived.Maps.OwnOps
import Derived.Maps.OwnSet
/- The keys that a command touches: sorted, each once. -/
namespace Go.Proofs.Ytkkjbeakmimmmaa
open Go Go.RowKit Go.Lib

/-- Texts as bytes. -/
def bs8 (s : ByteArray) : List UInt8 := s.data.toList
def sb8 (l : List UInt8) : ByteArray := ⟨l.toArray⟩
theorem sb_bs (s : ByteArray) : sb8 (bs8 s) = s := (str_eta s).symm
theorem bs_sb (l : List UInt8) : bs8 (sb8 l) = l := by simp [bs8, sb8]
theorem enc_bs (s : ByteArray) : encStr (bs8 s) = .string s := by
  show Value.string ⟨s.data.toList.toArray⟩ = _
  rw [← str_eta]
/-- Sorted, each once. -/
def tkB (l : List (List UInt8)) : List (List UInt8) := Lib.compact (l.mergeSort fun x y => decide (x ≤ y))
def tk (l : List ByteArray) : List ByteArray := (tkB (l.map bs8)).map sb8
theorem keeps_mem {d : List (List UInt8)} {j : Nat} (hj : j < d.length) : ∃ i, i ≤ j ∧ Lib.keeps d.toArray i = true ∧ d.toArray[i]! = d[j] := by
  induction j with
  | zero => exact ⟨0, Nat.le_refl _, by simp [Lib.keeps], by simp [hj]⟩
  | succ j ih =>
    by_cases h : Lib.keeps d.toArray (j + 1) = true
    · exact ⟨j + 1, Nat.le_refl _, h, by simp [hj]⟩
    · obtain ⟨i, h1, h2, h3⟩ := ih (by omega)
      refine ⟨i, by omega, h2, ?_⟩
      rw [h3]
      have h' : Lib.keeps d.toArray (j + 1) = false := by simpa using h
      rcases Classical.em (d.toArray[j + 1]! = d.toArray[j + 1 - 1]!) with he | he
      · simp [hj, show j < d.length by omega] at he
        exact he.symm
      · rw [Lib.keeps_pos he] at h'
        cases h'
theorem compact_mem (d : List (List UInt8)) (x : List UInt8) : x ∈ Lib.compact d ↔ x ∈ d := by
  unfold Lib.compact Lib.compactUpTo
  rw [List.mem_map]
  constructor
  · rintro ⟨i, hi, rfl⟩
    have hlt := (List.mem_range.1 (List.mem_filter.1 hi).1)
    simp [hlt]
  · intro hx
    obtain ⟨j, hj, rfl⟩ := List.getElem_of_mem hx
    obtain ⟨i, h1, h2, h3⟩ := keeps_mem hj
    exact ⟨i, List.mem_filter.2 ⟨List.mem_range.2 (by omega), h2⟩, h3⟩
theorem compact_nodup (d : List (List UInt8)) (hs : d.Pairwise (fun x y => x ≤ y)) : (Lib.compact d).Nodup := by
  unfold Lib.compact Lib.compactUpTo
  unfold List.Nodup
  rw [List.pairwise_map]
  refine List.Pairwise.imp_of_mem (R := fun i j => i < j) ?_ ((List.pairwise_lt_range).filter _)
  intro i j hi hj hlt he
  obtain ⟨hi1, _⟩ := List.mem_filter.1 hi
  obtain ⟨hj1, hj2⟩ := List.mem_filter.1 hj
  have hil := List.mem_range.1 hi1
  have hjl := List.mem_range.1 hj1
  have hkeep : d.toArray[j]! ≠ d.toArray[j - 1]! := by
    intro h
    rw [Lib.keeps_neg (by omega) h] at hj2
    cases hj2
  have hle : ∀ a b (ha : a < d.length) (hb : b < d.length), a ≤ b → d[a] ≤ d[b] := fun a b ha hb hab => by
    rcases Nat.lt_or_ge a b with h | h
    · exact List.pairwise_iff_getElem.1 hs a b ha hb h
    · obtain rfl : a = b := by omega
      exact List.le_refl _
  have e1 : d.toArray[i]! = d[i] := by simp [hil]
  have e2 : d.toArray[j]! = d[j] := by simp [hjl]
  have e3 : d.toArray[j - 1]! = d[j - 1] := by simp [show j - 1 < d.length by omega]
  rw [e1, e2] at he
  rw [e2, e3] at hkeep
  have h1 := hle i (j - 1) hil (by omega) (by omega)
  have h2 := hle (j - 1) j (by omega) hjl (by omega)
  rw [he] at h1
  exact hkeep (List.le_antisymm h1 h2)
theorem sorted_B (l : List (List UInt8)) : (l.mergeSort fun x y => decide (x ≤ y)).Pairwise (fun x y => x ≤ y) := by
  have h := List.pairwise_mergeSort (le := fun (x y : List UInt8) => decide (x ≤ y)) (fun a b c h1 h2 => by
    simp only [decide_eq_true_eq] at *
    exact List.le_trans h1 h2) (fun a b => by
    simp only [Bool.or_eq_true, decide_eq_true_eq]
    exact List.le_total a b) l
  exact h.imp (fun h => by simpa using h)
theorem tkB_mem (l : List (List UInt8)) (x : List UInt8) : x ∈ tkB l ↔ x ∈ l := by
  unfold tkB
  rw [compact_mem]
  exact (List.mergeSort_perm l _).mem_iff
theorem tkB_nodup (l : List (List UInt8)) : (tkB l).Nodup := compact_nodup _ (sorted_B l)
theorem tk_mem (l : List ByteArray) (x : ByteArray) : x ∈ tk l ↔ x ∈ l := by
  unfold tk
  rw [List.mem_map]
  constructor
  · rintro ⟨y, hy, rfl⟩
    rw [tkB_mem] at hy
    obtain ⟨z, hz, rfl⟩ := List.mem_map.1 hy
    rw [sb_bs]
    exact hz
  · intro hx
    exact ⟨bs8 x, (tkB_mem _ _).2 (List.mem_map.2 ⟨x, hx, rfl⟩), sb_bs x⟩
theorem tk_nodup (l : List ByteArray) : (tk l).Nodup := by
  unfold tk
  refine List.Pairwise.map _ (fun a b h e => h ?_) (tkB_nodup _)
  have := congrArg bs8 e
  rwa [bs_sb, bs_sb] at this
theorem tkB_le (l : List (List UInt8)) : (tkB l).length ≤ l.length := by
  unfold tkB
  have := Lib.compact_length_le (l.mergeSort fun x y => decide (x ≤ y))
  rwa [List.length_mergeSort] at this
theorem tk_le (l : List ByteArray) : (tk l).length ≤ l.length := by
  unfold tk
  have := tkB_le (l.map bs8)
  rw [List.length_map] at this ⊢
  exact this
theorem tk_nil : tk [] = [] := List.eq_nil_of_length_eq_zero (Nat.le_zero.1 (tk_le []))
theorem tk_enc (l : List ByteArray) : (tk l).map Value.string = (tkB (l.map bs8)).map encStr := by
  unfold tk
  rw [List.map_map]
  exact List.map_congr_left (fun x _ => rfl)
/-- Texts of the call's own. -/
def OwnS (w : World) (ao : Option Addr) (cap : Nat) (l : List ByteArray) : Prop := OwnM Value.string w 9 ao cap l

theorem sort_any (g cap : Nat) (l : List (List UInt8)) (cur : Array Value) (w : World) (h1 : l.length ≤ 1000000) (hb : w.heap[g]? = some (.cells cur 9 (0, 0))) (hc : cur.size = cap) (hlc : l.length ≤ cap) (ht : cur.toList.take l.length = l.map encStr) :
    Calls Try.prog 23 #[.slice (some ⟨g, 0, none⟩) l.length cap] w fun e w' => e = .returned (.tuple #[]) ∧ Mod [g] w w' ∧ ∃ cur', w'.heap[g]? = some (.cells cur' 9 (0, 0)) ∧ cur'.size = cap ∧ cur'.toList.take l.length = (l.mergeSort fun x y => decide (x ≤ y)).map encStr := by
  refine (Try.slices_Sort_string g 0 cap l w (holds_of_block hb ht) (lt_of_block hb) (by omega)).mono ?_
  rintro e w' ⟨rfl, n, os, rfl⟩
  refine ⟨rfl, (Mod.grown (grownBy_sorted _)).weaken (by simp), _, heap_sorted _ hb, by simp [Sort.putCells, hc], ?_⟩
  have hl : (l.mergeSort fun x y => decide (x ≤ y)).length = l.length := List.length_mergeSort l
  have := take_putCells cur (l.mergeSort fun x y => decide (x ≤ y)) (by omega)
  rwa [hl] at this
theorem compact_any (g cap : Nat) (l : List (List UInt8)) (cur : Array Value) (w : World) (h1 : l.length ≤ 1000000) (hb : w.heap[g]? = some (.cells cur 9 (0, 0))) (hc : cur.size = cap) (hlc : l.length ≤ cap) (ht : cur.toList.take l.length = l.map encStr) :
    Calls Try.prog 24 #[.slice (some ⟨g, 0, none⟩) l.length cap] w fun e w' => e = .returned (.slice (some ⟨g, 0, none⟩) (Lib.compact l).length cap) ∧ Mod [g] w w' ∧ ∃ cur', w'.heap[g]? = some (.cells cur' 9 (0, 0)) ∧ cur'.size = cap ∧ cur'.toList.take (Lib.compact l).length = (Lib.compact l).map encStr := by
  refine (Try.slices_Compact_string g 0 cap l w (holds_of_block hb ht) (by omega) hlc).mono ?_
  rintro e w' ⟨rfl, q, rfl⟩
  have hle := Lib.compact_length_le l
  have h0 : ∀ d, Sort.grow (Sort.putRow encStr (Sort.ahead w q) g 0 d) #[] = Sort.putRow encStr (Sort.ahead w q) g 0 d := fun d => by
    unfold Sort.grow
    rw [Array.append_empty]
  have hg := grownBy_sorted (w := w) (g := g) (n := q) (os := #[]) (Lib.compact l ++ List.replicate (l.length - (Lib.compact l).length) []).toArray
  have hh := heap_sorted (n := q) (os := #[]) (Lib.compact l ++ List.replicate (l.length - (Lib.compact l).length) []).toArray hb
  rw [h0] at hg hh
  refine ⟨rfl, (Mod.grown hg).weaken (by simp), _, hh, by simp [Sort.putCells, hc], ?_⟩
  have := take_putCells cur (Lib.compact l ++ List.replicate (l.length - (Lib.compact l).length) []) (by simp; omega)
  have h3 := congrArg (List.take (Lib.compact l).length) this
  rw [List.take_take, Nat.min_eq_left (by simp), List.map_append, List.take_left' (by simp)] at h3
  exact h3
/-- A row that a slice owns, in this seat's words. -/
theorem own_of_owns {w : World} {base n : Nat} {v : Value} {xs : List Value} (h : w.ownsRow base 9 1 v n xs) (hne : v ≠ .slice none 0 0) :
    ∃ g cap cur, v = .slice (some ⟨g, 0, none⟩) n cap ∧ base ≤ g ∧ w.heap[g]? = some (.cells cur 9 (0, 0)) ∧ n ≤ cap ∧ cap ≤ maxLen ∧ cur.size = cap ∧ cur.toList.take n = xs := by
  rcases h.2 with ⟨h1, _⟩ | ⟨g, cap, cur, h1, h2, h3, h4, h5, h6, h7⟩
  · exact absurd h1 hne
  · exact ⟨g, cap, cur, h1, h2, h3, h4, h5, by simpa using h6, by simpa using h7⟩
/-- What Touches tells. -/
def TouchR (w : World) (l : List ByteArray) (e : Ending) (w' : World) : Prop := ∃ ao n cap, e = .returned (.slice ao n cap) ∧ (tk l).length = n ∧ OwnS w' ao cap (tk l) ∧ (∀ k, k ∈ blk ao → w.heap.size ≤ k) ∧ Mod [] w w'

set_option maxRecDepth 100000 in
set_option maxHeartbeats 4000000 in
theorem touch_any (c : Cm) (w : World) (hk : SeesT w c.2.1 c.1.keys) (h1 : c.1.keys.length ≤ 100000) : Calls Try.prog 16 #[cmdV c] w (TouchR w c.1.keys) := by
  obtain ⟨w1, hw1', M1, z1, q0, q1, q2, q3, q4, q5, q6⟩ := box_facts c w
  have HK := Lib.hid (hk.mod0 M1)
  have HM1 := Lib.hid M1
  obtain ⟨⟨client, seq, kind, keys, old, fresh, n⟩, kao, kcap⟩ := c
  dsimp only at hw1' q0 q1 q2 q3 q4 q5 q6 h1 HK ⊢
  have HP : Hid (cmdV (⟨client, seq, kind, keys, old, fresh, n⟩, kao, kcap) = .agg #[.int .u32 (client : Int), .int .u32 (seq : Int), .int .u8 (kind : Int), .slice kao keys.length kcap, .string old, .string fresh, .int .i64 n]) := Lib.hid rfl
  rw [HP.out]
  obtain ⟨kl, hkl⟩ : ∃ x, keys.length = x := ⟨_, rfl⟩
  rw [hkl] at hw1' q3 h1 ⊢
  have HKL := Lib.hid hkl
  clear hk M1 hkl HP
  go_enter Try.func16, Try.ntmps16
  cases kao with
  | none =>
    have hk0 : keys = [] := by
      cases keys with
      | nil => rfl
      | cons x r =>
        obtain ⟨b, off, h, _⟩ := HK.out 0 (by simp)
        cases h
    subst hk0
    obtain rfl : kl = 0 := by rw [← HKL.out]; rfl
    have HC := Lib.hid (Try.slices_Clone_string_nil 0 kcap w1)
    have HS := Lib.hid (Try.slices_Sort_string_none none 0 w1)
    have HP := Lib.hid (Try.slices_Compact_string_empty none 0 w1)
    go_wp2_with fail
    refine HC.out.mono ?_
    rintro e w2 ⟨rfl, rfl⟩
    go_wp2_with fail
    refine HS.out.mono ?_
    rintro e w2 ⟨rfl, rfl⟩
    go_wp2_with fail
    refine HP.out.mono ?_
    rintro e w2 ⟨rfl, rfl⟩
    go_wp2_with fail
    go_ret
    exact ⟨none, 0, 0, rfl, by rw [tk_nil]; rfl, by rw [tk_nil]; exact OwnM.nil _ _ _, by simp [blk], HM1.out⟩
  | some a =>
  by_cases h0 : kl = 0
  · subst h0
    have hk0 : keys = [] := List.eq_nil_of_length_eq_zero HKL.out
    subst hk0
    have HC := Lib.hid (Try.slices_Clone_string_zero a kcap w1)
    clear HK h1 q0 q1 q2 q4 q5 q6
    go_wp2_with fail
    refine HC.out.mono ?_
    rintro e w2 ⟨v, rfl, hrow, hne, hbel⟩
    obtain ⟨g, cap, cur, rfl, hg, hb, h4, h5, h6, h7⟩ := own_of_owns hrow hne
    have HS := Lib.hid (Try.slices_Sort_string_none (some ⟨g, 0, none⟩) cap w2)
    have HP := Lib.hid (Try.slices_Compact_string_empty (some ⟨g, 0, none⟩) cap w2)
    have M2 := Lib.hid (HM1.out.trans' (Mod.ofBelow hbel))
    have HO : Hid (OwnS w2 (some ⟨g, 0, none⟩) cap []) := Lib.hid ⟨rfl, .inr ⟨g, cur, (0, 0), rfl, hb, .inl rfl, Nat.zero_le _, h5, by omega, by simp⟩⟩
    have HG : Hid (w.heap.size ≤ g) := Lib.hid (by have := HM1.out.size; omega)
    clear hrow hne hbel hb hg h6 h7 HC
    go_wp2_with fail
    refine HS.out.mono ?_
    rintro e w3 ⟨rfl, rfl⟩
    go_wp2_with fail
    refine HP.out.mono ?_
    rintro e w3 ⟨rfl, rfl⟩
    go_wp2_with fail
    go_ret
    exact ⟨some ⟨g, 0, none⟩, 0, cap, rfl, by rw [tk_nil]; rfl, by rw [tk_nil]; exact HO.out, fun k hk => by simp [blk] at hk; subst hk; exact HG.out, M2.out⟩
  · obtain ⟨b, off, ha, -⟩ := HK.out 0 (by rw [HKL.out]; omega)
    cases ha
    have hlen : (keys.map bs8).length = kl := by rw [List.length_map]; exact HKL.out
    have HC := Lib.hid (Try.slices_Clone_string b off kl kcap keys w1 (by rw [HKL.out]; exact Nat.le_refl _) (by omega) (fun j hj => by
      obtain ⟨b', off', h, h2⟩ := HK.out j hj
      cases h
      rw [h2]
      congr 2
      rw [List.getD_eq_getElem?_getD, List.getElem?_eq_getElem hj]
      rfl))
    clear q0 q1 q2 q4 q5 q6 h0
    go_wp2_with fail
    refine HC.out.mono ?_
    rintro e w2 ⟨v, rfl, hrow, hne, hbel⟩
    obtain ⟨g, cap, cur, rfl, hg, hb, h4, h5, h6, h7⟩ := own_of_owns hrow hne
    have e7 : (keys.take kl).map Value.string = (keys.map bs8).map encStr := by
      rw [List.take_of_length_le (by rw [HKL.out]; exact Nat.le_refl _), List.map_map]
      exact List.map_congr_left (fun x _ => (enc_bs x).symm)
    rw [e7] at h7
    have hS := sort_any g cap (keys.map bs8) cur w2 (by rw [hlen]; omega) hb h6 (by rw [hlen]; exact h4) (by rw [hlen]; exact h7)
    rw [hlen] at hS
    have HS := Lib.hid hS
    have M2 := Lib.hid (HM1.out.trans' (Mod.ofBelow hbel))
    have HG : Hid (w.heap.size ≤ g) := Lib.hid (by have := HM1.out.size; omega)
    clear hrow hne hbel hb hg h6 h7 HC e7 hS
    go_wp2_with fail
    refine HS.out.mono ?_
    rintro e w3 ⟨rfl, m3, cur3, hb3, hc3, ht3⟩
    have hlen3 : ((keys.map bs8).mergeSort fun x y => decide (x ≤ y)).length = kl := by rw [List.length_mergeSort, hlen]
    have hP := compact_any g cap ((keys.map bs8).mergeSort fun x y => decide (x ≤ y)) cur3 w3 (by rw [hlen3]; omega) hb3 hc3 (by rw [hlen3]; exact h4) (by rw [hlen3]; exact ht3)
    rw [hlen3] at hP
    have HP := Lib.hid hP
    have M3 := Lib.hid (M2.out.trans m3 (fun i hi hl => by simp at hi; have := HG.out; omega))
    have HLN := Lib.hid hlen
    clear m3 hb3 hc3 ht3 hP hlen3 hlen HS
    go_wp2_with fail
    refine HP.out.mono ?_
    rintro e w4 ⟨rfl, m4, cur4, hb4, hc4, ht4⟩
    have M4 := Lib.hid (M3.out.trans m4 (fun i hi hl => by simp at hi; have := HG.out; omega))
    have hle : (tk keys).length ≤ cap := by have := tk_le keys; rw [HKL.out] at this; omega
    have htl : (tk keys).length = (tkB (keys.map bs8)).length := by unfold tk; rw [List.length_map]
    have HO : Hid (OwnS w4 (some ⟨g, 0, none⟩) cap (tk keys)) := Lib.hid (by
      refine ⟨by simp, .inr ⟨g, cur4, (0, 0), rfl, hb4, .inl rfl, hle, h5, by omega, ?_⟩⟩
      rw [Nat.mul_one, tk_enc, htl]
      exact ht4)
    have HTL := Lib.hid htl
    clear m4 hb4 hc4 ht4 htl HP
    go_wp2_with fail
    go_ret
    exact ⟨some ⟨g, 0, none⟩, _, cap, rfl, HTL.out, HO.out, fun k hk => by simp [blk] at hk; subst hk; exact HG.out, M4.out⟩
end Go.Proofs.Ytkkjbeakmimmmaa
/- Whether a command has a wave alone, and whether two are in each other's way. -/
namespace Go.Proofs.Ytkkjbeakmimmmaa
open Go Go.RowKit Go.Lib

def lone (c : Cd) : Bool := decide (4 < (tk c.keys).length)
def share (c d : Cd) : Bool := (tk d.keys).any fun k => Lib.containsS (tk c.keys) k
def way (c d : Cd) : Bool := lone c || lone d || c.client == d.client || share c d

set_option maxRecDepth 100000 in
set_option maxHeartbeats 4000000 in
theorem lone_any (c : Cm) (w : World) (hk : SeesT w c.2.1 c.1.keys) (h1 : c.1.keys.length ≤ 100000) : Calls Try.prog 9 #[cmdV c] w fun e w' => e = .returned (.bool (lone c.1)) ∧ Mod [] w w' := by
  obtain ⟨w1, hw1', M1, z1, q0, q1, q2, q3, q4, q5, q6⟩ := box_facts c w
  have HT := Lib.hid (touch_any c w1 (hk.mod0 M1) h1)
  have HM1 := Lib.hid M1
  obtain ⟨bl, hbl⟩ : ∃ b, lone c.1 = b := ⟨_, rfl⟩
  rw [hbl]
  have HL := Lib.hid hbl
  obtain ⟨⟨client, seq, kind, keys, old, fresh, n⟩, kao, kcap⟩ := c
  dsimp only at hw1' q0 q1 q2 q3 q4 q5 q6 h1
  clear hk M1 hbl h1
  show Calls Try.prog 9 #[.agg #[.int .u32 (client : Int), .int .u32 (seq : Int), .int .u8 (kind : Int), .slice kao keys.length kcap, .string old, .string fresh, .int .i64 n]] w fun e w' => e = .returned (.bool bl) ∧ Mod [] w w'
  go_enter Try.func9, Try.ntmps9
  go_wp2_with fail
  refine HT.out.mono ?_
  rintro e w2 ⟨ao, nn, cap, rfl, hn, ho, hb, m⟩
  have HM := Lib.hid (HM1.out.trans' m)
  have HN := Lib.hid hn
  clear hn ho hb m
  go_wp2
  go_ret
  refine ⟨?_, HM.out⟩
  have e : bl = decide (4 < nn) := by rw [← HL.out, ← HN.out]; rfl
  rw [e, show decide (4 < nn) = decide ((4 : Int) < (nn : Int)) from decide_eq_decide.2 (by omega)]
  rfl

set_option maxRecDepth 100000 in
set_option maxHeartbeats 4000000 in
theorem indexf_any (p : ByteArray → Bool) (lb : Array Value) (b off n c : Nat) (zs : List ByteArray) (w : World) (hn : zs.length = n) (hbig : n ≤ 9223372036854775807)
    (hp : ∀ x, Calls Try.prog 17 (#[.string x] ++ lb) w fun e w' => e = .returned (.bool (p x)) ∧ w' = w)
    (hc : ∀ j (h : j < zs.length), w.cell? ⟨b, off + j, none⟩ = some (.string zs[j])) :
    Calls Try.prog 26 #[.slice (some ⟨b, off, none⟩) n c, .func (.func 17) #[] lb] w fun e w' => (∃ r : Int, e = .returned (.int .i64 r) ∧ (0 ≤ r ↔ zs.any p = true)) ∧ w' = w := by
  have eg : ∀ args w, (callFunc 17 args).run Try.prog w = .ok (.enter 17 args) w := enters_of Try.func17 (by kernel_rfl) rfl
  have HP := Lib.hid hp
  have HC := Lib.hid hc
  have HN := Lib.hid hn
  clear hp hc hn
  go_enter Try.func26, Try.ntmps26
  go_wp2
  go_loopg [5, 8] n (fun gg _ s8 wr => ∃ kk : Nat, kk ≤ n ∧ n - kk ≤ gg ∧ s8 = .int .i64 kk ∧ wr = w ∧ Aside (∀ j (h : j < zs.length), j < kk → p zs[j] = false))
  case atStart => exact ⟨0, Nat.zero_le _, by omega, rfl, rfl, fun j _ hj => absurd hj (Nat.not_lt_zero _)⟩
  case round =>
    obtain ⟨kk, hkk, hg, rfl, rfl, A⟩ := hrel
    by_cases hlt : kk < n
    · have hltz : (kk : Int) < (n : Int) := by omega
      have hcell := HC.out kk (by rw [HN.out]; exact hlt)
      obtain ⟨y, hy⟩ : ∃ y, zs[kk]'(by rw [HN.out]; exact hlt) = y := ⟨_, rfl⟩
      rw [hy] at hcell
      have B := Lib.hid hy
      clear hy
      have hcall := HP.out y
      cases hq : p y with
      | true =>
        rw [hq] at hcall
        go_wp2_with (go_at_fn 17; refine hcall.mono ?_; rintro e w' ⟨rfl, rfl⟩)
        go_ret
        refine ⟨⟨_, rfl, ?_⟩, rfl⟩
        refine ⟨fun _ => List.any_eq_true.2 ⟨y, ?_, hq⟩, fun _ => by omega⟩
        rw [← B.out]
        exact List.getElem_mem _
      | false =>
        rw [hq] at hcall
        go_wp2_with (go_at_fn 17; refine hcall.mono ?_; rintro e w' ⟨rfl, rfl⟩)
        go_roundg (n - (kk + 1))
        case measure => omega
        case rel =>
          refine ⟨kk + 1, by omega, by omega, by go_num, rfl, (show Aside _ from fun j hjl hj => ?_)⟩
          by_cases e : j = kk
          · subst e
            rw [B.out]; exact hq
          · exact A.out j hjl (by omega)
    · have hltz : ¬ (kk : Int) < (n : Int) := by omega
      have : kk = n := by omega
      subst this
      go_wp2
      go_ret
      refine ⟨⟨_, rfl, ?_⟩, rfl⟩
      refine ⟨fun h => absurd h (by decide), fun h => ?_⟩
      obtain ⟨x, hx, hx2⟩ := h
      obtain ⟨j, hj, rfl⟩ := List.getElem_of_mem hx
      rw [A.out j hj (by rw [← HN.out]; exact hj)] at hx2
      cases hx2
set_option maxRecDepth 100000 in
set_option maxHeartbeats 4000000 in
theorem indexf_empty (a : Option Addr) (c : Nat) (fv : Value) (w : World) :
    Calls Try.prog 26 #[.slice a 0 c, fv] w fun e w' => e = .returned (.int .i64 (-1)) ∧ w' = w := by
  go_enter Try.func26, Try.ntmps26
  go_wp2
  go_loopg [5, 8] 0 (fun _ _ s8 wr => s8 = .int .i64 0 ∧ wr = w)
  case atStart => exact ⟨rfl, rfl⟩
  case round =>
    obtain ⟨rfl, rfl⟩ := hrel
    go_wp2
    go_ret
    exact ⟨rfl, rfl⟩
set_option maxRecDepth 100000 in
set_option maxHeartbeats 4000000 in
theorem containsf_any (p : ByteArray → Bool) (lb : Array Value) (ao : Option Addr) (n c : Nat) (zs : List ByteArray) (w : World) (hn : zs.length = n) (hbig : n ≤ 9223372036854775807)
    (hp : ∀ x, Calls Try.prog 17 (#[.string x] ++ lb) w fun e w' => e = .returned (.bool (p x)) ∧ w' = w)
    (hc : SeesT w ao zs) :
    Calls Try.prog 19 #[.slice ao n c, .func (.func 17) #[] lb] w fun e w' => e = .returned (.bool (zs.any p)) ∧ w' = w := by
  have HI : Hid (Calls Try.prog 26 #[.slice ao n c, .func (.func 17) #[] lb] w fun e w' => (∃ r : Int, e = .returned (.int .i64 r) ∧ (0 ≤ r ↔ zs.any p = true)) ∧ w' = w) := Lib.hid (by
    by_cases h0 : n = 0
    · subst h0
      have : zs = [] := List.eq_nil_of_length_eq_zero hn
      subst this
      exact (indexf_empty ao c _ w).mono fun e w' h => ⟨⟨-1, h.1, by simp⟩, h.2⟩
    · obtain ⟨b, off, rfl, _⟩ := hc 0 (by omega)
      exact indexf_any p lb b off n c zs w hn hbig hp (fun j hj => by
        obtain ⟨b', off', e, h⟩ := hc j hj
        cases e
        exact h))
  obtain ⟨bl, hbl⟩ : ∃ b, zs.any p = b := ⟨_, rfl⟩
  rw [hbl] at HI ⊢
  clear hp hc hbl
  go_enter Try.func19, Try.ntmps19
  go_wp2_with fail
  refine HI.out.mono ?_
  rintro e w2 ⟨⟨r, rfl, hr⟩, rfl⟩
  go_wp2
  go_ret
  refine ⟨?_, rfl⟩
  congr 2
set_option maxRecDepth 100000 in
set_option maxHeartbeats 4000000 in
/-- What the closure tells. -/
theorem way1_any (g : Nat) (ao : Option Addr) (n cap : Nat) (l : List ByteArray) (x : ByteArray) (w : World) (hb : n ≤ 9223372036854775807) (hn : l.length = n) (hg : w.cell? ⟨g, 0, none⟩ = some (.slice ao n cap)) (hl : SeesT w ao l) :
    Calls Try.prog 17 #[.string x, .pointer (some ⟨g, 0, none⟩)] w fun e w' => e = .returned (.bool (Lib.containsS l x)) ∧ w' = w := by
  have HI : Hid (Calls Try.prog 18 #[.slice ao n cap, .string x] w fun e w' => e = .returned (.bool (Lib.containsS l x)) ∧ w' = w) := Lib.hid (by
    by_cases h0 : n = 0
    · subst h0
      have : l = [] := List.eq_nil_of_length_eq_zero hn
      subst this
      exact Try.slices_Contains_string_empty ao cap x w
    · obtain ⟨b, off, rfl, _⟩ := hl 0 (by omega)
      have := Try.slices_Contains_string b off n cap l x w (by omega) hb (fun j hj => by
        obtain ⟨b', off', h, h2⟩ := hl j hj
        cases h
        rw [h2]
        congr 2
        rw [List.getD_eq_getElem?_getD, List.getElem?_eq_getElem hj]
        rfl)
      rwa [List.take_of_length_le (by omega)] at this)
  clear hl hn
  go_enter Try.func17, Try.ntmps17
  go_wp2_with fail
  refine HI.out.mono ?_
  rintro e w2 ⟨rfl, rfl⟩
  go_wp2
  go_ret
  exact ⟨rfl, rfl⟩
end Go.Proofs.Ytkkjbeakmimmmaa
/- Whether two commands are in each other's way: the walk. -/
namespace Go.Proofs.Ytkkjbeakmimmmaa
open Go Go.RowKit Go.Lib

theorem sees_own {w : World} {ao : Option Addr} {cap : Nat} {l : List ByteArray} (h : OwnS w ao cap l) : SeesT w ao l := by
  intro j hj
  obtain ⟨g, rfl, h1, _⟩ := OwnM.at' h hj
  exact ⟨g, 0, rfl, by rw [Nat.zero_add]; exact h1⟩
set_option maxRecDepth 100000 in
set_option maxHeartbeats 4000000 in
theorem way_any (c d : Cm) (w : World) (hk : SeesT w c.2.1 c.1.keys) (h1 : c.1.keys.length ≤ 100000) (hk' : SeesT w d.2.1 d.1.keys) (h1' : d.1.keys.length ≤ 100000) :
    Calls Try.prog 8 #[cmdV c, cmdV d] w fun e w' => e = .returned (.bool (way c.1 d.1)) ∧ Mod [] w w' := by
  obtain ⟨w1, hw1', M1, z1, q0, q1, q2, q3, q4, q5, q6⟩ := box_facts c w
  obtain ⟨w2, hw2', M2, z2, r0, r1, r2, r3, r4, r5, r6⟩ := box_facts d w1
  rw [z1] at r0 r1 r2 r3 r4 r5 r6
  have HLc : Hid (∀ w', Mod [] w w' → Calls Try.prog 9 #[cmdV c] w' fun e w2 => e = .returned (.bool (lone c.1)) ∧ Mod [] w' w2) := Lib.hid fun w' m => lone_any c w' (hk.mod0 m) h1
  have HLd : Hid (∀ w', Mod [] w w' → Calls Try.prog 9 #[cmdV d] w' fun e w2 => e = .returned (.bool (lone d.1)) ∧ Mod [] w' w2) := Lib.hid fun w' m => lone_any d w' (hk'.mod0 m) h1'
  have HTc : Hid (∀ w', Mod [] w w' → Calls Try.prog 16 #[cmdV c] w' (TouchR w' c.1.keys)) := Lib.hid fun w' m => touch_any c w' (hk.mod0 m) h1
  have HTd : Hid (∀ w', Mod [] w w' → Calls Try.prog 16 #[cmdV d] w' (TouchR w' d.1.keys)) := Lib.hid fun w' m => touch_any d w' (hk'.mod0 m) h1'
  have HM2 := Lib.hid (M1.trans' M2)
  replace q0 := M2.cell q0 List.not_mem_nil
  replace q1 := M2.cell q1 List.not_mem_nil
  replace q2 := M2.cell q2 List.not_mem_nil
  replace q3 := M2.cell q3 List.not_mem_nil
  replace q4 := M2.cell q4 List.not_mem_nil
  replace q5 := M2.cell q5 List.not_mem_nil
  replace q6 := M2.cell q6 List.not_mem_nil
  obtain ⟨bc, hbc⟩ : ∃ b, lone c.1 = b := ⟨_, rfl⟩
  obtain ⟨bd, hbd⟩ : ∃ b, lone d.1 = b := ⟨_, rfl⟩
  obtain ⟨bs, hbs⟩ : ∃ b, share c.1 d.1 = b := ⟨_, rfl⟩
  obtain ⟨lc, hlc⟩ : ∃ l, tk c.1.keys = l := ⟨_, rfl⟩
  obtain ⟨ld, hld⟩ : ∃ l, tk d.1.keys = l := ⟨_, rfl⟩
  have HS : Hid ((ld.any fun k => Lib.containsS lc k) = bs) := Lib.hid (by rw [← hbs, ← hlc, ← hld]; rfl)
  unfold way
  unfold TouchR at HTc HTd
  rw [hbc] at HLc ⊢
  rw [hbd] at HLd ⊢
  rw [hbs]
  rw [hlc] at HTc
  rw [hld] at HTd
  have L1 : lc.length ≤ 100000 := by rw [← hlc]; exact Nat.le_trans (tk_le _) h1
  have L2 : ld.length ≤ 100000 := by rw [← hld]; exact Nat.le_trans (tk_le _) h1'
  clear hk hk' M1 M2 hbc hbd hbs hlc hld h1 h1'
  obtain ⟨⟨client, seq, kind, keys, old, fresh, n⟩, kao, kcap⟩ := c
  obtain ⟨⟨client', seq', kind', keys', old', fresh', n'⟩, kao', kcap'⟩ := d
  dsimp only at hw1' hw2' q0 q1 q2 q3 q4 q5 q6 r0 r1 r2 r3 r4 r5 r6 ⊢
  obtain ⟨x0, E0⟩ : ∃ b, ((client : Int) == (client' : Int)) = b := ⟨_, rfl⟩
  have E0' : (client == client') = x0 := by
    rw [← E0]
    by_cases h : client = client'
    · subst h; simp
    · rw [beq_eq_false_iff_ne.2 h, beq_eq_false_iff_ne.2 (by omega)]
  rw [E0']
  clear E0'
  show Calls Try.prog 8 #[.agg #[.int .u32 (client : Int), .int .u32 (seq : Int), .int .u8 (kind : Int), .slice kao keys.length kcap, .string old, .string fresh, .int .i64 n], .agg #[.int .u32 (client' : Int), .int .u32 (seq' : Int), .int .u8 (kind' : Int), .slice kao' keys'.length kcap', .string old', .string fresh', .int .i64 n']] w fun e w' => e = .returned (.bool (bc || bd || x0 || bs)) ∧ Mod [] w w'
  go_enter Try.func8, Try.ntmps8
  go_wp2_with fail
  refine (HTc.out _ HM2.out).mono ?_
  rintro e w3 ⟨ao, nn, cap, rfl, hn, ho, hb, m⟩
  have HM3 := Lib.hid (HM2.out.trans' m)
  replace q0 := m.cell q0 List.not_mem_nil
  replace q1 := m.cell q1 List.not_mem_nil
  replace q2 := m.cell q2 List.not_mem_nil
  replace q3 := m.cell q3 List.not_mem_nil
  replace q4 := m.cell q4 List.not_mem_nil
  replace q5 := m.cell q5 List.not_mem_nil
  replace q6 := m.cell q6 List.not_mem_nil
  replace r0 := m.cell r0 List.not_mem_nil
  replace r1 := m.cell r1 List.not_mem_nil
  replace r2 := m.cell r2 List.not_mem_nil
  replace r3 := m.cell r3 List.not_mem_nil
  replace r4 := m.cell r4 List.not_mem_nil
  replace r5 := m.cell r5 List.not_mem_nil
  replace r6 := m.cell r6 List.not_mem_nil
  obtain ⟨w4, hw4, hb4⟩ : ∃ w4, w3.alloc (.cells #[.slice ao nn cap] 30) = w4 ∧ w4.heap[w3.heap.size]? = some (.cells #[.slice ao nn cap] 30 (0, 0)) := ⟨_, rfl, heap_alloc_new _ _⟩
  have m4 : Mod [] w3 w4 := hw4 ▸ Mod.alloc _ _ _
  have HM4 := Lib.hid (HM3.out.trans' m4)
  have HC4 : Hid (w4.cell? ⟨w3.heap.size, 0, none⟩ = some (.slice ao nn cap)) := Lib.hid (cell_of_block hb4)
  have HO := Lib.hid (ho.mod0 m4)
  have HN := Lib.hid hn
  replace q0 := m4.cell q0 List.not_mem_nil
  replace r0 := m4.cell r0 List.not_mem_nil
  replace q1 := m4.cell q1 List.not_mem_nil
  replace r1 := m4.cell r1 List.not_mem_nil
  replace q2 := m4.cell q2 List.not_mem_nil
  replace r2 := m4.cell r2 List.not_mem_nil
  replace q3 := m4.cell q3 List.not_mem_nil
  replace r3 := m4.cell r3 List.not_mem_nil
  replace q4 := m4.cell q4 List.not_mem_nil
  replace r4 := m4.cell r4 List.not_mem_nil
  replace q5 := m4.cell q5 List.not_mem_nil
  replace r5 := m4.cell r5 List.not_mem_nil
  replace q6 := m4.cell q6 List.not_mem_nil
  replace r6 := m4.cell r6 List.not_mem_nil
  clear ho hn hb m m4 hb4
  go_wp2_with fail
  refine (HLc.out _ HM4.out).mono ?_
  rintro e w5 ⟨rfl, m5⟩
  have HM5 := Lib.hid (HM4.out.trans' m5)
  replace q0 := m5.cell q0 List.not_mem_nil
  replace r0 := m5.cell r0 List.not_mem_nil
  replace q1 := m5.cell q1 List.not_mem_nil
  replace r1 := m5.cell r1 List.not_mem_nil
  replace q2 := m5.cell q2 List.not_mem_nil
  replace r2 := m5.cell r2 List.not_mem_nil
  replace q3 := m5.cell q3 List.not_mem_nil
  replace r3 := m5.cell r3 List.not_mem_nil
  replace q4 := m5.cell q4 List.not_mem_nil
  replace r4 := m5.cell r4 List.not_mem_nil
  replace q5 := m5.cell q5 List.not_mem_nil
  replace r5 := m5.cell r5 List.not_mem_nil
  replace q6 := m5.cell q6 List.not_mem_nil
  replace r6 := m5.cell r6 List.not_mem_nil
  have HC5 := Lib.hid (m5.cell HC4.out List.not_mem_nil)
  have HO5 := Lib.hid (HO.out.mod0 m5)
  clear m5 HO HC4 HLc HTc
  cases bc with
  | true =>
    go_wp2
    go_ret
    exact ⟨rfl, HM5.out⟩
  | false =>
  go_wp2_with fail
  refine (HLd.out _ HM5.out).mono ?_
  rintro e w6 ⟨rfl, m6⟩
  have HM6 := Lib.hid (HM5.out.trans' m6)
  replace q0 := m6.cell q0 List.not_mem_nil
  replace r0 := m6.cell r0 List.not_mem_nil
  replace q1 := m6.cell q1 List.not_mem_nil
  replace r1 := m6.cell r1 List.not_mem_nil
  replace q2 := m6.cell q2 List.not_mem_nil
  replace r2 := m6.cell r2 List.not_mem_nil
  replace q3 := m6.cell q3 List.not_mem_nil
  replace r3 := m6.cell r3 List.not_mem_nil
  replace q4 := m6.cell q4 List.not_mem_nil
  replace r4 := m6.cell r4 List.not_mem_nil
  replace q5 := m6.cell q5 List.not_mem_nil
  replace r5 := m6.cell r5 List.not_mem_nil
  replace q6 := m6.cell q6 List.not_mem_nil
  replace r6 := m6.cell r6 List.not_mem_nil
  have HC6 := Lib.hid (m6.cell HC5.out List.not_mem_nil)
  have HO6 := Lib.hid (HO5.out.mod0 m6)
  clear m6 HO5 HC5 HLd
  cases bd with
  | true =>
    go_wp2
    go_ret
    exact ⟨rfl, HM6.out⟩
  | false =>
  cases x0 with
  | true =>
    go_wp2
    go_ret
    exact ⟨rfl, HM6.out⟩
  | false =>
  go_wp2_with fail
  refine (HTd.out _ HM6.out).mono ?_
  rintro e w7 ⟨ao2, nn2, cap2, rfl, hn2, ho2, hb2, m7⟩
  have HM7 := Lib.hid (HM6.out.trans' m7)
  have HF := Lib.hid (containsf_any (fun k => Lib.containsS lc k) #[.pointer (some ⟨w3.heap.size, 0, none⟩)] ao2 nn2 cap2 ld w7 hn2 (by omega)
    (fun x => way1_any w3.heap.size ao nn cap lc x w7 (by have := HN.out; omega) HN.out (m7.cell HC6.out List.not_mem_nil) (sees_own (HO6.out.mod0 m7))) (sees_own ho2))
  rw [HS.out] at HF
  clear m7 HO6 HC6 ho2 hn2 hb2 HS
  go_wp2_with fail
  refine HF.out.mono ?_
  rintro e w8 ⟨rfl, rfl⟩
  go_wp2
  go_ret
  exact ⟨rfl, HM7.out⟩
end Go.Proofs.Ytkkjbeakmimmmaa
/- Maps whose keys are plain (integers, strings): what a lookup finds, what a store leaves. Over any program. -/
namespace Go.Proofs.Ytkkjbeakmimmmaa
open Go Go.RowKit Go.MapKept

/-- Block b is a map of n entries; under the key k it holds f k. -/
def MapF (w : World) (b : Nat) (d : TypeDesc) (n : Nat) (f : Value → Option Value) : Prop :=
  ∃ es clock, w.heap[b]? = some (.map es clock) ∧ es.size = n ∧ Stamped es clock ∧ (∀ x ∈ es.toList, IsKey d x.key) ∧
    ∀ k v, f k = some v ↔ ∃ e ∈ es.toList, e.key = k ∧ e.val = v

theorem MapF.mod {S : List Nat} {w w' : World} {b : Nat} {d : TypeDesc} {n : Nat} {f : Value → Option Value} (h : MapF w b d n f) (hm : Mod S w w') (hn : b ∉ S) : MapF w' b d n f := by
  obtain ⟨es, clock, h1, h2⟩ := h
  exact ⟨es, clock, hm.get h1 hn, h2⟩
theorem MapF.mod0 {w w' : World} {b : Nat} {d : TypeDesc} {n : Nat} {f : Value → Option Value} (h : MapF w b d n f) (hm : Mod [] w w') : MapF w' b d n f := h.mod hm (by simp)
theorem MapF.lt {w : World} {b : Nat} {d : TypeDesc} {n : Nat} {f : Value → Option Value} (h : MapF w b d n f) : b < w.heap.size := by
  obtain ⟨es, clock, h1, h2⟩ := h
  exact lt_of_block h1
theorem MapF.made (w : World) (d : TypeDesc) : MapF (w.alloc (.map #[] 0)) w.heap.size d 0 (fun _ => none) :=
  ⟨#[], 0, heap_alloc_new w _, rfl, stamped_empty 0, by simp, by simp⟩
theorem MapF.zero {w : World} {b : Nat} {d : TypeDesc} {f : Value → Option Value} (h : MapF w b d 0 f) (k : Value) : f k = none := by
  obtain ⟨es, clock, h1, h2, _, _, h5⟩ := h
  cases hf : f k with
  | none => rfl
  | some v =>
    obtain ⟨e, he, _⟩ := (h5 k v).1 hf
    have : es = #[] := Array.eq_empty_of_size_eq_zero h2
    subst this
    simp at he
theorem MapF.pos {w : World} {b : Nat} {d : TypeDesc} {n : Nat} {f : Value → Option Value} (h : MapF w b d n f) {k v : Value} (hf : f k = some v) : 0 < n := by
  rcases Nat.eq_zero_or_pos n with h0 | h0
  · subst h0; rw [h.zero k] at hf; cases hf
  · exact h0

section
variable {P : Program}
theorem run_lookup_f {w : World} {b n : Nat} {d : TypeDesc} {f : Value → Option Value} {t kt et : TypeId} {k z : Value} (h : MapF w b d n f) (ht : P.underlying t = some (.map kt et)) (hd : P.underlying kt = some d) (hk : IsKey d k) (hz : (zeroValue et).run P w = .ok z w) :
    (Instr.lookup t (.map (some b)) k true).run P w = .ok (.tuple #[(f k).getD z, .bool (f k).isSome]) w := by
  obtain ⟨es, clock, h1, h2, h3, h4, h5⟩ := h
  rcases findNow_spec hk es.toList 0 h4 with ⟨g1, g2⟩ | ⟨j, e, g1, g2, g3⟩
  · have hf : f k = none := by
      cases hf : f k with
      | none => rfl
      | some v =>
        obtain ⟨e, he, hk2, _⟩ := (h5 k v).1 hf
        exact absurd hk2 (g2 e he)
    simp [Instr.lookup, run_underlying ht, MapKept.run_getObj_map h1, run_checkKey hd hk, run_findKey hd g1, hz, Result.andThen, hf]
  · have hf : f k = some e.val := (h5 k e.val).2 ⟨e, List.mem_of_getElem? g2, g3, rfl⟩
    simp [Instr.lookup, run_underlying ht, MapKept.run_getObj_map h1, run_checkKey hd hk, run_findKey hd g1, Result.andThen, hf]

theorem run_update_f {w : World} {b n : Nat} {d : TypeDesc} {f : Value → Option Value} {t kt et : TypeId} {k v : Value} (h : MapF w b d n f) (ht : P.underlying t = some (.map kt et)) (hd : P.underlying kt = some d) (hk : IsKey d k) (f' : Value → Option Value) (hf1 : f' k = some v) (hf2 : ∀ k', k' ≠ k → f' k' = f k') :
    ∃ w', (Instr.mapUpdate t (.map (some b)) k v).run P w = .ok () w' ∧ Mod [b] w w' ∧ MapF w' b d (if (f k).isSome then n else n + 1) f' := by
  obtain ⟨es, clock, h1, h2, h3, h4, h5⟩ := h
  have hmod : ∀ o : Obj, Mod [b] w { w with heap := w.heap.setIfInBounds b o } := fun o =>
    ⟨rfl, rfl, rfl, by simp, fun i _ hi => (heap_set h1).2 i (fun e => hi (by simp [e]))⟩
  rcases findNow_spec hk es.toList 0 h4 with ⟨g1, g2⟩ | ⟨j, e, g1, g2, g3⟩
  · have hf : f k = none := by
      cases hf : f k with
      | none => rfl
      | some v =>
        obtain ⟨e, he, hk2, _⟩ := (h5 k v).1 hf
        exact absurd hk2 (g2 e he)
    refine ⟨{ w with heap := w.heap.setIfInBounds b (.map (es.push { key := k, val := v, born := clock }) (clock + 1)) }, by simp [Instr.mapUpdate, run_underlying ht, MapKept.run_getObj_map h1, run_checkKey hd hk, run_findKey hd g1, run_setObj_map _ h1, Result.andThen], hmod _, _, _, (heap_set h1).1, ?_, stamped_push h3 g2, ?_, ?_⟩
    · simp [hf, h2]
    · intro x hx
      simp only [Array.toList_push, List.mem_append, List.mem_singleton] at hx
      rcases hx with hx | rfl
      · exact h4 x hx
      · exact hk
    · intro k' v'
      simp only [Array.toList_push, List.mem_append, List.mem_singleton]
      by_cases hkk : k' = k
      · subst hkk
        rw [hf1]
        constructor
        · intro h; cases h; exact ⟨_, .inr rfl, rfl, rfl⟩
        · rintro ⟨x, hx | rfl, hx1, hx2⟩
          · exact absurd hx1 (g2 x hx)
          · rw [← hx2]
      · rw [hf2 _ hkk, h5]
        constructor
        · rintro ⟨x, hx, hx1⟩; exact ⟨x, .inl hx, hx1⟩
        · rintro ⟨x, hx | rfl, hx1, hx2⟩
          · exact ⟨x, hx, hx1, hx2⟩
          · exact absurd hx1.symm hkk
  · have hj : es[j]? = some e := by simpa using g2
    have hf : f k = some e.val := (h5 k e.val).2 ⟨e, List.mem_of_getElem? g2, g3, rfl⟩
    have hkey : ∀ e', es[j]? = some e' → ({ e' with key := k, val := v } : MapEntry).key = e'.key := fun e' he' => by rw [hj] at he'; cases he'; exact g3.symm
    refine ⟨{ w with heap := w.heap.setIfInBounds b (.map (es.modify j fun e => { e with key := k, val := v }) clock) }, by simp [Instr.mapUpdate, run_underlying ht, MapKept.run_getObj_map h1, run_checkKey hd hk, run_findKey hd g1, hj, g3, run_keyThatStays hk, run_setObj_map _ h1, Result.andThen], hmod _, _, _, (heap_set h1).1, ?_, stamped_modify h3 _ _ (fun _ _ => rfl) (fun e' _ he' => hkey e' he'), isKey_modify h4 _ _ hkey, ?_⟩
    · simp [hf, h2]
    · have hnd : (es.toList.map (·.key)).Nodup := h3.2.2
      have hget : ∀ i, (es.modify j fun e => { e with key := k, val := v }).toList[i]? = if i = j then es.toList[i]?.map (fun e => { e with key := k, val := v }) else es.toList[i]? := by
        intro i
        simp only [Array.getElem?_toList]
        rw [Array.getElem?_modify]
        by_cases hij : j = i
        · subst hij; simp
        · rw [if_neg hij, if_neg (Ne.symm hij)]
      have huniq : ∀ i x, es.toList[i]? = some x → x.key = k → i = j := by
        intro i x hi hx
        have e1 : (es.toList.map (·.key))[i]? = some k := by rw [List.getElem?_map, hi]; simp [hx]
        have e2 : (es.toList.map (·.key))[j]? = some k := by rw [List.getElem?_map, g2]; simp [g3]
        obtain ⟨l1, l2⟩ := List.getElem?_eq_some_iff.1 e1
        obtain ⟨l3, l4⟩ := List.getElem?_eq_some_iff.1 e2
        rcases Nat.lt_trichotomy i j with hlt | he | hlt
        · exact absurd (l2.trans l4.symm) (List.pairwise_iff_getElem.1 hnd i j l1 l3 hlt)
        · exact he
        · exact absurd (l4.trans l2.symm) (List.pairwise_iff_getElem.1 hnd j i l3 l1 hlt)
      intro k' v'
      by_cases hkk : k' = k
      · subst hkk
        rw [hf1]
        constructor
        · intro h; cases h
          refine ⟨{ e with key := k', val := v }, List.mem_of_getElem? (i := j) ?_, rfl, rfl⟩
          rw [hget, if_pos rfl, g2]; rfl
        · rintro ⟨x, hx, hx1, hx2⟩
          obtain ⟨i, hi⟩ := List.getElem?_of_mem hx
          rw [hget] at hi
          by_cases hij : i = j
          · rw [if_pos hij, hij, g2] at hi
            cases hi
            rw [← hx2]
          · rw [if_neg hij] at hi
            exact absurd (huniq i x hi hx1) hij
      · rw [hf2 _ hkk, h5]
        constructor
        · rintro ⟨x, hx, hx1, hx2⟩
          obtain ⟨i, hi⟩ := List.getElem?_of_mem hx
          have hij : i ≠ j := by rintro rfl; rw [g2] at hi; cases hi; exact hkk (hx1.symm.trans g3)
          exact ⟨x, List.mem_of_getElem? (i := i) (by rw [hget, if_neg hij]; exact hi), hx1, hx2⟩
        · rintro ⟨x, hx, hx1, hx2⟩
          obtain ⟨i, hi⟩ := List.getElem?_of_mem hx
          rw [hget] at hi
          by_cases hij : i = j
          · rw [if_pos hij, hij, g2] at hi
            cases hi
            exact absurd hx1.symm hkk
          · rw [if_neg hij] at hi
            exact ⟨x, List.mem_of_getElem? hi, hx1, hx2⟩

/-- m[k], with 'ok', one operation of a list of operations. -/
theorem wpl_lookup {w : World} {ops : Array Oper} {rest : List Oper} {a : Act} {Q : Exit → Act → World → Prop} {dst : Option Tmp} {ty : TypeId} {pos : String} {after : Array Edge} (t : TypeId) (x ix : Operand)
    {b n : Nat} {d : TypeDesc} {f : Value → Option Value} {kt et : TypeId} {k z : Value} (h : MapF w b d n f) (ht : P.underlying t = some (.map kt et)) (hd : P.underlying kt = some d) (hx : a.eval x = .map (some b)) (hi : a.eval ix = k) (hk : IsKey d k) (hz : (zeroValue et).run P w = .ok z w)
    (hr : wpList P ops Q rest (a.put dst (.tuple #[(f k).getD z, .bool (f k).isSome])) w) :
    wpList P ops Q (⟨dst, .lookup t x ix true, ty, pos, after, none⟩ :: rest) a w := by
  refine wpList_plain rfl fun K hK => ?_
  unfold Oper.wp
  simp [execOp, hx, hi, run_lookup_f h ht hd hk hz, Result.andThen]
  exact hK _ _ hr
theorem wpl_lookup_some {w : World} {ops : Array Oper} {rest : List Oper} {a : Act} {Q : Exit → Act → World → Prop} {dst : Option Tmp} {ty : TypeId} {pos : String} {after : Array Edge} (t : TypeId) (x ix : Operand)
    {b n : Nat} {d : TypeDesc} {f : Value → Option Value} {kt et : TypeId} {k z v : Value} (h : MapF w b d n f) (ht : P.underlying t = some (.map kt et)) (hd : P.underlying kt = some d) (hx : a.eval x = .map (some b)) (hi : a.eval ix = k) (hk : IsKey d k) (hz : (zeroValue et).run P w = .ok z w) (hv : f k = some v)
    (hr : wpList P ops Q rest (a.put dst (.tuple #[v, .bool true])) w) :
    wpList P ops Q (⟨dst, .lookup t x ix true, ty, pos, after, none⟩ :: rest) a w :=
  wpl_lookup t x ix h ht hd hx hi hk hz (by rw [hv]; exact hr)
theorem wpl_lookup_none {w : World} {ops : Array Oper} {rest : List Oper} {a : Act} {Q : Exit → Act → World → Prop} {dst : Option Tmp} {ty : TypeId} {pos : String} {after : Array Edge} (t : TypeId) (x ix : Operand)
    {b n : Nat} {d : TypeDesc} {f : Value → Option Value} {kt et : TypeId} {k z : Value} (h : MapF w b d n f) (ht : P.underlying t = some (.map kt et)) (hd : P.underlying kt = some d) (hx : a.eval x = .map (some b)) (hi : a.eval ix = k) (hk : IsKey d k) (hz : (zeroValue et).run P w = .ok z w) (hv : f k = none)
    (hr : wpList P ops Q rest (a.put dst (.tuple #[z, .bool false])) w) :
    wpList P ops Q (⟨dst, .lookup t x ix true, ty, pos, after, none⟩ :: rest) a w :=
  wpl_lookup t x ix h ht hd hx hi hk hz (by rw [hv]; exact hr)
/-- m[k] = v. -/
theorem wpl_update {w : World} {ops : Array Oper} {rest : List Oper} {a : Act} {Q : Exit → Act → World → Prop} {ty : TypeId} {pos : String} {after : Array Edge} (t : TypeId) (x ix vx : Operand)
    {b n : Nat} {d : TypeDesc} {f : Value → Option Value} {kt et : TypeId} {k v : Value} (h : MapF w b d n f) (ht : P.underlying t = some (.map kt et)) (hd : P.underlying kt = some d) (hx : a.eval x = .map (some b)) (hi : a.eval ix = k) (hv : a.eval vx = v) (hk : IsKey d k) (f' : Value → Option Value) (hf1 : f' k = some v) (hf2 : ∀ k', k' ≠ k → f' k' = f k')
    (n' : Nat) (hn' : (if (f k).isSome then n else n + 1) = n')
    (hr : ∀ w', Mod [b] w w' → Hid (MapF w' b d n' f') → wpList P ops Q rest a w') :
    wpList P ops Q (⟨none, .mapUpdate t x ix vx, ty, pos, after, none⟩ :: rest) a w := by
  refine wpList_plain rfl fun K hK => ?_
  obtain ⟨w', h1, h2, h3⟩ := run_update_f (v := v) h ht hd hk f' hf1 hf2
  rw [hn'] at h3
  unfold Oper.wp
  simp [execOp, hx, hi, hv, h1, Result.andThen]
  exact hK _ _ (hr w' h2 (Lib.hid h3))
/-- make of a map. -/
theorem wpl_makemap {w : World} {ops : Array Oper} {rest : List Oper} {a : Act} {Q : Exit → Act → World → Prop} {dst : Option Tmp} {ty : TypeId} {pos : String} {after : Array Edge} (t : TypeId)
    (hr : wpList P ops Q rest (a.put dst (.map (some w.heap.size))) (w.alloc (.map #[] 0))) :
    wpList P ops Q (⟨dst, .makeMap t none, ty, pos, after, none⟩ :: rest) a w := by
  refine wpList_plain rfl fun K hK => ?_
  have h1 : (Instr.makeMap t none).run P w = .ok (.map (some w.heap.size)) (w.alloc (.map #[] 0)) := by simp [Instr.makeMap, Result.andThen]
  unfold Oper.wp
  simp [execOp, h1, Result.andThen]
  exact hK _ _ hr
/-- len of a map. -/
theorem wpl_lenmap {w : World} {ops : Array Oper} {rest : List Oper} {a : Act} {Q : Exit → Act → World → Prop} {dst : Option Tmp} {ty : TypeId} {pos : String} {after : Array Edge} (t : TypeId) (x : Operand)
    {b n : Nat} {d : TypeDesc} {f : Value → Option Value} {kt et : TypeId} (h : MapF w b d n f) (ht : P.underlying t = some (.map kt et)) (hx : a.eval x = .map (some b))
    (hr : wpList P ops Q rest (a.put dst (.int .i64 (n : Int))) w) :
    wpList P ops Q (⟨dst, .call { callee := .builtin .len, args := #[x], argTypes := #[t] }, ty, pos, after, none⟩ :: rest) a w := by
  obtain ⟨es, clock, h1, h2, -⟩ := h
  subst h2
  refine wpList_plain rfl fun K hK => ?_
  have h2 : (Builtin.len_ #[t] ty #[.map (some b)]).run P w = .ok (.int .i64 (es.size : Int)) w := by simp [Builtin.len_, run_underlying ht, MapKept.run_getObj_map h1, Result.andThen, goInt]
  unfold Oper.wp execOp
  simp only [resolve, invoke, builtin, Sem.run_bind, Sem.run_pure, Result.andThen_ok, List.map_toArray, List.map_cons, List.map_nil, hx, h2]
  exact hK _ _ hr
end
end Go.Proofs.Ytkkjbeakmimmmaa
/- The front: what it holds; a command's wave. -/
namespace Go.Proofs.Ytkkjbeakmimmmaa
open Go Go.RowKit Go.Lib Go.MapKept

/-- A map of numbers: what is not there is 0. -/
def MapN {α : Type} (w : World) (b : Nat) (d : TypeDesc) (enc : α → Value) (K : α → Nat) : Prop :=
  ∃ n F, MapF w b d n F ∧ ∀ k, (F (enc k)).getD (.int .i64 0) = .int .i64 (K k : Int)
theorem MapN.mod {α : Type} {S : List Nat} {w w' : World} {b : Nat} {d : TypeDesc} {enc : α → Value} {K : α → Nat} (h : MapN w b d enc K) (hm : Mod S w w') (hn : b ∉ S) : MapN w' b d enc K := by
  obtain ⟨n, F, h1, h2⟩ := h
  exact ⟨n, F, h1.mod hm hn, h2⟩
section
variable {P : Program}
theorem run_lookup1 {α : Type} {w : World} {b : Nat} {d : TypeDesc} {enc : α → Value} {K : α → Nat} {t kt et : TypeId} (k : α) (h : MapN w b d enc K) (ht : P.underlying t = some (.map kt et)) (hd : P.underlying kt = some d) (hk : IsKey d (enc k)) (hz : (zeroValue et).run P w = .ok (.int .i64 0) w) :
    (Instr.lookup t (.map (some b)) (enc k) false).run P w = .ok (.int .i64 (K k : Int)) w := by
  obtain ⟨n, f, ⟨es, clock, h1, h2, h3, h4, h5⟩, hv⟩ := h
  have hv := hv k
  rcases findNow_spec hk es.toList 0 h4 with ⟨g1, g2⟩ | ⟨j, e, g1, g2, g3⟩
  · have hf : f (enc k) = none := by
      cases hf : f (enc k) with
      | none => rfl
      | some v =>
        obtain ⟨e, he, hk2, _⟩ := (h5 (enc k) v).1 hf
        exact absurd hk2 (g2 e he)
    rw [hf] at hv
    simp [Instr.lookup, run_underlying ht, MapKept.run_getObj_map h1, run_checkKey hd hk, run_findKey hd g1, hz, Result.andThen]
    simpa using hv
  · have hf : f (enc k) = some e.val := (h5 (enc k) e.val).2 ⟨e, List.mem_of_getElem? g2, g3, rfl⟩
    rw [hf] at hv
    simp [Instr.lookup, run_underlying ht, MapKept.run_getObj_map h1, run_checkKey hd hk, run_findKey hd g1, Result.andThen]
    simpa using hv
theorem wpl_lookup1 {α : Type} {w : World} {ops : Array Oper} {rest : List Oper} {a : Act} {Q : Exit → Act → World → Prop} {dst : Option Tmp} {ty : TypeId} {pos : String} {after : Array Edge} (t : TypeId) (x ix : Operand)
    {b : Nat} {d : TypeDesc} {enc : α → Value} {K : α → Nat} {kt et : TypeId} (k : α) (m : Nat) (h : MapN w b d enc K) (ht : P.underlying t = some (.map kt et)) (hd : P.underlying kt = some d) (hx : a.eval x = .map (some b)) (hi : a.eval ix = enc k) (hk : IsKey d (enc k)) (hz : (zeroValue et).run P w = .ok (.int .i64 0) w) (hm : K k = m)
    (hr : wpList P ops Q rest (a.put dst (.int .i64 (m : Int))) w) :
    wpList P ops Q (⟨dst, .lookup t x ix false, ty, pos, after, none⟩ :: rest) a w := by
  subst hm
  refine wpList_plain rfl fun K hK => ?_
  unfold Oper.wp
  simp [execOp, hx, hi, run_lookup1 k h ht hd hk hz, Result.andThen]
  exact hK _ _ hr
theorem yields_lookup1 {α : Type} {S : List Nat} {w : World} {dst : Option Tmp} {ty : TypeId} {pos : String} {after : Array Edge} {gd : Option (Nat × Bool)} (ev : Operand → Value) (t : TypeId) (x ix : Operand)
    {b : Nat} {d : TypeDesc} {enc : α → Value} {K : α → Nat} {kt et : TypeId} (k : α) (h : MapN w b d enc K) (hb : b ∉ S) (ht : P.underlying t = some (.map kt et)) (hd : P.underlying kt = some d) (hx : ev x = .map (some b)) (hi : ev ix = enc k) (hk : IsKey d (enc k)) (hz : ∀ w, (zeroValue et).run P w = .ok (.int .i64 0) w)
    (w' : World) (hm : Mod S w w') : (execOp ev ⟨dst, .lookup t x ix false, ty, pos, after, gd⟩).run P w' = .ok (.value (.int .i64 (K k : Int))) w' := by
  simp [execOp, hx, hi, run_lookup1 k (h.mod hm hb) ht hd hk (hz _), Result.andThen]
open Classical in
theorem wpl_update1 {α : Type} {w : World} {ops : Array Oper} {rest : List Oper} {a : Act} {Q : Exit → Act → World → Prop} {ty : TypeId} {pos : String} {after : Array Edge} (t : TypeId) (x ix vx : Operand)
    {b : Nat} {d : TypeDesc} {enc : α → Value} {K : α → Nat} {kt et : TypeId} (k : α) (m : Nat) (h : MapN w b d enc K) (hinj : ∀ x y, enc x = enc y → x = y) (ht : P.underlying t = some (.map kt et)) (hd : P.underlying kt = some d) (hx : a.eval x = .map (some b)) (hi : a.eval ix = enc k) (hv : a.eval vx = .int .i64 (m : Int)) (hk : IsKey d (enc k))
    (K' : α → Nat) (h1 : K' k = m) (h2 : ∀ y, y ≠ k → K' y = K y)
    (hr : ∀ w', Mod [b] w w' → Hid (MapN w' b d enc K') → wpList P ops Q rest a w') :
    wpList P ops Q (⟨none, .mapUpdate t x ix vx, ty, pos, after, none⟩ :: rest) a w := by
  obtain ⟨n, F, hF, hv0⟩ := h
  refine wpl_update t x ix vx hF ht hd hx hi hv hk (fun y => if y = enc k then some (.int .i64 (m : Int)) else F y) (by simp) (fun k' hk' => by simp [hk']) _ rfl fun w' hm hM => hr w' hm (Lib.hid ⟨_, _, hM.out, fun y => ?_⟩)
  by_cases he : y = k
  · subst he; simp [h1]
  · have : enc y ≠ enc k := fun e => he (hinj _ _ e)
    simp only [this, if_false]
    rw [h2 y he]
    exact hv0 y
theorem run_maxN (w : World) (ts : Array TypeId) (ty : TypeId) (m n : Nat) : (Builtin.max_ ts ty #[.int .i64 (m : Int), .int .i64 (n : Int)]).run P w = .ok (.int .i64 ((max m n : Nat) : Int)) w := by
  have e : (if (n : Int) > (m : Int) then (n : Int) else (m : Int)) = ((max m n : Nat) : Int) := by
    by_cases h : m < n
    · rw [if_pos (by omega), Nat.max_eq_right (by omega)]
    · rw [if_neg (by omega), Nat.max_eq_left (by omega)]
  rw [Go.run_max_int2, e]
theorem wpl_max {w : World} {ops : Array Oper} {rest : List Oper} {a : Act} {Q : Exit → Act → World → Prop} {dst : Option Tmp} {ty : TypeId} {pos : String} {after : Array Edge} (ts : Array TypeId) (x y : Operand)
    (m n r : Nat) (hx : a.eval x = .int .i64 (m : Int)) (hy : a.eval y = .int .i64 (n : Int)) (hr : max m n = r)
    (h : wpList P ops Q rest (a.put dst (.int .i64 (r : Int))) w) :
    wpList P ops Q (⟨dst, .call { callee := .builtin .max, args := #[x, y], argTypes := ts }, ty, pos, after, none⟩ :: rest) a w := by
  subst hr
  refine wpList_plain rfl fun K hK => ?_
  unfold Oper.wp execOp
  simp only [resolve, invoke, builtin, Sem.run_bind, Sem.run_pure, Result.andThen_ok, List.map_toArray, List.map_cons, List.map_nil, hx, hy, run_maxN]
  exact hK _ _ h
end
/-- What the front holds. -/
structure Fs where
  keys : ByteArray → Nat
  clients : Nat → Nat
  lone : Nat
  top : Nat
def Front (w : World) (g bk bc : Nat) (s : Fs) : Prop :=
  w.heap[g]? = some (.cells #[.map (some bk), .map (some bc), .int .i64 (s.lone : Int), .int .i64 (s.top : Int)] 41 (0, 0)) ∧
  MapN w bk .string Value.string s.keys ∧ MapN w bc (.int .u32) (fun n : Nat => .int .u32 (n : Int)) s.clients ∧ g ≠ bk ∧ g ≠ bc ∧ bk ≠ bc
def mx (K : ByteArray → Nat) (l : List ByteArray) (a : Nat) : Nat := l.foldl (fun a k => max a (K k)) a
theorem mx_snoc (K : ByteArray → Nat) (l : List ByteArray) (a : Nat) (x : ByteArray) : mx K (l ++ [x]) a = max (mx K l a) (K x) := by
  unfold mx
  rw [List.foldl_append]
  rfl
theorem mx_le (K : ByteArray → Nat) (N : Nat) (h : ∀ k, K k ≤ N) : ∀ (l : List ByteArray) (a : Nat), a ≤ N → mx K l a ≤ N
  | [], _, ha => ha
  | x :: l, a, ha => mx_le K N h l _ (Nat.max_le.2 ⟨ha, h x⟩)
open Classical in
noncomputable def upd {α : Type} (K : α → Nat) (l : List α) (v : Nat) : α → Nat := fun k => if k ∈ l then v else K k
def waveOf (s : Fs) (c : Cd) : Nat := if lone c then s.top else mx s.keys (tk c.keys) (max s.lone (s.clients c.client))
noncomputable def putS (s : Fs) (c : Cd) : Fs :=
  { keys := upd s.keys (tk c.keys) (waveOf s c + 1), clients := upd s.clients [c.client] (waveOf s c + 1), lone := if lone c then waveOf s c + 1 else s.lone, top := max s.top (waveOf s c + 1) }
/-- No number is above N. -/
def Fs.le (s : Fs) (N : Nat) : Prop := (∀ k, s.keys k ≤ N) ∧ (∀ k, s.clients k ≤ N) ∧ s.lone ≤ N ∧ s.top ≤ N
theorem wave_le {s : Fs} {N : Nat} (h : s.le N) (c : Cd) : waveOf s c ≤ N := by
  obtain ⟨h1, h2, h3, h4⟩ := h
  unfold waveOf
  split
  · exact h4
  · exact mx_le _ _ h1 _ _ (Nat.max_le.2 ⟨h3, h2 _⟩)
theorem zeroInt (w : World) : (zeroValue 3).run Try.prog w = .ok (.int .i64 0) w := by
  have h : (Try.prog.info? 3).map (fun i => (i.zero, i.size, i.bytes)) = some (some (.int .i64 0), 1, 8) := by kernel_rfl
  obtain ⟨i0, hi, hz0, hz1, hz2⟩ := info_parts h
  simp [zeroValue, typeInfo, hi, hz0, Result.andThen]
theorem upd_nil {α : Type} (K : α → Nat) (v : Nat) : upd K [] v = K := by
  funext k; simp [upd]
theorem upd_at {α : Type} (K : α → Nat) (l : List α) (x : α) (v : Nat) : upd K (l ++ [x]) v x = v := by simp [upd]
theorem upd_ne {α : Type} (K : α → Nat) (l : List α) (x y : α) (v : Nat) (h : y ≠ x) : upd K (l ++ [x]) v y = upd K l v y := by
  have e : (y ∈ l ++ [x]) ↔ y ∈ l := by
    rw [List.mem_append, List.mem_singleton]
    exact ⟨fun h' => h'.resolve_right h, .inl⟩
  unfold upd
  by_cases hy : y ∈ l
  · rw [if_pos hy, if_pos (e.2 hy)]
  · rw [if_neg hy, if_neg (fun h' => hy (e.1 h'))]
end Go.Proofs.Ytkkjbeakmimmmaa
/- Regions that draw their order, in two phases: till one operation comes up fewer blocks are written than behind it. So a load of a cell that the region itself writes later is taken first. Over any program. -/
namespace Go.Proofs.Ytkkjbeakmimmmaa
open Go Go.RowKit Go.Lib

section
variable {P : Program} {ops : Array Oper} {Q : Exit → Act → World → Prop} {md : Region.Mode}

/-- Whatever order is picked from here on, and S holds, of what has come up and the world, behind each operation. -/
def wpAnyL (P : Program) (md : Region.Mode) (ops : Array Oper) (Q : Exit → Act → World → Prop) (S : Array Bool → World → Prop) : Nat → Array Bool → Act → World → Prop
  | 0, listed, a, w => Region.ready md ops listed = [] ∧ Q .normal a w
  | fuel + 1, listed, a, w =>
    (Region.ready md ops listed = [] → Q .normal a w) ∧
    ∀ i ∈ Region.ready md ops listed, wpOp P ops Q i (fun a' w' => S (listed.setIfInBounds i true) w' ∧ wpAnyL P md ops Q S fuel (listed.setIfInBounds i true) a' w') a w

theorem wpAny_of_L {S : Array Bool → World → Prop} : ∀ (fuel : Nat) (listed : Array Bool) (a : Act) (w : World), wpAnyL P md ops Q S fuel listed a w → wpAny P md ops Q fuel listed a w
  | 0, _, _, _, h => h
  | fuel + 1, _, _, _, h => ⟨h.1, fun i hi => wpOp_mono (fun a' w' h' => wpAny_of_L fuel _ a' w' h'.2) (h.2 i hi)⟩

theorem wpAnyL_weaken {S S' : Array Bool → World → Prop} (hs : ∀ ls w, S' ls w → S ls w) : ∀ (fuel : Nat) (listed : Array Bool) (a : Act) (w : World), wpAnyL P md ops Q S' fuel listed a w → wpAnyL P md ops Q S fuel listed a w
  | 0, _, _, _, h => h
  | fuel + 1, _, _, _, h => ⟨h.1, fun i hi => wpOp_mono (fun a' w' h' => ⟨hs _ _ h'.1, wpAnyL_weaken hs fuel _ a' w' h'.2⟩) (h.2 i hi)⟩

theorem wpAnyL_of_H {m : Nat} {S : Array Bool → World → Prop} {S' : World → Prop} (hs : ∀ ls w, ls.getD m true = true → S' w → S ls w) :
    ∀ (fuel : Nat) (listed : Array Bool) (a : Act) (w : World), listed.getD m true = true → wpAnyH P md ops Q S' fuel listed a w → wpAnyL P md ops Q S fuel listed a w
  | 0, _, _, _, _, h => h
  | fuel + 1, listed, _, _, hl, h => ⟨h.1, fun i hi => wpOp_mono (fun a' w' h' => by
      have hl' : (listed.setIfInBounds i true).getD m true = true := by
        by_cases hij : i = m
        · subst hij
          rcases Nat.lt_or_ge i listed.size with h | h
          · simp [h]
          · simp [h]
        · rw [getD_set_ne true hij]; exact hl
      exact ⟨hs _ _ hl' h'.1, wpAnyL_of_H hs fuel _ a' w' hl' h'.2⟩) (h.2 i hi)⟩

theorem wpAnyL_first {S : Array Bool → World → Prop} {T : World → Prop} {inv : Array Bool → Prop} {i : Nat} {oi : Oper} {v : Value} (hi : ops[i]? = some oi) (hsel : ∀ (j : Nat) (o : Oper) cs b, ops[j]? = some o → o.op ≠ .select cs b)
    (hQ : ∀ c a w, Q (.panic c) (a.put oi.dst v) w → Q (.panic c) a w)
    (hinv : ∀ ls j, inv ls → i ∈ Region.ready md ops ls → j ∈ Region.ready md ops ls → j ≠ i → inv (ls.setIfInBounds j true))
    (hSi : ∀ ls w, S (ls.setIfInBounds i true) w → S ls w) (hSo : ∀ ls w, S ls w → S (ls.setIfInBounds i true) w) (hT : ∀ ls w, inv ls → S ls w → T w) :
    ∀ (fuel : Nat) (listed : Array Bool) (a : Act) (w : World),
      (∀ j oj, ops[j]? = some oj → j ≠ i → listed.getD j true = false → (∀ e ∈ oj.after, Region.binds md e = true → e.on ≠ i) → oi.apart ops oj = true) →
      i ∈ Region.ready md ops listed → YieldsIf P ops T oi v a → inv listed → S listed w →
      wpAnyL P md ops Q S fuel (listed.setIfInBounds i true) (a.put oi.dst v) w → wpAnyL P md ops Q S (fuel + 1) listed a w := by
  intro fuel
  induction fuel with
  | zero =>
    intro listed a w _ hr hy hn hS H
    refine ⟨fun h => (by rw [h] at hr; cases hr), fun j hj => ?_⟩
    by_cases hji : j = i
    · subst hji; exact hy.wpOp hi (hT _ _ hn hS) ⟨hSo _ _ hS, H⟩
    · have := ready_mono hj hji
      rw [H.1] at this
      cases this
  | succ fuel ih =>
    intro listed a w hfree hr hy hn hS H
    refine ⟨fun h => (by rw [h] at hr; cases hr), fun j hj => ?_⟩
    by_cases hji : j = i
    · subst hji; exact hy.wpOp hi (hT _ _ hn hS) ⟨hSo _ _ hS, H⟩
    · have h1 := H.2 j (ready_mono hj hji)
      obtain ⟨hjun, oj, hoj, hall⟩ := mem_ready.1 hj
      have hnot : ∀ e ∈ oj.after, Region.binds md e = true → e.on ≠ i := fun e he hb heq => by
        have h1 := hall e he hb
        have h0 := (mem_ready.1 hr).1
        rw [heq] at h1
        rcases Nat.lt_or_ge i listed.size with h' | h'
        · simp [h'] at h0 h1; rw [h0] at h1; cases h1
        · simp [Array.getElem?_eq_none h'] at h1
      have h2 := wpOp_putIf hoj (hfree j oj hoj hji hjun hnot) (fun cs b => hsel i oi cs b hi) (fun cs b => hsel j oj cs b hoj) hQ hy h1
      have hfree' : ∀ k ok, ops[k]? = some ok → k ≠ i → (listed.setIfInBounds j true).getD k true = false →
          (∀ e ∈ ok.after, Region.binds md e = true → e.on ≠ i) → oi.apart ops ok = true := fun k ok hk hki hun hno => by
        refine hfree k ok hk hki ?_ hno
        by_cases hjk : j = k
        · subst hjk; exact hjun
        · rw [getD_set_ne true hjk] at hun; exact hun
      refine wpOp_mono (fun a' w' h3 => ?_) h2
      obtain ⟨h3, h4, h5⟩ := h3
      rw [← Array.setIfInBounds_comm _ _ hji] at h4 h5
      exact ⟨hSi _ _ h4, ih (listed.setIfInBounds j true) a' w' hfree' (ready_mono hr (Ne.symm hji)) h3 (hinv _ _ hn hr hj hji) (hSi _ _ h4) h5⟩

/-- Till number m comes up at most the blocks K are written, behind it at most K2. -/
def Phase (m : Nat) (K K2 : List Nat) (w : World) (ls : Array Bool) (w' : World) : Prop := Mod K2 w w' ∧ (ls.getD m true = false → Mod K w w')
def RestU (P : Program) (md : Region.Mode) (ops : Array Oper) (Q : Exit → Act → World → Prop) (m : Nat) (K K2 : List Nat) (fuel : Nat) (listed : Array Bool) (a : Act) (w : World) : Prop :=
  wpAnyL P md ops Q (Phase m K K2 w) fuel listed a w

theorem restu_start {id : Nat} {a : Act} {w : World} (m : Nat) (K K2 : List Nat) (n : Nat) (L : Array Bool) (hn : ops.size = n) (hL : Array.replicate n false = L) (hm : P.follows .mixedOrders = true)
    (h : ∀ w1, Mod [] w w1 → RestU P .any ops Q m K K2 n L a w1) : (Code.region id ops true).wp P Q a w := by
  subst hn hL
  exact wp_region_any hm (wpAny_of_L _ _ _ _ (h w.drew (Mod.drew _ _)))

theorem phase_set {m i : Nat} {K K2 : List Nat} {w : World} (hne : (i == m) = false) (ls : Array Bool) (w' : World) : Phase m K K2 w (ls.setIfInBounds i true) w' ↔ Phase m K K2 w ls w' := by
  unfold Phase
  rw [getD_set_ne true (by simpa using hne)]

/-- Number m waits for number i. -/
def waits (md : Region.Mode) (ops : Array Oper) (m i : Nat) : Bool := match ops[m]? with
  | some o => o.after.any fun e => Region.binds md e && e.on == i
  | none => false

/-- Each of the numbers D waits for number i, or for another one of D. -/
def chain (md : Region.Mode) (ops : Array Oper) (i : Nat) (D : List Nat) : Bool := D.all fun d => waits md ops d i || D.any fun d' => waits md ops d d'
/-- All that wait for number i, in one step or in more. -/
def descs (md : Region.Mode) (ops : Array Oper) (i : Nat) : List Nat := (List.range ops.size).foldl (fun acc d => if waits md ops d i || acc.any (fun d' => waits md ops d d') then acc ++ [d] else acc) []

theorem waits_not {j d : Nat} {ls : Array Bool} (hw : waits md ops j d = true) (hd : ls.getD d true = false) : j ∉ Region.ready md ops ls := by
  intro hj
  unfold waits at hw
  obtain ⟨_, oj, hoj, hall⟩ := mem_ready.1 hj
  rw [hoj] at hw
  obtain ⟨e, he, hb⟩ := Array.any_eq_true'.1 hw
  simp only [Bool.and_eq_true, beq_iff_eq] at hb
  have h1 := hall e he hb.1
  rw [hb.2] at h1
  rcases Nat.lt_or_ge d ls.size with h' | h'
  · simp [h'] at hd h1; rw [hd] at h1; cases h1
  · simp [Array.getElem?_eq_none h'] at h1

theorem restu_earlytake {m : Nat} {K K2 : List Nat} {i : Nat} (D : List Nat) {oi : Oper} {v : Value} {fuel : Nat} {listed : Array Bool} {a : Act} {w : World} (hi : ops[i]? = some oi)
    (hs : Region.noSelect ops = true) (hf : Region.free md ops listed i = true) (hr : (Region.ready md ops listed).contains i = true) (hne : (i == m) = false) (hD : chain md ops i D = true) (hmD : D.contains m = true) (hun : D.all (fun d => !listed.getD d true) = true)
    (hQ : ∀ c a w, Q (.panic c) (a.put oi.dst v) w → Q (.panic c) a w) (hy : YieldsIf P ops (Mod K w) oi v a)
    (h : RestU P md ops Q m K K2 fuel (listed.setIfInBounds i true) (a.put oi.dst v) w) : RestU P md ops Q m K K2 (fuel + 1) listed a w := by
  refine wpAnyL_first (T := Mod K w) (inv := fun ls => ∀ d ∈ D, ls.getD d true = false) hi (Region.noSelect_spec hs) hQ ?_ (fun ls w' => (phase_set hne ls w').1) (fun ls w' => (phase_set hne ls w').2) (fun ls w' h1 h2 => h2.2 (h1 m (by simpa using hmD)))
    fuel listed a w (Region.free_spec hi hf) (by simpa using hr) hy (by simpa using hun) ⟨Mod.refl _ _, fun _ => Mod.refl _ _⟩ h
  intro ls j hn hir hj hji d hd
  by_cases hjd : j = d
  · subst hjd
    have h1 := List.all_eq_true.1 hD j hd
    rw [Bool.or_eq_true] at h1
    rcases h1 with h1 | h1
    · exact absurd hj (waits_not h1 (mem_ready.1 hir).1)
    · obtain ⟨d', hd', hw⟩ := List.any_eq_true.1 h1
      exact absurd hj (waits_not hw (hn d' hd'))
  · rw [getD_set_ne true hjd]
    exact hn d hd
theorem restu_early {m : Nat} {K K2 : List Nat} {i : Nat} (D : List Nat) {dst : Option Tmp} {op : Op} {ty : TypeId} {pos : String} {after : Array Edge} {gd : Option (Nat × Bool)} {v : Value} {fuel : Nat} {listed : Array Bool} {a : Act} {w : World} (hi : ops[i]? = some ⟨dst, op, ty, pos, after, gd⟩)
    (hs : Region.noSelect ops = true) (hf : Region.free md ops listed i = true) (hr : (Region.ready md ops listed).contains i = true) (hne : (i == m) = false) (hD : chain md ops i D = true) (hmD : D.contains m = true) (hun : D.all (fun d => !listed.getD d true) = true)
    (hQ : ∀ c a w, Q (.panic c) (a.put dst v) w → Q (.panic c) a w) (hw : Region.wanted ⟨dst, op, ty, pos, after, gd⟩ (yielded ops a.tmps) = true)
    (hy : ∀ w', Mod K w w' → (execOp a.eval ⟨dst, op, ty, pos, after, gd⟩).run P w' = .ok (.value v) w')
    (h : RestU P md ops Q m K K2 fuel (listed.setIfInBounds i true) (a.put dst v) w) : RestU P md ops Q m K K2 (fuel + 1) listed a w :=
  restu_earlytake D hi hs hf hr hne hD hmD hun hQ (Or.inl ⟨hw, hy⟩) h
theorem restu_take {m : Nat} {K K2 : List Nat} {i : Nat} {oi : Oper} {v : Value} {fuel : Nat} {listed : Array Bool} {a : Act} {w : World} (hi : ops[i]? = some oi)
    (hs : Region.noSelect ops = true) (hf : Region.free md ops listed i = true) (hr : (Region.ready md ops listed).contains i = true) (hne : (i == m) = false)
    (hQ : ∀ c a w, Q (.panic c) (a.put oi.dst v) w → Q (.panic c) a w) (hy : YieldsIf P ops (Mod K2 w) oi v a)
    (h : RestU P md ops Q m K K2 fuel (listed.setIfInBounds i true) (a.put oi.dst v) w) : RestU P md ops Q m K K2 (fuel + 1) listed a w :=
  wpAnyL_first (T := Mod K2 w) (inv := fun _ => True) hi (Region.noSelect_spec hs) hQ (fun _ _ _ _ _ _ => trivial) (fun ls w' => (phase_set hne ls w').1) (fun ls w' => (phase_set hne ls w').2) (fun ls w' _ h2 => h2.1)
    fuel listed a w (Region.free_spec hi hf) (by simpa using hr) hy trivial ⟨Mod.refl _ _, fun _ => Mod.refl _ _⟩ h
theorem restu_got {m : Nat} {K K2 : List Nat} {i : Nat} {dst : Option Tmp} {op : Op} {ty : TypeId} {pos : String} {after : Array Edge} {gd : Option (Nat × Bool)} {v : Value} {fuel : Nat} {listed : Array Bool} {a : Act} {w : World} (hi : ops[i]? = some ⟨dst, op, ty, pos, after, gd⟩)
    (hs : Region.noSelect ops = true) (hf : Region.free md ops listed i = true) (hr : (Region.ready md ops listed).contains i = true) (hne : (i == m) = false)
    (hQ : ∀ c a w, Q (.panic c) (a.put dst v) w → Q (.panic c) a w) (hw : Region.wanted ⟨dst, op, ty, pos, after, gd⟩ (yielded ops a.tmps) = true)
    (hy : ∀ w', Mod K2 w w' → (execOp a.eval ⟨dst, op, ty, pos, after, gd⟩).run P w' = .ok (.value v) w')
    (h : RestU P md ops Q m K K2 fuel (listed.setIfInBounds i true) (a.put dst v) w) : RestU P md ops Q m K K2 (fuel + 1) listed a w :=
  restu_take hi hs hf hr hne hQ (Or.inl ⟨hw, hy⟩) h
theorem restu_skip {m : Nat} {K K2 : List Nat} {i : Nat} {dst : Option Tmp} {op : Op} {ty : TypeId} {pos : String} {after : Array Edge} {gd : Option (Nat × Bool)} {fuel : Nat} {listed : Array Bool} {a : Act} {w : World} (hi : ops[i]? = some ⟨dst, op, ty, pos, after, gd⟩)
    (hs : Region.noSelect ops = true) (hf : Region.free md ops listed i = true) (hr : (Region.ready md ops listed).contains i = true) (hne : (i == m) = false)
    (hQ : ∀ c a w, Q (.panic c) (a.put dst undef) w → Q (.panic c) a w) (hw : Region.wanted ⟨dst, op, ty, pos, after, gd⟩ (yielded ops a.tmps) = false)
    (h : RestU P md ops Q m K K2 fuel (listed.setIfInBounds i true) (a.put dst undef) w) : RestU P md ops Q m K K2 (fuel + 1) listed a w :=
  restu_take hi hs hf hr hne hQ (Or.inr ⟨hw, rfl⟩) h

/-- The way back into the region behind an operation that is not number m; behind number m. -/
def BackU (P : Program) (md : Region.Mode) (ops : Array Oper) (Q : Exit → Act → World → Prop) (m : Nat) (K K2 : List Nat) (w : World) (fuel : Nat) (listed : Array Bool) : Exit → Act → World → Prop := fun e a1 w1 =>
  match e with
  | .normal => Phase m K K2 w listed w1 ∧ wpAnyL P md ops Q (Phase m K K2 w) fuel listed a1 w1
  | e => Q e a1 w1
theorem backu_to {m : Nat} {K K2 K' K2' : List Nat} {w w1 : World} {a1 : Act} {fuel : Nat} {listed : Array Bool} (hm : Mod K w w1) (hkk : ∀ k, k ∈ K → k ∈ K2) (hk : ∀ k, k ∈ K' → k < w.heap.size → k ∈ K) (hk2 : ∀ k, k ∈ K2' → k < w.heap.size → k ∈ K2)
    (h : RestU P md ops Q m K' K2' fuel listed a1 w1) : BackU P md ops Q m K K2 w fuel listed .normal a1 w1 :=
  ⟨⟨hm.weaken hkk, fun _ => hm⟩, wpAnyL_weaken (fun _ _ hw => ⟨(hm.weaken hkk).trans hw.1 hk2, fun hl => hm.trans (hw.2 hl) hk⟩) _ _ _ _ h⟩
theorem backm_to {m : Nat} {K K2 K1 : List Nat} {w w1 : World} {a1 : Act} {fuel : Nat} {listed : Array Bool} (hl : listed.getD m true = true) (hm : Mod K2 w w1) (hk : ∀ k, k ∈ K1 → k < w.heap.size → k ∈ K2)
    (h : Rest P md ops Q K1 fuel listed a1 w1) : BackU P md ops Q m K K2 w fuel listed .normal a1 w1 :=
  ⟨⟨hm, fun h => by rw [hl] at h; cases h⟩, wpAnyL_of_H (fun ls w' h1 h2 => ⟨hm.trans h2 hk, fun h => by rw [h1] at h; cases h⟩) _ _ _ _ hl h⟩

theorem oneu_op {m : Nat} {K K2 : List Nat} {i : Nat} {dst : Option Tmp} {op : Op} {ty : TypeId} {pos : String} {after : Array Edge} {gd : Option (Nat × Bool)} {fuel : Nat} {listed : Array Bool} {a : Act} {w : World} (ho : ops[i]? = some ⟨dst, op, ty, pos, after, gd⟩)
    (hw : Region.wanted ⟨dst, op, ty, pos, after, gd⟩ (yielded ops a.tmps) = true)
    (h : wpList P ops (BackU P md ops Q m K K2 w fuel (listed.setIfInBounds i true)) [⟨dst, op, ty, pos, after, none⟩] a w) :
    wpOp P ops Q i (fun a' w' => Phase m K K2 w (listed.setIfInBounds i true) w' ∧ wpAnyL P md ops Q (Phase m K K2 w) fuel (listed.setIfInBounds i true) a' w') a w := by
  unfold wpOp
  simp only [ho]
  rw [if_pos hw]
  have hwn : Region.wanted ⟨dst, op, ty, pos, after, none⟩ (yielded ops a.tmps) = true := rfl
  unfold wpList at h
  rw [if_pos hwn] at h
  refine h.imp (fun h => ?_) id
  have h : Oper.upon P ⟨dst, op, ty, pos, after, gd⟩ a (wpList P ops (BackU P md ops Q m K K2 w fuel (listed.setIfInBounds i true)) []) (BackU P md ops Q m K K2 w fuel (listed.setIfInBounds i true)) ((execOp a.eval ⟨dst, op, ty, pos, after, gd⟩).run P w) := h
  unfold Oper.wp
  generalize (execOp a.eval ⟨dst, op, ty, pos, after, gd⟩).run P w = r at *
  cases r with
  | ok n w' =>
    cases n <;> simp only [Oper.upon] at h ⊢ <;>
      first
        | exact Calls.mono h (fun e w'' he => by cases e <;> exact he)
        | exact Rows.mono h (fun _ _ he => he)
        | exact h
  | halt x w' => cases x <;> simp only [Oper.upon] at h ⊢ <;> exact h

theorem restu_one {m : Nat} {K K2 : List Nat} {i : Nat} {dst : Option Tmp} {op : Op} {ty : TypeId} {pos : String} {after : Array Edge} {gd : Option (Nat × Bool)} {fuel : Nat} {listed : Array Bool} {a : Act} {w : World} (hr : Region.ready md ops listed = [i]) (ho : ops[i]? = some ⟨dst, op, ty, pos, after, gd⟩)
    (hw : Region.wanted ⟨dst, op, ty, pos, after, gd⟩ (yielded ops a.tmps) = true)
    (h : wpList P ops (BackU P md ops Q m K K2 w fuel (listed.setIfInBounds i true)) [⟨dst, op, ty, pos, after, none⟩] a w) : RestU P md ops Q m K K2 (fuel + 1) listed a w := by
  refine ⟨fun h0 => (by rw [hr] at h0; cases h0), ?_⟩
  intro j hj
  rw [hr] at hj
  simp only [List.mem_singleton] at hj
  subst hj
  exact oneu_op ho hw h
end
end Go.Proofs.Ytkkjbeakmimmmaa
/- A command's wave: the walk of put. -/
namespace Go.Proofs.Ytkkjbeakmimmmaa
open Go Go.RowKit Go.Lib Go.MapKept

theorem inj_str (x y : ByteArray) (h : Value.string x = Value.string y) : x = y := by cases h; rfl
theorem inj_u32 (x y : Nat) (h : Value.int .u32 (x : Int) = Value.int .u32 (y : Int)) : x = y := by
  have := (Value.int.inj h).2
  omega
set_option maxRecDepth 100000 in
set_option maxHeartbeats 4000000 in
theorem put_any (g bk bc N : Nat) (s : Fs) (c : Cm) (w : World) (hF : Front w g bk bc s) (hk : SeesT w c.2.1 c.1.keys) (h1 : c.1.keys.length ≤ 100000) (hN : s.le N) (hN2 : N ≤ 1000000) :
    Calls Try.prog 15 #[.pointer (some ⟨g, 0, none⟩), cmdV c] w fun e w' => e = .returned (.int .i64 (waveOf s c.1 : Int)) ∧ Front w' g bk bc (putS s c.1) ∧ Mod [g, bk, bc] w w' := by
  obtain ⟨w1, hw1', M1, z1, q0, q1, q2, q3, q4, q5, q6⟩ := box_facts c w
  have HT : Hid (∀ w', Mod [] w w' → Calls Try.prog 16 #[cmdV c] w' (TouchR w' c.1.keys)) := Lib.hid fun w' m => touch_any c w' (hk.mod0 m) h1
  have HL : Hid (∀ w', Mod [] w w' → Calls Try.prog 9 #[cmdV c] w' fun e w2 => e = .returned (.bool (lone c.1)) ∧ Mod [] w' w2) := Lib.hid fun w' m => lone_any c w' (hk.mod0 m) h1
  obtain ⟨f1, f2, f3, d1, d2, d3⟩ := hF
  obtain ⟨n1, n2, n3, n4⟩ := hN
  have L0 := tk_le c.1.keys
  obtain ⟨wv, hwv⟩ : ∃ x, waveOf s c.1 = x := ⟨_, rfl⟩
  have hwle : wv ≤ N := by rw [← hwv]; exact wave_le ⟨n1, n2, n3, n4⟩ c.1
  obtain ⟨s', hs'⟩ : ∃ x, putS s c.1 = x := ⟨_, rfl⟩
  rw [hwv, hs']
  obtain ⟨l, hl⟩ : ∃ l, tk c.1.keys = l := ⟨_, rfl⟩
  have L1 : l.length ≤ 100000 := by rw [← hl]; omega
  obtain ⟨lo, hlo⟩ : ∃ b, lone c.1 = b := ⟨_, rfl⟩
  have HW : Hid (wv = if lo = true then s.top else mx s.keys l (max s.lone (s.clients c.1.client))) := Lib.hid (by rw [← hwv, ← hl, ← hlo]; rfl)
  have HS : Hid (s' = { keys := upd s.keys l (wv + 1), clients := upd s.clients [c.1.client] (wv + 1), lone := if lo = true then wv + 1 else s.lone, top := max s.top (wv + 1) }) := Lib.hid (by
    rw [← hs']
    unfold putS
    rw [hwv, hl, hlo])
  unfold TouchR at HT
  rw [hl] at HT
  rw [hlo] at HL
  clear hk h1 hl hlo L0 hwv hs'
  obtain ⟨⟨client, seq, kind, keys, old, fresh, n⟩, kao, kcap⟩ := c
  obtain ⟨sk, sc, sl, st⟩ := s
  dsimp only at hw1' q0 q1 q2 q3 q4 q5 q6 f1 f2 f3 n1 n2 n3 n4 HW HS HT HL
  have hg := lt_of_block f1
  have hbk : bk < w.heap.size := by obtain ⟨_, _, h, _⟩ := f2; exact h.lt
  have hbc : bc < w.heap.size := by obtain ⟨_, _, h, _⟩ := f3; exact h.lt
  have F1 := Lib.hid (M1.get f1 List.not_mem_nil)
  have K1 := Lib.hid (f2.mod M1 List.not_mem_nil)
  have C1 := Lib.hid (f3.mod M1 List.not_mem_nil)
  have HM1 := Lib.hid M1
  have Q0 := Lib.hid q0
  have Q1 := Lib.hid q1
  have Q2 := Lib.hid q2
  have Q3 := Lib.hid q3
  have Q4 := Lib.hid q4
  have Q5 := Lib.hid q5
  have Q6 := Lib.hid q6
  obtain ⟨v0, hv0⟩ : ∃ x, sc client = x := ⟨_, rfl⟩
  obtain ⟨v1, hv1⟩ : ∃ x, max sl v0 = x := ⟨_, rfl⟩
  have HV0 := Lib.hid hv0
  have HV1 := Lib.hid hv1
  have HN1 := Lib.hid n1
  have HN2 := Lib.hid n2
  clear f1 f2 f3 q0 q1 q2 q3 q4 q5 q6 M1 hv0 hv1 n1 n2
  show Calls Try.prog 15 #[.pointer (some ⟨g, 0, none⟩), .agg #[.int .u32 (client : Int), .int .u32 (seq : Int), .int .u8 (kind : Int), .slice kao keys.length kcap, .string old, .string fresh, .int .i64 n]] w fun e w' => e = .returned (.int .i64 (wv : Int)) ∧ Front w' g bk bc s' ∧ Mod [g, bk, bc] w w'
  go_enter Try.func15, Try.ntmps15
  go_upto_region 1 with (fail)
  refine rest_start [] 13 #[false, false, false, false, false, false, false, false, false, false, false, false, false] rfl (by kernel_rfl) (by kernel_rfl) ?_
  intro w2 m2
  have A1 : Hid (w2.cell? ⟨g, 1, none⟩ = some (.map (some bc))) := Lib.hid (by rw [cell_of_block (m2.get F1.out List.not_mem_nil)]; rfl)
  have A2 : Hid (w2.cell? ⟨g, 2, none⟩ = some (.int .i64 (sl : Int))) := Lib.hid (by rw [cell_of_block (m2.get F1.out List.not_mem_nil)]; rfl)
  have F2 := Lib.hid (m2.get F1.out List.not_mem_nil)
  have K2 := Lib.hid (K1.out.mod m2 List.not_mem_nil)
  have C2 := Lib.hid (C1.out.mod m2 List.not_mem_nil)
  have R0 := Lib.hid (m2.cell Q0.out List.not_mem_nil)
  have R1 := Lib.hid (m2.cell Q1.out List.not_mem_nil)
  have R2 := Lib.hid (m2.cell Q2.out List.not_mem_nil)
  have R3 := Lib.hid (m2.cell Q3.out List.not_mem_nil)
  have R4 := Lib.hid (m2.cell Q4.out List.not_mem_nil)
  have R5 := Lib.hid (m2.cell Q5.out List.not_mem_nil)
  have R6 := Lib.hid (m2.cell Q6.out List.not_mem_nil)
  have HM2 := Lib.hid (HM1.out.trans' m2)
  clear m2 hw1' F1 K1 C1 HM1 Q0 Q1 Q2 Q3 Q4 Q5 Q6
  refine rest_got (i := 0) (v := ?v1) rfl (by kernel_rfl) (by kernel_rfl) (by kernel_rfl) (fun _ _ _ h => h) (by rfl) ?y1 ?r1
  case y1 => (intro w9q hSwq; clear hSwq; go_simp; with_reducible rfl)
  try simp only [Act.put, List.setIfInBounds_toArray, List.set_cons_zero, List.set_cons_succ]
  refine rest_got (i := 1) (v := ?v2) rfl (by kernel_rfl) (by kernel_rfl) (by kernel_rfl) (fun _ _ _ h => h) (by rfl) ?y2 ?r2
  case y2 => (intro w9q hSwq; clear hSwq; go_simp; with_reducible rfl)
  try simp only [Act.put, List.setIfInBounds_toArray, List.set_cons_zero, List.set_cons_succ]
  refine rest_got (i := 2) (v := ?v3) rfl (by kernel_rfl) (by kernel_rfl) (by kernel_rfl) (fun _ _ _ h => h) (by rfl) ?y3 ?r3
  case y3 => (intro w9q hSwq; clear hSwq; go_simp; with_reducible rfl)
  try simp only [Act.put, List.setIfInBounds_toArray, List.set_cons_zero, List.set_cons_succ]
  refine rest_got (i := 3) (v := ?v4) rfl (by kernel_rfl) (by kernel_rfl) (by kernel_rfl) (fun _ _ _ h => h) (by rfl) ?y4 ?r4
  case y4 => ((intro w9' hm9'; have hc9' := Mod.cell hm9' A2.out (by first | exact List.not_mem_nil | assumption | (simp; done) | (simp; omega)); clear hm9'; go_simp; with_reducible rfl))
  try simp only [Act.put, List.setIfInBounds_toArray, List.set_cons_zero, List.set_cons_succ]
  refine rest_got (i := 4) (v := ?v5) rfl (by kernel_rfl) (by kernel_rfl) (by kernel_rfl) (fun _ _ _ h => h) (by rfl) ?y5 ?r5
  case y5 => (intro w9q hSwq; clear hSwq; go_simp; with_reducible rfl)
  try simp only [Act.put, List.setIfInBounds_toArray, List.set_cons_zero, List.set_cons_succ]
  refine rest_got (i := 5) (v := ?v6) rfl (by kernel_rfl) (by kernel_rfl) (by kernel_rfl) (fun _ _ _ h => h) (by rfl) ?y6 ?r6
  case y6 => (intro w9q hSwq; clear hSwq; go_simp; with_reducible rfl)
  try simp only [Act.put, List.setIfInBounds_toArray, List.set_cons_zero, List.set_cons_succ]
  refine rest_got (i := 6) (v := ?v7) rfl (by kernel_rfl) (by kernel_rfl) (by kernel_rfl) (fun _ _ _ h => h) (by rfl) ?y7 ?r7
  case y7 => (intro w9q hSwq; clear hSwq; go_simp; with_reducible rfl)
  try simp only [Act.put, List.setIfInBounds_toArray, List.set_cons_zero, List.set_cons_succ]
  refine rest_got (i := 7) (v := ?v8) rfl (by kernel_rfl) (by kernel_rfl) (by kernel_rfl) (fun _ _ _ h => h) (by rfl) ?y8 ?r8
  case y8 => ((intro w9' hm9'; have hc9' := Mod.cell hm9' A1.out (by first | exact List.not_mem_nil | assumption | (simp; done) | (simp; omega)); clear hm9'; go_simp; with_reducible rfl))
  try simp only [Act.put, List.setIfInBounds_toArray, List.set_cons_zero, List.set_cons_succ]
  refine rest_got (i := 8) (v := ?v9) rfl (by kernel_rfl) (by kernel_rfl) (by kernel_rfl) (fun _ _ _ h => h) (by rfl) ?y9 ?r9
  case y9 => (intro w9q hSwq; clear hSwq; go_simp; with_reducible rfl)
  try simp only [Act.put, List.setIfInBounds_toArray, List.set_cons_zero, List.set_cons_succ]
  refine rest_got (i := 9) (v := ?v10) rfl (by kernel_rfl) (by kernel_rfl) (by kernel_rfl) (fun _ _ _ h => h) (by rfl) ?y10 ?r10
  case y10 => ((intro w9' hm9'; have hc9' := Mod.cell hm9' R0.out (by first | exact List.not_mem_nil | assumption | (simp; done) | (simp; omega)); clear hm9'; go_simp; with_reducible rfl))
  try simp only [Act.put, List.setIfInBounds_toArray, List.set_cons_zero, List.set_cons_succ]
  refine rest_one (i := 10) (by kernel_rfl) rfl (by rfl) ?_
  go_wp2_with (first | (at_lookup; refine wpl_lookup1 (dst := some 21) _ _ _ client v0 C2.out Try.underlying39 Try.underlying29 rfl rfl rfl (zeroInt _) HV0.out ?_) | fail)
  refine back_to (K1 := []) (Mod.refl _ _) (by simp) ?_
  refine rest_one (i := 11) (by kernel_rfl) rfl (by rfl) ?_
  have e1 : max (sl : Int) (v0 : Int) = (v1 : Int) := by rw [← HV1.out]; omega
  go_wp2_with fail
  clear e1
  refine back_to (K1 := []) (Mod.refl _ _) (by simp) ?_
  clear A1 A2
  refine rest_got (i := 12) (v := ?v11) rfl (by kernel_rfl) (by kernel_rfl) (by kernel_rfl) (fun _ _ _ h => h) (by rfl) ?y11 ?r11
  case y11 => (intro w9q hSwq; clear hSwq; go_simp; with_reducible rfl)
  try simp only [Act.put, List.setIfInBounds_toArray, List.set_cons_zero, List.set_cons_succ]
  refine rest_done (by kernel_rfl) ?_ _
  have q0 := R0.out
  have q1 := R1.out
  have q2 := R2.out
  have q3 := R3.out
  have q4 := R4.out
  have q5 := R5.out
  have q6 := R6.out
  go_wp2_with fail
  refine (HT.out _ HM2.out).mono ?_
  rintro e w3 ⟨ao, nn, cap, rfl, hn, ho, hb, m3⟩
  have F3 := Lib.hid (m3.get F2.out List.not_mem_nil)
  have K3 := Lib.hid (K2.out.mod m3 List.not_mem_nil)
  have C3 := Lib.hid (C2.out.mod m3 List.not_mem_nil)
  have S0 := Lib.hid (m3.cell R0.out List.not_mem_nil)
  have S1 := Lib.hid (m3.cell R1.out List.not_mem_nil)
  have S2 := Lib.hid (m3.cell R2.out List.not_mem_nil)
  have S3 := Lib.hid (m3.cell R3.out List.not_mem_nil)
  have S4 := Lib.hid (m3.cell R4.out List.not_mem_nil)
  have S5 := Lib.hid (m3.cell R5.out List.not_mem_nil)
  have S6 := Lib.hid (m3.cell R6.out List.not_mem_nil)
  have HM3 := Lib.hid (HM2.out.trans' m3)
  have HO := Lib.hid ho
  have HN := Lib.hid hn
  have HB : Hid (∀ k, k ∈ blk ao → k ≠ g ∧ k ≠ bk ∧ k ≠ bc) := Lib.hid (fun k hk => by
    have := hb k hk
    have := HM2.out.size
    refine ⟨?_, ?_, ?_⟩ <;> omega)
  have hnn : nn ≤ 100000 := by omega
  clear ho hn hb m3 F2 K2 C2 R0 R1 R2 R3 R4 R5 R6 q0 q1 q2 q3 q4 q5 q6 HM2 HT L1
  have a0 : w3.cell? ⟨g, 0, none⟩ = some (.map (some bk)) := by rw [cell_of_block F3.out]; rfl
  go_wp2
  go_loopw [5, 8, 27] (fun s5 _ i wr => ∃ j m : Nat, j ≤ nn ∧ i = .int .i64 (j : Int) ∧ s5 = .int .i64 (m : Int) ∧ wr = w3 ∧ Aside (mx sk (l.take j) v1 = m)) (fun _ _ i _ => nn - (intOf i).toNat)
  case atStart => exact ⟨0, v1, Nat.zero_le _, rfl, rfl, rfl, rfl⟩
  case round =>
    obtain ⟨j, m, hj, rfl, rfl, rfl, A⟩ := hrel
    by_cases hlt : j < nn
    · obtain ⟨gl, hao, hc, -⟩ := OwnM.at' HO.out (j := j) (by rw [HN.out]; exact hlt)
      subst hao
      obtain ⟨x, hx⟩ : ∃ x, l[j]'(by rw [HN.out]; exact hlt) = x := ⟨_, rfl⟩
      rw [hx] at hc
      obtain ⟨v, hv⟩ : ∃ v, sk x = v := ⟨_, rfl⟩
      obtain ⟨m', hm'⟩ : ∃ r, max m v = r := ⟨_, rfl⟩
      have HX := Lib.hid hx
      have HV := Lib.hid hv
      have HM' := Lib.hid hm'
      have e1 : max (m : Int) (v : Int) = (m' : Int) := by rw [← hm']; omega
      clear hx hv hm'
      go_wp2_with (at_lookup; refine wpl_lookup1 (dst := some 37) _ _ _ x v K3.out Try.underlying38 Try.underlying9 rfl rfl trivial (zeroInt _) HV.out ?_)
      clear e1
      go_roundw
      case rel =>
        refine ⟨j + 1, m', by omega, by go_num, rfl, by first | rfl | trivial, (show _ = _ from ?_)⟩
        rw [take_snoc l j (by rw [HN.out]; exact hlt), mx_snoc, A.out, HX.out, HV.out]
        exact HM'.out
      case measure => simp [intOf]; omega
    · have hje : j = nn := by omega
      subst hje
      have hA := A.out
      rw [List.take_of_length_le (by rw [HN.out]; exact Nat.le_refl _)] at hA
      have HA := Lib.hid hA
      clear hA A
      have q0 := S0.out
      have q1 := S1.out
      have q2 := S2.out
      have q3 := S3.out
      have q4 := S4.out
      have q5 := S5.out
      have q6 := S6.out
      go_wp2_with fail
      refine (HL.out _ HM3.out).mono ?_
      rintro e w4 ⟨rfl, m4⟩
      have F4 := Lib.hid (m4.get F3.out List.not_mem_nil)
      have K4 := Lib.hid (K3.out.mod m4 List.not_mem_nil)
      have C4 := Lib.hid (C3.out.mod m4 List.not_mem_nil)
      have HO4 := Lib.hid (HO.out.mod0 m4)
      have HM4 := Lib.hid (HM3.out.trans' m4)
      have T0 := Lib.hid (m4.cell S0.out List.not_mem_nil)
      have T1 := Lib.hid (m4.cell S1.out List.not_mem_nil)
      have T2 := Lib.hid (m4.cell S2.out List.not_mem_nil)
      have T3 := Lib.hid (m4.cell S3.out List.not_mem_nil)
      have T4 := Lib.hid (m4.cell S4.out List.not_mem_nil)
      have T5 := Lib.hid (m4.cell S5.out List.not_mem_nil)
      have T6 := Lib.hid (m4.cell S6.out List.not_mem_nil)
      clear m4 F3 K3 C3 HO HM3 S0 S1 S2 S3 S4 S5 S6 q0 q1 q2 q3 q4 q5 q6 a0 hlt HL
      cases lo with
      | true =>
        have e0 : wv = st := by simpa using HW.out
        subst e0
        have a0 : w4.cell? ⟨g, 0, none⟩ = some (.map (some bk)) := by rw [cell_of_block F4.out]; rfl
        have a1 : w4.cell? ⟨g, 1, none⟩ = some (.map (some bc)) := by rw [cell_of_block F4.out]; rfl
        have a2 : w4.cell? ⟨g, 2, none⟩ = some (.int .i64 (sl : Int)) := by rw [cell_of_block F4.out]; rfl
        have a3 : w4.cell? ⟨g, 3, none⟩ = some (.int .i64 (wv : Int)) := by rw [cell_of_block F4.out]; rfl
        have b2 : w4.frozen? ⟨g, 2, none⟩ = false := free_of_block F4.out
        obtain ⟨w5, hw5⟩ : ∃ x, w4.setCell ⟨g, 2, none⟩ (.int .i64 ((wv : Int) + 1)) = x := ⟨_, rfl⟩
        have h5 := heap_setCell_same (i := 2) F4.out (.int .i64 ((wv : Int) + 1))
        rw [hw5] at h5
        have m5 : Mod [g] w4 w5 := hw5 ▸ Mod.setCell _ _ _ (by simp)
        have F5 : Hid (w5.heap[g]? = some (.cells #[.map (some bk), .map (some bc), .int .i64 ((wv + 1 : Nat) : Int), .int .i64 (wv : Int)] 41 (0, 0))) := Lib.hid h5
        have K5 := Lib.hid (K4.out.mod m5 (by simp; exact fun h => d1 h.symm))
        have C5 := Lib.hid (C4.out.mod m5 (by simp; exact fun h => d2 h.symm))
        have HO5 := Lib.hid (HO4.out.mod m5 (fun k hk => by have := HB.out k hk; simp; exact this.1))
        have HM5 : Hid (Mod [g] w w5) := Lib.hid (HM4.out.nil.trans' m5)
        have TC := Lib.hid (m5.cell T0.out (by simp; omega))
        have hs : s' = { keys := upd sk l (wv + 1), clients := upd sc [client] (wv + 1), lone := wv + 1, top := max wv (wv + 1) } := HS.out
        clear h5 m5 K4 C4 HO4 HM4 T0 T1 T2 T3 T4 T5 T6 HS
        have HS := Lib.hid hs
        clear hs
        go_wp2
        try rw [hw5]
        clear F4 hw5 a0 a1 a2 a3 b2
        go_loopw [10, 53] (fun _ i wr => ∃ p : Nat, p ≤ j ∧ i = .int .i64 (p : Int) ∧ Mod [bk] w5 wr ∧ MapN wr bk .string Value.string (upd sk (l.take p) (wv + 1))) (fun _ i _ => j - (intOf i).toNat)
        case atStart => exact ⟨0, Nat.zero_le _, rfl, Mod.refl _ _, by rw [List.take_zero, upd_nil]; exact K5.out⟩
        case round =>
          obtain ⟨p, hp, rfl, m6, k6⟩ := hrel
          have HM6 := Lib.hid m6
          have K6 := Lib.hid k6
          have F6 := Lib.hid (m6.get F5.out (by simp; exact d1))
          clear m6 k6
          by_cases hpt : p < j
          · obtain ⟨gl, hao, hc, -⟩ := OwnM.at' (HO5.out.mod HM6.out (fun k hk => by have := HB.out k hk; simp; exact this.2.1)) (j := p) (by rw [HN.out]; exact hpt)
            subst hao
            obtain ⟨x, hx⟩ : ∃ x, l[p]'(by rw [HN.out]; exact hpt) = x := ⟨_, rfl⟩
            rw [hx] at hc
            have u0 : l.take (p + 1) = l.take p ++ [x] := by rw [take_snoc l p (by rw [HN.out]; exact hpt), hx]
            have U1 : Hid (upd sk (l.take (p + 1)) (wv + 1) x = wv + 1) := Lib.hid (by rw [u0]; exact upd_at _ _ _ _)
            have U2 : Hid (∀ y, y ≠ x → upd sk (l.take (p + 1)) (wv + 1) y = upd sk (l.take p) (wv + 1) y) := Lib.hid (fun y hy => by rw [u0]; exact upd_ne _ _ _ _ _ hy)
            clear hx u0
            have a0 : wr.cell? ⟨g, 0, none⟩ = some (.map (some bk)) := by rw [cell_of_block F6.out]; rfl
            go_wp2_with (at_mapUpdate; refine wpl_update1 _ _ _ _ x (wv + 1) K6.out inj_str Try.underlying38 Try.underlying9 rfl rfl rfl trivial (upd sk (l.take (p + 1)) (wv + 1)) U1.out U2.out (fun w7 m7 HK7 => ?_))
            go_roundw
            case rel => exact ⟨p + 1, by omega, by go_num, HM6.out.trans' m7, HK7.out⟩
            case measure => simp [intOf]; omega
          · have hpe : p = j := by omega
            subst hpe
            have k6 := K6.out
            rw [List.take_of_length_le (by rw [HN.out]; exact Nat.le_refl _)] at k6
            have K6 := Lib.hid k6
            clear k6
            go_upto_region 16 with (fail)
            refine rest_start [bc] 9 #[false, false, false, false, false, false, false, false, false] rfl (by kernel_rfl) (by kernel_rfl) ?_
            intro w7 m7
            have m57 := HM6.out.trans0 m7
            have A1 : Hid (w7.cell? ⟨g, 1, none⟩ = some (.map (some bc))) := Lib.hid (by rw [cell_of_block (m7.get F6.out List.not_mem_nil)]; rfl)
            have TT : Hid (w7.cell? ⟨w.heap.size, 0, none⟩ = some (.int .u32 (client : Int))) := Lib.hid (m57.cell TC.out (by simp; omega))
            have F7 := Lib.hid (m7.get F6.out List.not_mem_nil)
            have K7 := Lib.hid (K6.out.mod m7 List.not_mem_nil)
            have C7 := Lib.hid (C5.out.mod m57 (by simp; exact fun h => d3 h.symm))
            have HM7 : Hid (Mod [g, bk, bc] w w7) := Lib.hid ((HM5.out.weaken (by simp)).trans m57 (fun i hi _ => by simp at hi; simp [hi]))
            clear m7 m57 HM6 F6 K6
            have hgs : w.heap.size ≠ bc := by omega
            refine rest_got (i := 0) (v := ?v12) rfl (by kernel_rfl) (by kernel_rfl) (by kernel_rfl) (fun _ _ _ h => h) (by rfl) ?y12 ?r12
            case y12 => (intro w9q hSwq; clear hSwq; go_simp; with_reducible rfl)
            try simp only [Act.put, List.setIfInBounds_toArray, List.set_cons_zero, List.set_cons_succ]
            refine rest_got (i := 1) (v := ?v13) rfl (by kernel_rfl) (by kernel_rfl) (by kernel_rfl) (fun _ _ _ h => h) (by rfl) ?y13 ?r13
            case y13 => (intro w9q hSwq; clear hSwq; go_simp; with_reducible rfl)
            try simp only [Act.put, List.setIfInBounds_toArray, List.set_cons_zero, List.set_cons_succ]
            refine rest_got (i := 2) (v := ?v14) rfl (by kernel_rfl) (by kernel_rfl) (by kernel_rfl) (fun _ _ _ h => h) (by rfl) ?y14 ?r14
            case y14 => (intro w9q hSwq; clear hSwq; go_simp; with_reducible rfl)
            try simp only [Act.put, List.setIfInBounds_toArray, List.set_cons_zero, List.set_cons_succ]
            refine rest_got (i := 3) (v := ?v15) rfl (by kernel_rfl) (by kernel_rfl) (by kernel_rfl) (fun _ _ _ h => h) (by rfl) ?y15 ?r15
            case y15 => ((intro w9' hm9'; have hc9' := Mod.cell hm9' A1.out (by first | exact List.not_mem_nil | assumption | (simp; done) | (simp; omega)); clear hm9'; go_simp; with_reducible rfl))
            try simp only [Act.put, List.setIfInBounds_toArray, List.set_cons_zero, List.set_cons_succ]
            refine rest_got (i := 4) (v := ?v16) rfl (by kernel_rfl) (by kernel_rfl) (by kernel_rfl) (fun _ _ _ h => h) (by rfl) ?y16 ?r16
            case y16 => (intro w9q hSwq; clear hSwq; go_simp; with_reducible rfl)
            try simp only [Act.put, List.setIfInBounds_toArray, List.set_cons_zero, List.set_cons_succ]
            refine rest_got (i := 5) (v := ?v17) rfl (by kernel_rfl) (by kernel_rfl) (by kernel_rfl) (fun _ _ _ h => h) (by rfl) ?y17 ?r17
            case y17 => ((intro w9' hm9'; have hc9' := Mod.cell hm9' TT.out (by first | exact List.not_mem_nil | assumption | (simp; done) | (simp; omega)); clear hm9'; go_simp; with_reducible rfl))
            try simp only [Act.put, List.setIfInBounds_toArray, List.set_cons_zero, List.set_cons_succ]
            refine rest_got (i := 6) (v := ?v18) rfl (by kernel_rfl) (by kernel_rfl) (by kernel_rfl) (fun _ _ _ h => h) (by rfl) ?y18 ?r18
            case y18 => (intro w9q hSwq; clear hSwq; go_simp; with_reducible rfl)
            try simp only [Act.put, List.setIfInBounds_toArray, List.set_cons_zero, List.set_cons_succ]
            refine rest_got (i := 7) (v := ?v19) rfl (by kernel_rfl) (by kernel_rfl) (by kernel_rfl) (fun _ _ _ h => h) (by rfl) ?y19 ?r19
            case y19 => (intro w9q hSwq; clear hSwq; go_simp; with_reducible rfl)
            try simp only [Act.put, List.setIfInBounds_toArray, List.set_cons_zero, List.set_cons_succ]
            refine rest_one (i := 8) (by kernel_rfl) rfl (by rfl) ?_
            have U1 : Hid (upd sc [client] (wv + 1) client = wv + 1) := Lib.hid (upd_at sc [] client _)
            have U2 : Hid (∀ y, y ≠ client → upd sc [client] (wv + 1) y = sc y) := Lib.hid (fun y hy => by
              have := upd_ne sc [] client y (wv + 1) hy
              rw [List.nil_append, upd_nil] at this
              exact this)
            refine wpl_update1 _ _ _ _ client (wv + 1) C7.out inj_u32 Try.underlying39 Try.underlying29 rfl rfl (congrArg (Value.int .i64) (IntWalk.i64_in _ (by omega))) rfl (upd sc [client] (wv + 1)) U1.out U2.out (fun w8 m8 HC8 => ?_)
            refine back_to (K1 := []) m8 (by simp) ?_
            have F8 := Lib.hid (m8.get F7.out (by simp; exact d2))
            have K8 := Lib.hid (K7.out.mod m8 (by simp; exact d3))
            have HM8 : Hid (Mod [g, bk, bc] w w8) := Lib.hid (HM7.out.trans m8 (fun i hi _ => by simp at hi; simp [hi]))
            clear A1 TT F7 K7 C7 HM7 m8 U1 U2
            refine rest_done (by kernel_rfl) ?_ _
            have a3 : w8.cell? ⟨g, 3, none⟩ = some (.int .i64 (wv : Int)) := by rw [cell_of_block F8.out]; rfl
            have b3 : w8.frozen? ⟨g, 3, none⟩ = false := free_of_block F8.out
            obtain ⟨tp, htp⟩ : ∃ r, max wv (wv + 1) = r := ⟨_, rfl⟩
            have e1 : max (wv : Int) ((wv : Int) + 1) = (tp : Int) := by rw [← htp]; omega
            have HTP := Lib.hid htp
            clear htp
            go_wp2
            go_ret
            have h9 := heap_setCell_same (i := 3) F8.out (.int .i64 (tp : Int))
            have m9 : Mod [g] w8 (w8.setCell ⟨g, 3, none⟩ (.int .i64 (tp : Int))) := Mod.setCell _ _ _ (by simp)
            refine ⟨rfl, ?_, HM8.out.trans m9 (fun i hi _ => by simp at hi; simp [hi])⟩
            rw [HS.out, HTP.out]
            exact ⟨h9, K8.out.mod m9 (by simp; exact fun h => d1 h.symm), HC8.out.mod m9 (by simp; exact fun h => d2 h.symm), d1, d2, d3⟩
      | false =>
        have e0 : m = wv := by
          rw [← HA.out, ← HV1.out, ← HV0.out]
          have := HW.out
          simpa using this.symm
        subst e0
        obtain ⟨w5, hw5⟩ : ∃ x, w4 = x := ⟨_, rfl⟩
        subst hw5
        have F5 := F4
        have K5 := K4
        have C5 := C4
        have HO5 := HO4
        have HM5 : Hid (Mod [g] w w4) := Lib.hid HM4.out.nil
        have TC := T0
        have hs : s' = { keys := upd sk l (m + 1), clients := upd sc [client] (m + 1), lone := sl, top := max st (m + 1) } := HS.out
        clear F4 K4 C4 HO4 HM4 T0 T1 T2 T3 T4 T5 T6 HS
        have HS := Lib.hid hs
        clear hs
        go_wp2
        go_loopw [10, 53] (fun _ i wr => ∃ p : Nat, p ≤ j ∧ i = .int .i64 (p : Int) ∧ Mod [bk] w4 wr ∧ MapN wr bk .string Value.string (upd sk (l.take p) (m + 1))) (fun _ i _ => j - (intOf i).toNat)
        case atStart => exact ⟨0, Nat.zero_le _, rfl, Mod.refl _ _, by rw [List.take_zero, upd_nil]; exact K5.out⟩
        case round =>
          obtain ⟨p, hp, rfl, m6, k6⟩ := hrel
          have HM6 := Lib.hid m6
          have K6 := Lib.hid k6
          have F6 := Lib.hid (m6.get F5.out (by simp; exact d1))
          clear m6 k6
          by_cases hpt : p < j
          · obtain ⟨gl, hao, hc, -⟩ := OwnM.at' (HO5.out.mod HM6.out (fun k hk => by have := HB.out k hk; simp; exact this.2.1)) (j := p) (by rw [HN.out]; exact hpt)
            subst hao
            obtain ⟨x, hx⟩ : ∃ x, l[p]'(by rw [HN.out]; exact hpt) = x := ⟨_, rfl⟩
            rw [hx] at hc
            have u0 : l.take (p + 1) = l.take p ++ [x] := by rw [take_snoc l p (by rw [HN.out]; exact hpt), hx]
            have U1 : Hid (upd sk (l.take (p + 1)) (m + 1) x = m + 1) := Lib.hid (by rw [u0]; exact upd_at _ _ _ _)
            have U2 : Hid (∀ y, y ≠ x → upd sk (l.take (p + 1)) (m + 1) y = upd sk (l.take p) (m + 1) y) := Lib.hid (fun y hy => by rw [u0]; exact upd_ne _ _ _ _ _ hy)
            clear hx u0
            have a0 : wr.cell? ⟨g, 0, none⟩ = some (.map (some bk)) := by rw [cell_of_block F6.out]; rfl
            go_wp2_with (at_mapUpdate; refine wpl_update1 _ _ _ _ x (m + 1) K6.out inj_str Try.underlying38 Try.underlying9 rfl rfl rfl trivial (upd sk (l.take (p + 1)) (m + 1)) U1.out U2.out (fun w7 m7 HK7 => ?_))
            go_roundw
            case rel => exact ⟨p + 1, by omega, by go_num, HM6.out.trans' m7, HK7.out⟩
            case measure => simp [intOf]; omega
          · have hpe : p = j := by omega
            subst hpe
            have k6 := K6.out
            rw [List.take_of_length_le (by rw [HN.out]; exact Nat.le_refl _)] at k6
            have K6 := Lib.hid k6
            clear k6
            go_upto_region 16 with (fail)
            refine rest_start [bc] 9 #[false, false, false, false, false, false, false, false, false] rfl (by kernel_rfl) (by kernel_rfl) ?_
            intro w7 m7
            have m57 := HM6.out.trans0 m7
            have A1 : Hid (w7.cell? ⟨g, 1, none⟩ = some (.map (some bc))) := Lib.hid (by rw [cell_of_block (m7.get F6.out List.not_mem_nil)]; rfl)
            have TT : Hid (w7.cell? ⟨w.heap.size, 0, none⟩ = some (.int .u32 (client : Int))) := Lib.hid (m57.cell TC.out (by simp; omega))
            have F7 := Lib.hid (m7.get F6.out List.not_mem_nil)
            have K7 := Lib.hid (K6.out.mod m7 List.not_mem_nil)
            have C7 := Lib.hid (C5.out.mod m57 (by simp; exact fun h => d3 h.symm))
            have HM7 : Hid (Mod [g, bk, bc] w w7) := Lib.hid ((HM5.out.weaken (by simp)).trans m57 (fun i hi _ => by simp at hi; simp [hi]))
            clear m7 m57 HM6 F6 K6
            have hgs : w.heap.size ≠ bc := by omega
            refine rest_got (i := 0) (v := ?v20) rfl (by kernel_rfl) (by kernel_rfl) (by kernel_rfl) (fun _ _ _ h => h) (by rfl) ?y20 ?r20
            case y20 => (intro w9q hSwq; clear hSwq; go_simp; with_reducible rfl)
            try simp only [Act.put, List.setIfInBounds_toArray, List.set_cons_zero, List.set_cons_succ]
            refine rest_got (i := 1) (v := ?v21) rfl (by kernel_rfl) (by kernel_rfl) (by kernel_rfl) (fun _ _ _ h => h) (by rfl) ?y21 ?r21
            case y21 => (intro w9q hSwq; clear hSwq; go_simp; with_reducible rfl)
            try simp only [Act.put, List.setIfInBounds_toArray, List.set_cons_zero, List.set_cons_succ]
            refine rest_got (i := 2) (v := ?v22) rfl (by kernel_rfl) (by kernel_rfl) (by kernel_rfl) (fun _ _ _ h => h) (by rfl) ?y22 ?r22
            case y22 => (intro w9q hSwq; clear hSwq; go_simp; with_reducible rfl)
            try simp only [Act.put, List.setIfInBounds_toArray, List.set_cons_zero, List.set_cons_succ]
            refine rest_got (i := 3) (v := ?v23) rfl (by kernel_rfl) (by kernel_rfl) (by kernel_rfl) (fun _ _ _ h => h) (by rfl) ?y23 ?r23
            case y23 => ((intro w9' hm9'; have hc9' := Mod.cell hm9' A1.out (by first | exact List.not_mem_nil | assumption | (simp; done) | (simp; omega)); clear hm9'; go_simp; with_reducible rfl))
            try simp only [Act.put, List.setIfInBounds_toArray, List.set_cons_zero, List.set_cons_succ]
            refine rest_got (i := 4) (v := ?v24) rfl (by kernel_rfl) (by kernel_rfl) (by kernel_rfl) (fun _ _ _ h => h) (by rfl) ?y24 ?r24
            case y24 => (intro w9q hSwq; clear hSwq; go_simp; with_reducible rfl)
            try simp only [Act.put, List.setIfInBounds_toArray, List.set_cons_zero, List.set_cons_succ]
            refine rest_got (i := 5) (v := ?v25) rfl (by kernel_rfl) (by kernel_rfl) (by kernel_rfl) (fun _ _ _ h => h) (by rfl) ?y25 ?r25
            case y25 => ((intro w9' hm9'; have hc9' := Mod.cell hm9' TT.out (by first | exact List.not_mem_nil | assumption | (simp; done) | (simp; omega)); clear hm9'; go_simp; with_reducible rfl))
            try simp only [Act.put, List.setIfInBounds_toArray, List.set_cons_zero, List.set_cons_succ]
            refine rest_got (i := 6) (v := ?v26) rfl (by kernel_rfl) (by kernel_rfl) (by kernel_rfl) (fun _ _ _ h => h) (by rfl) ?y26 ?r26
            case y26 => (intro w9q hSwq; clear hSwq; go_simp; with_reducible rfl)
            try simp only [Act.put, List.setIfInBounds_toArray, List.set_cons_zero, List.set_cons_succ]
            refine rest_got (i := 7) (v := ?v27) rfl (by kernel_rfl) (by kernel_rfl) (by kernel_rfl) (fun _ _ _ h => h) (by rfl) ?y27 ?r27
            case y27 => (intro w9q hSwq; clear hSwq; go_simp; with_reducible rfl)
            try simp only [Act.put, List.setIfInBounds_toArray, List.set_cons_zero, List.set_cons_succ]
            refine rest_one (i := 8) (by kernel_rfl) rfl (by rfl) ?_
            have U1 : Hid (upd sc [client] (m + 1) client = m + 1) := Lib.hid (upd_at sc [] client _)
            have U2 : Hid (∀ y, y ≠ client → upd sc [client] (m + 1) y = sc y) := Lib.hid (fun y hy => by
              have := upd_ne sc [] client y (m + 1) hy
              rw [List.nil_append, upd_nil] at this
              exact this)
            refine wpl_update1 _ _ _ _ client (m + 1) C7.out inj_u32 Try.underlying39 Try.underlying29 rfl rfl (congrArg (Value.int .i64) (IntWalk.i64_in _ (by omega))) rfl (upd sc [client] (m + 1)) U1.out U2.out (fun w8 m8 HC8 => ?_)
            refine back_to (K1 := []) m8 (by simp) ?_
            have F8 := Lib.hid (m8.get F7.out (by simp; exact d2))
            have K8 := Lib.hid (K7.out.mod m8 (by simp; exact d3))
            have HM8 : Hid (Mod [g, bk, bc] w w8) := Lib.hid (HM7.out.trans m8 (fun i hi _ => by simp at hi; simp [hi]))
            clear A1 TT F7 K7 C7 HM7 m8 U1 U2
            refine rest_done (by kernel_rfl) ?_ _
            have a3 : w8.cell? ⟨g, 3, none⟩ = some (.int .i64 (st : Int)) := by rw [cell_of_block F8.out]; rfl
            have b3 : w8.frozen? ⟨g, 3, none⟩ = false := free_of_block F8.out
            obtain ⟨tp, htp⟩ : ∃ r, max st (m + 1) = r := ⟨_, rfl⟩
            have e1 : max (st : Int) ((m : Int) + 1) = (tp : Int) := by rw [← htp]; omega
            have HTP := Lib.hid htp
            clear htp
            go_wp2
            go_ret
            have h9 := heap_setCell_same (i := 3) F8.out (.int .i64 (tp : Int))
            have m9 : Mod [g] w8 (w8.setCell ⟨g, 3, none⟩ (.int .i64 (tp : Int))) := Mod.setCell _ _ _ (by simp)
            refine ⟨rfl, ?_, HM8.out.trans m9 (fun i hi _ => by simp at hi; simp [hi])⟩
            rw [HS.out, HTP.out]
            exact ⟨h9, K8.out.mod m9 (by simp; exact fun h => d1 h.symm), HC8.out.mod m9 (by simp; exact fun h => d2 h.symm), d1, d2, d3⟩
end Go.Proofs.Ytkkjbeakmimmmaa
