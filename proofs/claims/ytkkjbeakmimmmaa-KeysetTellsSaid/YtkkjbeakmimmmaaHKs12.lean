/- The reference's keys that a command touches: how many they are. -/
import Derived.Test.YtkkjbeakmimmmaaHKs11
import Derived.Test.YtkkjbeakmimmmaaZ2
namespace Go.Proofs.Ytkkjbeakmimmmaa
open Go Go.RowKit Go.Lib

theorem infoS : (Try.prog.info? 9).map (fun i => (i.zero, i.size, i.bytes)) = some (some (.string ⟨#[]⟩), 1, 16) := by kernel_rfl
theorem same_len {R l : List ByteArray} (h : R.Nodup) (hm : ∀ x, x ∈ R ↔ x ∈ l) : R.length = (tk l).length :=
  ((List.perm_ext_iff_of_nodup h (tk_nodup l)).2 fun x => (hm x).trans (tk_mem l x).symm).length_eq
def LenR (w : World) (m : Nat) (e : Ending) (w' : World) : Prop := ∃ ao cap, e = .returned (.slice ao m cap) ∧ Mod [] w w'
/-- The list behind some keys. -/
def InR (R l : List ByteArray) : Prop := R.Nodup ∧ (∀ x, x ∈ R ↔ x ∈ l) ∧ R.length ≤ l.length
theorem InR.snoc {R R' l : List ByteArray} {k : ByteArray} (h : InR R l) (h1 : R.Nodup → R'.Nodup) (h2 : ∀ x, x ∈ R' ↔ x = k ∨ x ∈ R) (h3 : R'.length ≤ R.length + 1) : InR R' (l ++ [k]) := by
  refine ⟨h1 h.1, fun x => ?_, ?_⟩
  · rw [h2, h.2.1, List.mem_append, List.mem_singleton]
    exact Or.comm
  · rw [List.length_append]
    exact Nat.le_trans h3 (Nat.succ_le_succ h.2.2)
set_option maxRecDepth 100000 in
set_option maxHeartbeats 4000000 in
theorem refTouch_any (c : Cm) (w : World) (hk : SeesT w c.2.1 c.1.keys) (h1 : c.1.keys.length ≤ 100000) : Calls Try.prog 20 #[cmdV c] w (LenR w (tk c.1.keys).length) := by
  obtain ⟨w1, hw1', M1, z1, q0, q1, q2, q3, q4, q5, q6⟩ := box_facts c w
  have HK := Lib.hid (hk.mod0 M1)
  have HM1 := Lib.hid M1
  have HT : Hid (∀ R, InR R c.1.keys → R.length = (tk c.1.keys).length) := Lib.hid fun R h => same_len h.1 h.2.1
  obtain ⟨tl, htl⟩ : ∃ x, (tk c.1.keys).length = x := ⟨_, rfl⟩
  rw [htl] at HT ⊢
  clear htl
  obtain ⟨⟨client, seq, kind, keys, old, fresh, n⟩, kao, kcap⟩ := c
  dsimp only at hw1' q0 q1 q2 q3 q4 q5 q6 h1 HK HT ⊢
  have HP : Hid (cmdV (⟨client, seq, kind, keys, old, fresh, n⟩, kao, kcap) = .agg #[.int .u32 (client : Int), .int .u32 (seq : Int), .int .u8 (kind : Int), .slice kao keys.length kcap, .string old, .string fresh, .int .i64 n]) := Lib.hid rfl
  rw [HP.out]
  obtain ⟨kl, hkl⟩ : ∃ x, keys.length = x := ⟨_, rfl⟩
  rw [hkl] at hw1' q3 h1 ⊢
  have HKL := Lib.hid hkl
  clear hk M1 hkl HP q0 q1 q2 q4 q5 q6
  unfold LenR
  go_enter Try.func20, Try.ntmps20
  go_wp2
  go_loopw [3, 4] (fun s3 i wr => ∃ (j m : Nat) (oa : Option Addr) (oc : Nat) (R : List ByteArray), j ≤ kl ∧ i = .int .i64 (j : Int) ∧ s3 = .slice oa m oc ∧ R.length = m ∧ OwnP wr oa oc R ∧ InR R (keys.take j) ∧ Mod [] w1 wr) (fun _ i _ => kl - (intOf i).toNat)
  case atStart => exact ⟨0, 0, none, 0, [], Nat.zero_le _, rfl, rfl, rfl, OwnP.nil _, ⟨List.nodup_nil, fun x => Iff.rfl, Nat.le_refl _⟩, Mod.refl _ _⟩
  case round =>
    obtain ⟨j, m, oa, oc, R, hj, rfl, rfl, hm, hown, hin, hmod⟩ := hrel
    have HM := Lib.hid hm
    have HO := Lib.hid hown
    have HI := Lib.hid hin
    have HMd := Lib.hid hmod
    have q3' := hmod.cell q3 List.not_mem_nil
    clear hm hown hin hmod
    by_cases hlt : j < kl
    · have hmj : m ≤ j := by
        rw [← HM.out]
        refine Nat.le_trans HI.out.2.2 ?_
        rw [List.length_take]
        omega
      obtain ⟨kb, off, ek, hc⟩ := HK.out.mod0 HMd.out j (by rw [HKL.out]; exact hlt)
      cases ek
      obtain ⟨x, hx⟩ : ∃ x, keys[j]'(by rw [HKL.out]; exact hlt) = x := ⟨_, rfl⟩
      have HX : Hid (keys.take (j + 1) = keys.take j ++ [x]) := Lib.hid (by rw [take_snoc keys j (by rw [HKL.out]; exact hlt), hx])
      rw [hx] at hc
      clear hx
      have HW := Lib.hid (with_any oa m oc R x wr HM.out HO.out (by omega))
      unfold WithR PairsR at HW
      go_wp2_with fail
      refine HW.out.mono ?_
      rintro e w2 ⟨R', r1, r2, r3, oa', m', oc', rfl, hm', ho', hb', hmod'⟩
      have HM' := Lib.hid hm'
      have HO' := Lib.hid ho'
      have HI' := Lib.hid (HI.out.snoc r1 r2 r3)
      have HMd' := Lib.hid (HMd.out.trans' hmod')
      clear r1 r2 r3 hm' ho' hb' hmod' HI HO HM HMd q3' hc HW
      go_wp2
      go_roundw
      case rel => exact ⟨j + 1, m', oa', oc', R', by omega, by go_num, by first | rfl | trivial, HM'.out, HO'.out, by rw [HX.out]; exact HI'.out, HMd'.out⟩
      case measure => simp [intOf]; omega
    · have hje : j = kl := by omega
      have HL : Hid (m = tl) := Lib.hid (by
        rw [← HM.out]
        refine HT.out R ?_
        have := HI.out
        rwa [hje, List.take_of_length_le (by rw [HKL.out]; exact Nat.le_refl _)] at this)
      have hmk : m ≤ kl := by
        rw [← HM.out]
        refine Nat.le_trans HI.out.2.2 ?_
        rw [List.length_take]
        omega
      go_wp2
      clear q3'
      subst hje
      go_loopw [5, 6] (fun s5 i wq => ∃ (j m2 : Nat) (ob : Option Addr) (oc2 : Nat) (T : List ByteArray), j ≤ m ∧ i = .int .i64 (j : Int) ∧ s5 = .slice ob j oc2 ∧ T.length = j ∧ OwnS wq ob oc2 T ∧ (∀ b, b ∈ blk ob → wr.heap.size ≤ b) ∧ Mod [] wr wq) (fun _ i _ => m - (intOf i).toNat)
      case atStart => exact ⟨0, 0, none, 0, [], Nat.zero_le _, rfl, rfl, rfl, OwnM.nil _ _ _, fun b hb => by simp [blk] at hb, Mod.refl _ _⟩
      case round =>
        rename World => wq
        obtain ⟨i, m2, ob, oc2, T, hi, rfl, rfl, hT, hown, hb, hmod⟩ := hrel
        have HTL := Lib.hid hT
        have HS := Lib.hid hown
        have HB := Lib.hid hb
        have HMq := Lib.hid hmod
        clear hT hown hb hmod
        by_cases hli : i < m
        · obtain ⟨g, eg, c0, -⟩ := (HO.out.mod0 HMq.out).at' (j := i) (by rw [HM.out]; exact hli)
          cases eg
          obtain ⟨x, hx⟩ : ∃ x, R[i]'(by rw [HM.out]; exact hli) = x := ⟨_, rfl⟩
          rw [hx] at c0
          clear hx
          obtain ⟨w3, hw3, hh3⟩ : ∃ w3, wq.alloc (.cells #[.string x] 9) = w3 ∧ w3.heap[wq.heap.size]? = some (.cells #[.string x] 9 (0, 0)) := ⟨_, rfl, heap_alloc_new _ _⟩
          have m3 : Mod [] wq w3 := hw3 ▸ Mod.alloc _ _ _
          have SH := Lib.hid (shows_one (f := Value.string) hh3)
          have HS3 := Lib.hid (OwnM.mod0 HS.out m3)
          have HM3 := Lib.hid (HMq.out.trans' m3)
          clear m3 hh3 HS HMq
          go_wp2_with (first | (at_builtin; refine wpl_appM (dst := some 34) (f := Value.string) _ _ _ _ 16 rfl infoS rfl (fun _ => rfl) i T rfl HTL.out HS3.out _ 1 1 [x] rfl rfl SH.out (by omega) (by omega) ?_) | fail)
          intro ob' oc' w4 o4 m4 s4
          have HS4 := Lib.hid o4
          have HM4 := Lib.hid (HM3.out.trans m4 (fun b hb hl => absurd (HB.out b hb) (by omega)))
          have HB4 : Hid (∀ b, b ∈ blk ob' → wr.heap.size ≤ b) := Lib.hid (fun b hb => by
            rcases s4.blk b hb with h | h
            · exact HB.out b h
            · have := HM3.out.size; omega)
          clear o4 m4 s4 HS3 HM3 SH hw3
          go_wp2
          go_roundw
          case rel => exact ⟨i + 1, 0, ob', oc', T ++ [x], by omega, by go_num, by first | rfl | trivial, by rw [List.length_append, HTL.out]; rfl, HS4.out, HB4.out, HM4.out⟩
          case measure => simp [intOf]; omega
        · have hie : i = m := by omega
          subst hie
          go_wp2
          go_ret
          refine ⟨ob, oc2, ?_, (HM1.out.trans' HMd.out).trans' HMq.out⟩
          first | rfl | (rw [HL.out]; rfl) | rw [HL.out]
end Go.Proofs.Ytkkjbeakmimmmaa
