/- The walk of quorateref17.Inside. -/
import Derived.Test.YtekdnljincbghaaDoorHMsgR1
import Derived.Test.YtekdnljincbghaaDoorHMsgR3
namespace Go.Proofs.YtekdnljincbghaaDoor
open Go Go.RowKit Go.Lib

/-- Bytes of the call's own, made since w. -/
structure AP (w : World) (a : Option Addr) (c : Nat) (xs : List UInt8) (wr : World) : Prop where
  own : OwnB wr a c xs
  mod : Mod [] w wr
  new : ∀ k, k ∈ blk a → w.heap.size ≤ k
section
variable {w wr w' : World} {a a' : Option Addr} {c c' : Nat} {xs ys : List UInt8}
theorem AP.still (h : AP w a c xs wr) (m : Mod [] wr w') : AP w a c xs w' := ⟨OwnB.mod0 h.own m, h.mod.trans' m, h.new⟩
theorem AP.app (h : AP w a c xs wr) (o : OwnB w' a' c' ys) (m : Mod (blk a) wr w') (n : SameOrNew wr w' a a') : AP w a' c' ys w' :=
  ⟨o, h.mod.trans m (fun k hk hl => by have := h.new k hk; omega), fun k hk => by
    rcases n.blk k hk with h1 | h1
    · exact h.new k h1
    · exact Nat.le_trans h.mod.size h1⟩
end
theorem step_le {a b k : Nat} (h1 : a ≤ 20 + 4000000 * k) (h2 : b ≤ 4000000) : a + b ≤ 20 + 4000000 * (k + 1) := by omega
set_option maxRecDepth 100000 in
set_option maxHeartbeats 16000000 in
theorem rinside_any (m : Mm) (w : World) (hs : SeesM w m) (hw : WfM m) (hsm : SmallM m) (hM : MayM m.d) : Calls Tryd.prog 19 #[refV m] w (RetApp w none (insideB m.d)) := by
  have hFB := fieldB_len m hsm
  have hIN : insideB m.d = enc7 m.h.kind ++ (Fl m.h.kind).flatMap (fieldB m.d) := rfl
  obtain ⟨fB, hfB⟩ : ∃ f, fieldB m.d = f := ⟨_, rfl⟩
  have hval : fB 98 = ballB m.h.bn m.h.br ∧ fB 99 = enc7 m.h.commit ∧ fB 102 = enc7 m.h.first ∧ fB 108 = enc7 m.h.last ∧ fB 112 = txL m.p.1 ∧ fB 115 = enc7 m.batches.length ++ (dB m.batches).flatMap txL ∧ fB 118 = enc7 m.votes.length ++ (dV m.votes).flatMap voteB := by
    rw [← hfB]
    refine ⟨rfl, rfl, rfl, rfl, rfl, ?_, ?_⟩
    · show enc7 (dB m.batches).length ++ _ = _
      rw [dB_length]
      rfl
    · show enc7 (dV m.votes).length ++ _ = _
      rw [dV_length]
      rfl
  rw [hfB] at hFB hIN
  rw [hIN]
  have hpl : Place m.h.br := hM.2.2.1
  have hpv : ∀ v ∈ m.votes, 0 ≤ v.1.r := fun v hv => (hM.2.2.2.2.2.2.2.2.2.2.2.2.2.2.place (v.1, v.2.1) (List.mem_map.2 ⟨v, hv, rfl⟩)).1
  have hkn : Known m.h.kind := hM.1
  clear hM hfB hIN
  obtain ⟨⟨kind, bn, br, first, last, commit⟩, vo, vc, votes, so, sc, batches, pl, po, pc⟩ := m
  obtain ⟨rn, rfl⟩ : ∃ rn : Nat, br = (rn : Int) := ⟨br.toNat, by have := hpl.1; dsimp only at this; omega⟩
  have hcb := hw.h
  unfold WfH at hcb
  dsimp only at hcb hval hpv hkn ⊢
  obtain ⟨sv1, sv2, sv3, sv4, sv5⟩ := hsm
  dsimp only at sv1 sv2 sv3 sv4 sv5
  have HWV := Lib.hid (fun v hv => (hw.votes v hv).1)
  dsimp only at HWV
  obtain ⟨w1, hw1, A1, m1⟩ : ∃ x, w.alloc (.cells #[.int .i64 (kind : Int), .int .u64 (bn : Int), .int .i64 (rn : Int), .int .u64 (first : Int), .int .u64 (last : Int), .int .u64 (commit : Int), .slice vo votes.length vc, .slice so batches.length sc, .slice po pl.length pc] 39) = x ∧ x.heap[w.heap.size]? = some (.cells #[.int .i64 (kind : Int), .int .u64 (bn : Int), .int .i64 (rn : Int), .int .u64 (first : Int), .int .u64 (last : Int), .int .u64 (commit : Int), .slice vo votes.length vc, .slice so batches.length sc, .slice po pl.length pc] 39 (0, 0)) ∧ Mod [] w x := ⟨_, rfl, heap_alloc_new w _, Mod.alloc _ _ _⟩
  have hk8 : kind ≤ 8 := hkn.2
  have hk1 : 1 ≤ kind := hkn.1
  have hFi := Fl_in kind (by omega)
  have hFn := Fl_len kind
  have HFI := Lib.hid (fields17_any kind)
  obtain ⟨Fs, hFs⟩ : ∃ l, Fl kind = l := ⟨_, rfl⟩
  rw [hFs] at HFI hFi hFn ⊢
  have HA := Lib.hid A1
  have M1 := Lib.hid m1
  have HS := Lib.hid hs
  have HVAL := Lib.hid hval
  have HPV := Lib.hid hpv
  have SV2 := Lib.hid sv2
  have SV4 := Lib.hid sv4
  have e8 : IntKind.u8.wrap (kind : Int) = (kind : Int) := IntWalk.u8_in _ (by omega)
  have c0 := cell_of_block (i := 0) A1
  simp only [List.getElem?_toArray, List.getElem?_cons_zero] at c0
  clear hs hw A1 m1 hFs hval hpv sv2 sv4 hpl hkn
  unfold refV mC
  dsimp only
  go_enter Tryd.func19, Tryd.ntmps19
  go_upto_region 2 with (fail)
  have e7 : enc7 kind = [UInt8.ofNat kind] := by
    show encF (9 + 1) kind = _
    rw [encF, if_pos (by omega)]
  have mk := Mod.alloc [] w1 (.cells #[.int .u8 (kind : Int)] 5)
  have hk := heap_alloc_new w1 (.cells #[.int .u8 (kind : Int)] 5)
  obtain ⟨w2, hw2⟩ : ∃ x, w1.alloc (.cells #[.int .u8 (kind : Int)] 5) = x := ⟨_, rfl⟩
  rw [hw2] at mk hk ⊢
  have P2 : Hid (AP w1 (some ⟨w1.heap.size, 0, none⟩) 1 (enc7 kind) w2) := Lib.hid (by
    rw [e7]
    refine ⟨OwnB.lit1 hk (UInt8.ofNat kind) (by rw [UInt8.toNat_ofNat']; omega) (.inl rfl), mk, fun k h => by simp [blk] at h; omega⟩)
  have HL2 : Hid ((enc7 kind).length = 1) := Lib.hid (by rw [e7]; rfl)
  have c0 := cell_of_block (i := 0) (mk.get HA.out List.not_mem_nil)
  simp only [List.getElem?_toArray, List.getElem?_cons_zero] at c0
  clear mk hk hw2 hw1 e7 e8
  have HF2 := Lib.hid (HFI.out w2)
  go_wp2_with fail
  refine HF2.out.mono ?_
  rintro e w3 ⟨rfl, he⟩
  subst he
  have hsz : (⟨Fs.toArray⟩ : ByteArray).size = Fs.length := by show Fs.toArray.size = _; simp
  clear HF2 c0
  go_wp2_with fail
  go_loopw [3, 5] (fun s3 s5 wr => ∃ (k : Nat) (a : Option Addr) (kk c : Nat), k ≤ Fs.length ∧ s5 = .int .i64 (k : Int) ∧ s3 = .slice a kk c ∧ (enc7 kind ++ (Fs.take k).flatMap fB).length = kk ∧ kk ≤ 20 + 4000000 * k ∧ AP w1 a c (enc7 kind ++ (Fs.take k).flatMap fB) wr) (fun _ s5 _ => Fs.length - (intOf s5).toNat)
  case atStart => exact ⟨0, _, 1, 1, Nat.zero_le _, rfl, rfl, by simpa using HL2.out, by omega, by simpa using P2.out⟩
  case round =>
    obtain ⟨k, a, kk, c, hk, rfl, rfl, hkk, hkb, hp⟩ := hrel
    rename World => wr
    have P := Lib.hid hp
    have HKK := Lib.hid hkk
    clear hp hkk P2 HL2
    by_cases hlt : k < Fs.length
    case neg =>
      have hke : k = Fs.length := by omega
      subst hke
      rw [List.take_length] at P HKK
      go_wp2_with fail
      go_ret
      refine ⟨a, kk, c, rfl, HKK.out, P.out.own, M1.out.trans' P.out.mod, ?_⟩
      obtain ⟨g, rfl, hg⟩ := Own.ne_none P.out.own (by have := (enc7_length kind).1; rw [List.length_append]; omega)
      exact .inr ⟨g, rfl, by have := P.out.new g (by simp [blk]); have := M1.out.size; omega, hg⟩
    have hlt2 : (k : Int) < (Fs.length : Int) := by omega
    have hE := flat_take fB Fs k hlt
    have hci := hFi _ (List.getElem_mem hlt)
    have hs : k < (⟨Fs.toArray⟩ : ByteArray).size := by rw [hsz]; exact hlt
    have hbx : (⟨Fs.toArray⟩ : ByteArray)[k] = Fs[k] := rfl
    obtain ⟨ch, hch⟩ : ∃ x, Fs[k] = x := ⟨_, rfl⟩
    rw [hch] at hE hci hbx
    have hE : enc7 kind ++ (Fs.take (k + 1)).flatMap fB = enc7 kind ++ (Fs.take k).flatMap fB ++ fB ch := by rw [hE, List.append_assoc]
    have HBr := Lib.hid (P.out.mod.get HA.out List.not_mem_nil)
    have HS1 : Hid (SeesM wr _) := Lib.hid (HS.out.mod0 (M1.out.trans' P.out.mod))
    clear hch
    have hkb2 : kk ≤ 100000000 := by omega
    obtain ⟨v98, v99, v102, v108, v112, v115, v118⟩ := HVAL.out
    rcases hci with rfl | rfl | rfl | rfl | rfl | rfl | rfl
    · have hE2 : enc7 kind ++ (Fs.take (k + 1)).flatMap fB = enc7 kind ++ (Fs.take k).flatMap fB ++ fB 98 := hE
      have hb2 : (⟨Fs.toArray⟩ : ByteArray)[k] = 98 := hbx
      have hfl := hFB 98
      have HE := Lib.hid hE2
      have b1 := cell_of_block (i := 1) HBr.out
      have b2 := cell_of_block (i := 2) HBr.out
      simp only [List.getElem?_toArray, List.getElem?_cons_succ, List.getElem?_cons_zero] at b1 b2
      have HC : Hid (Calls Tryd.prog 35 #[ballot bn (rn : Int)] wr (RetApp wr none (fB 98))) := Lib.hid (by rw [v98]; unfold ballB; rw [Int.toNat_natCast]; exact refBytes_any bn rn wr (by omega) (by omega))
      clear hE hE2 hbx
      go_wp2_with fail
      refine HC.out.mono ?_
      rintro e w5 ⟨a5, n5, c5, rfl, k5, o5, m5, s5⟩
      have P5 := Lib.hid (P.out.still m5)
      have S5 := Lib.hid o5.sees
      have HK5 := Lib.hid k5
      have hn5 : n5 ≤ 4000000 := by rw [← k5]; exact hfl
      have hbn : kk + n5 ≤ 140737488355328 := by omega
      have hb6 : kk + n5 ≤ 20 + 4000000 * (k + 1) := step_le hkb hn5
      clear k5 o5 m5 s5 HC
      go_wp2_with (first | (at_builtin; refine wpl_app8 (dst := some 30) _ _ a kk c _ rfl HKK.out P5.out.own a5 n5 c5 _ rfl HK5.out S5.out hbn ?_) | fail)
      intro a6 c6 w6 o6 m6 s6
      have P6 : Hid (AP w1 a6 c6 (enc7 kind ++ (Fs.take (k + 1)).flatMap fB) w6) := Lib.hid (by rw [HE.out]; exact P5.out.app o6 m6 s6)
      have HK6 : Hid ((enc7 kind ++ (Fs.take (k + 1)).flatMap fB).length = kk + n5) := Lib.hid (by rw [HE.out, List.length_append, HKK.out, HK5.out])
      clear o6 m6 s6 P5
      go_wp2_with fail
      go_roundw
      case rel => exact ⟨k + 1, a6, kk + n5, c6, by omega, by go_num, by first | rfl | (congr 1; omega), HK6.out, hb6, P6.out⟩
      case measure => simp [intOf]; omega
    · have hE2 : enc7 kind ++ (Fs.take (k + 1)).flatMap fB = enc7 kind ++ (Fs.take k).flatMap fB ++ fB 99 := hE
      have hb2 : (⟨Fs.toArray⟩ : ByteArray)[k] = 99 := hbx
      have hfl := hFB 99
      have HE := Lib.hid hE2
      have b5 := cell_of_block (i := 5) HBr.out
      simp only [List.getElem?_toArray, List.getElem?_cons_succ, List.getElem?_cons_zero] at b5
      have HC : Hid (Calls Tryd.prog 36 #[.int .u64 (commit : Int)] wr (RetApp wr none (fB 99))) := Lib.hid (by rw [v99]; exact refUint_any commit wr (by omega))
      clear hE hE2 hbx
      go_wp2_with fail
      refine HC.out.mono ?_
      rintro e w5 ⟨a5, n5, c5, rfl, k5, o5, m5, s5⟩
      have P5 := Lib.hid (P.out.still m5)
      have S5 := Lib.hid o5.sees
      have HK5 := Lib.hid k5
      have hn5 : n5 ≤ 4000000 := by rw [← k5]; exact hfl
      have hbn : kk + n5 ≤ 140737488355328 := by omega
      have hb6 : kk + n5 ≤ 20 + 4000000 * (k + 1) := step_le hkb hn5
      clear k5 o5 m5 s5 HC
      go_wp2_with (first | (at_builtin; refine wpl_app8 (dst := some 37) _ _ a kk c _ rfl HKK.out P5.out.own a5 n5 c5 _ rfl HK5.out S5.out hbn ?_) | fail)
      intro a6 c6 w6 o6 m6 s6
      have P6 : Hid (AP w1 a6 c6 (enc7 kind ++ (Fs.take (k + 1)).flatMap fB) w6) := Lib.hid (by rw [HE.out]; exact P5.out.app o6 m6 s6)
      have HK6 : Hid ((enc7 kind ++ (Fs.take (k + 1)).flatMap fB).length = kk + n5) := Lib.hid (by rw [HE.out, List.length_append, HKK.out, HK5.out])
      clear o6 m6 s6 P5
      go_wp2_with fail
      go_roundw
      case rel => exact ⟨k + 1, a6, kk + n5, c6, by omega, by go_num, by first | rfl | (congr 1; omega), HK6.out, hb6, P6.out⟩
      case measure => simp [intOf]; omega
    · have hE2 : enc7 kind ++ (Fs.take (k + 1)).flatMap fB = enc7 kind ++ (Fs.take k).flatMap fB ++ fB 102 := hE
      have hb2 : (⟨Fs.toArray⟩ : ByteArray)[k] = 102 := hbx
      have hfl := hFB 102
      have HE := Lib.hid hE2
      have b3 := cell_of_block (i := 3) HBr.out
      simp only [List.getElem?_toArray, List.getElem?_cons_succ, List.getElem?_cons_zero] at b3
      have HC : Hid (Calls Tryd.prog 36 #[.int .u64 (first : Int)] wr (RetApp wr none (fB 102))) := Lib.hid (by rw [v102]; exact refUint_any first wr (by omega))
      clear hE hE2 hbx
      go_wp2_with fail
      refine HC.out.mono ?_
      rintro e w5 ⟨a5, n5, c5, rfl, k5, o5, m5, s5⟩
      have P5 := Lib.hid (P.out.still m5)
      have S5 := Lib.hid o5.sees
      have HK5 := Lib.hid k5
      have hn5 : n5 ≤ 4000000 := by rw [← k5]; exact hfl
      have hbn : kk + n5 ≤ 140737488355328 := by omega
      have hb6 : kk + n5 ≤ 20 + 4000000 * (k + 1) := step_le hkb hn5
      clear k5 o5 m5 s5 HC
      go_wp2_with (first | (at_builtin; refine wpl_app8 (dst := some 44) _ _ a kk c _ rfl HKK.out P5.out.own a5 n5 c5 _ rfl HK5.out S5.out hbn ?_) | fail)
      intro a6 c6 w6 o6 m6 s6
      have P6 : Hid (AP w1 a6 c6 (enc7 kind ++ (Fs.take (k + 1)).flatMap fB) w6) := Lib.hid (by rw [HE.out]; exact P5.out.app o6 m6 s6)
      have HK6 : Hid ((enc7 kind ++ (Fs.take (k + 1)).flatMap fB).length = kk + n5) := Lib.hid (by rw [HE.out, List.length_append, HKK.out, HK5.out])
      clear o6 m6 s6 P5
      go_wp2_with fail
      go_roundw
      case rel => exact ⟨k + 1, a6, kk + n5, c6, by omega, by go_num, by first | rfl | (congr 1; omega), HK6.out, hb6, P6.out⟩
      case measure => simp [intOf]; omega
    · have hE2 : enc7 kind ++ (Fs.take (k + 1)).flatMap fB = enc7 kind ++ (Fs.take k).flatMap fB ++ fB 108 := hE
      have hb2 : (⟨Fs.toArray⟩ : ByteArray)[k] = 108 := hbx
      have hfl := hFB 108
      have HE := Lib.hid hE2
      have b4 := cell_of_block (i := 4) HBr.out
      simp only [List.getElem?_toArray, List.getElem?_cons_succ, List.getElem?_cons_zero] at b4
      have HC : Hid (Calls Tryd.prog 36 #[.int .u64 (last : Int)] wr (RetApp wr none (fB 108))) := Lib.hid (by rw [v108]; exact refUint_any last wr (by omega))
      clear hE hE2 hbx
      go_wp2_with fail
      refine HC.out.mono ?_
      rintro e w5 ⟨a5, n5, c5, rfl, k5, o5, m5, s5⟩
      have P5 := Lib.hid (P.out.still m5)
      have S5 := Lib.hid o5.sees
      have HK5 := Lib.hid k5
      have hn5 : n5 ≤ 4000000 := by rw [← k5]; exact hfl
      have hbn : kk + n5 ≤ 140737488355328 := by omega
      have hb6 : kk + n5 ≤ 20 + 4000000 * (k + 1) := step_le hkb hn5
      clear k5 o5 m5 s5 HC
      go_wp2_with (first | (at_builtin; refine wpl_app8 (dst := some 51) _ _ a kk c _ rfl HKK.out P5.out.own a5 n5 c5 _ rfl HK5.out S5.out hbn ?_) | fail)
      intro a6 c6 w6 o6 m6 s6
      have P6 : Hid (AP w1 a6 c6 (enc7 kind ++ (Fs.take (k + 1)).flatMap fB) w6) := Lib.hid (by rw [HE.out]; exact P5.out.app o6 m6 s6)
      have HK6 : Hid ((enc7 kind ++ (Fs.take (k + 1)).flatMap fB).length = kk + n5) := Lib.hid (by rw [HE.out, List.length_append, HKK.out, HK5.out])
      clear o6 m6 s6 P5
      go_wp2_with fail
      go_roundw
      case rel => exact ⟨k + 1, a6, kk + n5, c6, by omega, by go_num, by first | rfl | (congr 1; omega), HK6.out, hb6, P6.out⟩
      case measure => simp [intOf]; omega
    · have hE2 : enc7 kind ++ (Fs.take (k + 1)).flatMap fB = enc7 kind ++ (Fs.take k).flatMap fB ++ fB 112 := hE
      have hb2 : (⟨Fs.toArray⟩ : ByteArray)[k] = 112 := hbx
      have hfl := hFB 112
      have HE := Lib.hid hE2
      have b8 := cell_of_block (i := 8) HBr.out
      simp only [List.getElem?_toArray, List.getElem?_cons_succ, List.getElem?_cons_zero] at b8
      have HC : Hid (Calls Tryd.prog 37 #[.slice po pl.length pc] wr (RetApp wr none (fB 112))) := Lib.hid (by rw [v112]; exact rtext17_any po pl.length pc pl wr rfl HS1.out.snap (by omega))
      clear hE hE2 hbx
      go_wp2_with fail
      refine HC.out.mono ?_
      rintro e w5 ⟨a5, n5, c5, rfl, k5, o5, m5, s5⟩
      have P5 := Lib.hid (P.out.still m5)
      have S5 := Lib.hid o5.sees
      have HK5 := Lib.hid k5
      have hn5 : n5 ≤ 4000000 := by rw [← k5]; exact hfl
      have hbn : kk + n5 ≤ 140737488355328 := by omega
      have hb6 : kk + n5 ≤ 20 + 4000000 * (k + 1) := step_le hkb hn5
      clear k5 o5 m5 s5 HC
      go_wp2_with (first | (at_builtin; refine wpl_app8 (dst := some 58) _ _ a kk c _ rfl HKK.out P5.out.own a5 n5 c5 _ rfl HK5.out S5.out hbn ?_) | fail)
      intro a6 c6 w6 o6 m6 s6
      have P6 : Hid (AP w1 a6 c6 (enc7 kind ++ (Fs.take (k + 1)).flatMap fB) w6) := Lib.hid (by rw [HE.out]; exact P5.out.app o6 m6 s6)
      have HK6 : Hid ((enc7 kind ++ (Fs.take (k + 1)).flatMap fB).length = kk + n5) := Lib.hid (by rw [HE.out, List.length_append, HKK.out, HK5.out])
      clear o6 m6 s6 P5
      go_wp2_with fail
      go_roundw
      case rel => exact ⟨k + 1, a6, kk + n5, c6, by omega, by go_num, by first | rfl | (congr 1; omega), HK6.out, hb6, P6.out⟩
      case measure => simp [intOf]; omega
    · have hE2 : enc7 kind ++ (Fs.take (k + 1)).flatMap fB = enc7 kind ++ (Fs.take k).flatMap fB ++ fB 115 := hE
      have hb2 : (⟨Fs.toArray⟩ : ByteArray)[k] = 115 := hbx
      have hfl := hFB 115
      have HE := Lib.hid hE2
      have HFL := Lib.hid hfl
      have HV := Lib.hid v115
      have b7 := cell_of_block (i := 7) HBr.out
      simp only [List.getElem?_toArray, List.getElem?_cons_succ, List.getElem?_cons_zero] at b7
      have eu : IntKind.u64.wrap (batches.length : Int) = (batches.length : Int) := IntWalk.u64_in _ (by omega)
      have HC := Lib.hid (refUint_any batches.length wr (by omega))
      clear hE hE2 hbx hfl v98 v99 v102 v108 v112 v115 v118
      go_wp2_with fail
      refine HC.out.mono ?_
      rintro e w5 ⟨a5, n5, c5, rfl, k5, o5, m5, s5⟩
      have P5 := Lib.hid (P.out.still m5)
      have S5 := Lib.hid o5.sees
      have HK5 := Lib.hid k5
      have HBr5 := Lib.hid (m5.get HBr.out (by simp [blk]))
      have hn5 : n5 ≤ 11 := by rw [← k5]; have := (enc7_length batches.length).2; omega
      have hbn : kk + n5 ≤ 140737488355328 := by omega
      clear k5 o5 m5 s5 HC
      go_wp2_with (first | (at_builtin; refine wpl_app8 (dst := some 67) _ _ a kk c _ rfl HKK.out P5.out.own a5 n5 c5 _ rfl HK5.out S5.out hbn ?_) | fail)
      intro a6 c6 w6 o6 m6 s6
      have P6 := Lib.hid (P5.out.app o6 m6 s6)
      have HK6 : Hid ((enc7 kind ++ (Fs.take k).flatMap fB ++ enc7 batches.length).length = kk + n5) := Lib.hid (by rw [List.length_append, HKK.out, HK5.out])
      obtain ⟨X0, hX0⟩ : ∃ x, enc7 kind ++ (Fs.take k).flatMap fB ++ enc7 batches.length = x := ⟨_, rfl⟩
      rw [hX0] at P6 HK6
      have HX0 := Lib.hid hX0
      obtain ⟨k6, hk6⟩ : ∃ x, kk + n5 = x := ⟨_, rfl⟩
      have hk6b : k6 ≤ 100000011 := by omega
      rw [hk6] at HK6 ⊢
      clear o6 m6 s6 P5 HBr5 hX0 hk6 eu b7 HBr HS1
      go_wp2_with fail
      go_loopw [3, 6] (fun s3 s6 wq => ∃ (j : Nat) (aj : Option Addr) (kj cj : Nat), j ≤ batches.length ∧ s6 = .int .i64 (j : Int) ∧ s3 = .slice aj kj cj ∧ (X0 ++ ((dB batches).take j).flatMap txL).length = kj ∧ kj ≤ k6 + 11000 * j ∧ AP w1 aj cj (X0 ++ ((dB batches).take j).flatMap txL) wq) (fun _ s6 _ => batches.length - (intOf s6).toNat)
      case atStart => exact ⟨0, a6, k6, c6, Nat.zero_le _, rfl, rfl, by simpa using HK6.out, by omega, by simpa using P6.out⟩
      case round =>
        obtain ⟨j, aj, kj, cj, hj, rfl, rfl, hkj, hkjb, hpj⟩ := hrel
        rename World => wq
        have PJ := Lib.hid hpj
        have HKJ := Lib.hid hkj
        have HBq := Lib.hid (hpj.mod.get HA.out List.not_mem_nil)
        clear hkj hpj P6 HK6
        have b7 := cell_of_block (i := 7) HBq.out
        simp only [List.getElem?_toArray, List.getElem?_cons_succ, List.getElem?_cons_zero] at b7
        by_cases hjl : j < batches.length
        case neg =>
          have hje : j = batches.length := by omega
          subst hje
          rw [List.take_of_length_le (by rw [dB_length]; exact Nat.le_refl _)] at PJ HKJ
          have HE9 : Hid (enc7 kind ++ (Fs.take (k + 1)).flatMap fB = X0 ++ (dB batches).flatMap txL) := Lib.hid (by rw [HE.out, HV.out, ← HX0.out, List.append_assoc, List.append_assoc, List.append_assoc])
          have hk9 : kj ≤ 20 + 4000000 * (k + 1) := by
            rw [← HKJ.out, ← HE9.out, HE.out, List.length_append, HKK.out]
            exact step_le hkb HFL.out
          rw [← HE9.out] at PJ HKJ
          go_wp2_with fail
          go_roundw
          case rel => exact ⟨k + 1, aj, kj, cj, by omega, by go_num, rfl, HKJ.out, hk9, PJ.out⟩
          case measure => simp [intOf]; omega
        have hjl2 : (j : Int) < (batches.length : Int) := by omega
        obtain ⟨b, off, rfl, hc⟩ := HS.out.batches.batch hjl
        obtain ⟨p0, p1⟩ := hc wq (M1.out.trans' PJ.out.mod)
        have hz := SV4.out _ (List.getElem_mem hjl)
        have hft := flat_take txL (dB batches) j (by rw [dB_length]; exact hjl)
        rw [dB_get batches j hjl] at hft
        obtain ⟨⟨l, xo, xc⟩, hx⟩ : ∃ x, batches[j] = x := ⟨_, rfl⟩
        rw [hx] at p0 p1 hz hft
        dsimp only at p0 p1 hz hft
        have HFT := Lib.hid hft
        have HC := Lib.hid (rtext17_any xo l.length xc l wq rfl p1 (by omega))
        clear hc hx hft p1
        go_wp2_with fail
        refine HC.out.mono ?_
        rintro e w7 ⟨a7, n7, c7, rfl, k7, o7, m7, s7⟩
        have P7 := Lib.hid (PJ.out.still m7)
        have S7 := Lib.hid o7.sees
        have HK7 := Lib.hid k7
        have hn7 : n7 ≤ 11000 := by rw [← k7]; have := txL_len l; omega
        have hbn7 : kj + n7 ≤ 140737488355328 := by omega
        have hb7 : kj + n7 ≤ k6 + 11000 * (j + 1) := by omega
        clear k7 o7 m7 s7 HC p0
        go_wp2_with (first | (at_builtin; refine wpl_app8 (dst := some 82) _ _ aj kj cj _ rfl HKJ.out P7.out.own a7 n7 c7 _ rfl HK7.out S7.out hbn7 ?_) | fail)
        intro a8 c8 w8 o8 m8 s8
        have hE8 : X0 ++ ((dB batches).take (j + 1)).flatMap txL = X0 ++ ((dB batches).take j).flatMap txL ++ txL l := by rw [HFT.out, List.append_assoc]
        have P8 : Hid (AP w1 a8 c8 (X0 ++ ((dB batches).take (j + 1)).flatMap txL) w8) := Lib.hid (by rw [hE8]; exact P7.out.app o8 m8 s8)
        have HK8 : Hid ((X0 ++ ((dB batches).take (j + 1)).flatMap txL).length = kj + n7) := Lib.hid (by rw [hE8, List.length_append, HKJ.out, HK7.out])
        clear o8 m8 s8 P7 hE8
        go_wp2_with fail
        go_roundw
        case rel => exact ⟨j + 1, a8, kj + n7, c8, by omega, by go_num, rfl, HK8.out, hb7, P8.out⟩
        case measure => simp [intOf]; omega
    · have hE2 : enc7 kind ++ (Fs.take (k + 1)).flatMap fB = enc7 kind ++ (Fs.take k).flatMap fB ++ fB 118 := hE
      have hb2 : (⟨Fs.toArray⟩ : ByteArray)[k] = 118 := hbx
      have hfl := hFB 118
      have HE := Lib.hid hE2
      have HFL := Lib.hid hfl
      have HV := Lib.hid v118
      have b6 := cell_of_block (i := 6) HBr.out
      simp only [List.getElem?_toArray, List.getElem?_cons_succ, List.getElem?_cons_zero] at b6
      have eu : IntKind.u64.wrap (votes.length : Int) = (votes.length : Int) := IntWalk.u64_in _ (by omega)
      have HC := Lib.hid (refUint_any votes.length wr (by omega))
      clear hE hE2 hbx hfl v98 v99 v102 v108 v112 v115 v118
      go_wp2_with fail
      refine HC.out.mono ?_
      rintro e w5 ⟨a5, n5, c5, rfl, k5, o5, m5, s5⟩
      have P5 := Lib.hid (P.out.still m5)
      have S5 := Lib.hid o5.sees
      have HK5 := Lib.hid k5
      have HBr5 := Lib.hid (m5.get HBr.out (by simp [blk]))
      have hn5 : n5 ≤ 11 := by rw [← k5]; have := (enc7_length votes.length).2; omega
      have hbn : kk + n5 ≤ 140737488355328 := by omega
      clear k5 o5 m5 s5 HC
      go_wp2_with (first | (at_builtin; refine wpl_app8 (dst := some 91) _ _ a kk c _ rfl HKK.out P5.out.own a5 n5 c5 _ rfl HK5.out S5.out hbn ?_) | fail)
      intro a6 c6 w6 o6 m6 s6
      have P6 := Lib.hid (P5.out.app o6 m6 s6)
      have HK6 : Hid ((enc7 kind ++ (Fs.take k).flatMap fB ++ enc7 votes.length).length = kk + n5) := Lib.hid (by rw [List.length_append, HKK.out, HK5.out])
      obtain ⟨X0, hX0⟩ : ∃ x, enc7 kind ++ (Fs.take k).flatMap fB ++ enc7 votes.length = x := ⟨_, rfl⟩
      rw [hX0] at P6 HK6
      have HX0 := Lib.hid hX0
      obtain ⟨k6, hk6⟩ : ∃ x, kk + n5 = x := ⟨_, rfl⟩
      have hk6b : k6 ≤ 100000011 := by omega
      rw [hk6] at HK6 ⊢
      clear o6 m6 s6 P5 HBr5 hX0 hk6 eu b6 HBr HS1
      go_wp2_with fail
      go_loopw [3, 7] (fun s3 s6 wq => ∃ (j : Nat) (aj : Option Addr) (kj cj : Nat), j ≤ votes.length ∧ s6 = .int .i64 (j : Int) ∧ s3 = .slice aj kj cj ∧ (X0 ++ ((dV votes).take j).flatMap voteB).length = kj ∧ kj ≤ k6 + 11000 * j ∧ AP w1 aj cj (X0 ++ ((dV votes).take j).flatMap voteB) wq) (fun _ s6 _ => votes.length - (intOf s6).toNat)
      case atStart => exact ⟨0, a6, k6, c6, Nat.zero_le _, rfl, rfl, by simpa using HK6.out, by omega, by simpa using P6.out⟩
      case round =>
        obtain ⟨j, aj, kj, cj, hj, rfl, rfl, hkj, hkjb, hpj⟩ := hrel
        rename World => wq
        have PJ := Lib.hid hpj
        have HKJ := Lib.hid hkj
        have HBq := Lib.hid (hpj.mod.get HA.out List.not_mem_nil)
        clear hkj hpj P6 HK6
        have b6 := cell_of_block (i := 6) HBq.out
        simp only [List.getElem?_toArray, List.getElem?_cons_succ, List.getElem?_cons_zero] at b6
        by_cases hjl : j < votes.length
        case neg =>
          have hje : j = votes.length := by omega
          subst hje
          rw [List.take_of_length_le (by rw [dV_length]; exact Nat.le_refl _)] at PJ HKJ
          have HE9 : Hid (enc7 kind ++ (Fs.take (k + 1)).flatMap fB = X0 ++ (dV votes).flatMap voteB) := Lib.hid (by rw [HE.out, HV.out, ← HX0.out, List.append_assoc, List.append_assoc, List.append_assoc])
          have hk9 : kj ≤ 20 + 4000000 * (k + 1) := by
            rw [← HKJ.out, ← HE9.out, HE.out, List.length_append, HKK.out]
            exact step_le hkb HFL.out
          rw [← HE9.out] at PJ HKJ
          go_wp2_with fail
          go_roundw
          case rel => exact ⟨k + 1, aj, kj, cj, by omega, by go_num, rfl, HKJ.out, hk9, PJ.out⟩
          case measure => simp [intOf]; omega
        have hjl2 : (j : Int) < (votes.length : Int) := by omega
        obtain ⟨b, off, rfl, hc⟩ := HS.out.votes.vote hjl
        obtain ⟨p0, p1, p2, p3, px⟩ := hc wq (M1.out.trans' PJ.out.mod)
        have hz := SV2.out _ (List.getElem_mem hjl)
        have hwv := HWV.out _ (List.getElem_mem hjl)
        have hrr := HPV.out _ (List.getElem_mem hjl)
        have hft := flat_take voteB (dV votes) j (by rw [dV_length]; exact hjl)
        rw [dV_get votes j hjl] at hft
        obtain ⟨⟨⟨sl, nn, r⟩, l, xo, xc⟩, hx⟩ : ∃ x, votes[j] = x := ⟨_, rfl⟩
        have HVJ := Lib.hid (hc)
        rw [hx] at p0 p1 p2 p3 px hz hft hwv hrr HVJ
        unfold WfV at hwv
        dsimp only at p0 p1 p2 p3 px hz hft hwv hrr HVJ
        obtain ⟨rr, rfl⟩ : ∃ rr : Nat, r = (rr : Int) := ⟨r.toNat, by omega⟩
        have HFT := Lib.hid hft
        clear hc hx hft px p1 p2 p3
        have HC := Lib.hid (refUint_any sl wq (by omega))
        go_wp2_with fail
        refine HC.out.mono ?_
        rintro e w7 ⟨a7, n7, c7, rfl, k7, o7, m7, s7⟩
        have P7 := Lib.hid (PJ.out.still m7)
        have S7 := Lib.hid o7.sees
        have HK7 := Lib.hid k7
        have hn7 : n7 ≤ 11 := by rw [← k7]; have := (enc7_length sl).2; omega
        have hbn7 : kj + n7 ≤ 140737488355328 := by omega
        clear k7 o7 m7 s7 HC
        go_wp2_with (first | (at_builtin; refine wpl_app8 (dst := some 107) _ _ aj kj cj _ rfl HKJ.out P7.out.own a7 n7 c7 _ rfl HK7.out S7.out hbn7 ?_) | fail)
        intro a8 c8 w8 o8 m8 s8
        have P8 := Lib.hid (P7.out.app o8 m8 s8)
        have HK8 : Hid (((X0 ++ ((dV votes).take j).flatMap voteB) ++ enc7 sl).length = kj + n7) := Lib.hid (by rw [List.length_append, HKJ.out, HK7.out])
        clear o8 m8 s8 P7
        have HB8 := Lib.hid (P8.out.mod.get HA.out List.not_mem_nil)
        have d6 := cell_of_block (i := 6) HB8.out
        simp only [List.getElem?_toArray, List.getElem?_cons_succ, List.getElem?_cons_zero] at d6
        obtain ⟨q0, q1, q2, q3, qx⟩ := HVJ.out w8 (M1.out.trans' P8.out.mod)
        clear p0 b6 qx q0 q3 HBq
        have HC := Lib.hid (refBytes_any nn rr w8 (by omega) (by omega))
        go_wp2_with fail
        refine HC.out.mono ?_
        rintro e w9 ⟨a9, n9, c9, rfl, k9, o9, m9, s9⟩
        have P9 := Lib.hid (P8.out.still m9)
        have S9 := Lib.hid o9.sees
        have HK9 := Lib.hid k9
        have hn9 : n9 ≤ 22 := by rw [← k9]; have h1 := (enc7_length nn).2; have h2 := (enc7_length rr).2; rw [List.length_append]; omega
        have hbn9 : (kj + n7) + n9 ≤ 140737488355328 := by omega
        clear k9 o9 m9 s9 HC
        go_wp2_with (first | (at_builtin; refine wpl_app8 (dst := some 116) _ _ a8 (kj + n7) c8 _ rfl HK8.out P9.out.own a9 n9 c9 _ rfl HK9.out S9.out hbn9 ?_) | fail)
        intro a10 c10 w10 o10 m10 s10
        have P10 := Lib.hid (P9.out.app o10 m10 s10)
        have HK10 : Hid (((X0 ++ ((dV votes).take j).flatMap voteB ++ enc7 sl) ++ (enc7 nn ++ enc7 rr)).length = (kj + n7) + n9) := Lib.hid (by rw [List.length_append, HK8.out, HK9.out])
        clear o10 m10 s10 P9
        have HB10 := Lib.hid (P10.out.mod.get HA.out List.not_mem_nil)
        have f6 := cell_of_block (i := 6) HB10.out
        simp only [List.getElem?_toArray, List.getElem?_cons_succ, List.getElem?_cons_zero] at f6
        obtain ⟨r0, r1, r2, r3, rx⟩ := HVJ.out w10 (M1.out.trans' P10.out.mod)
        clear d6 q1 q2 r0 r1 r2 HB8
        have HC := Lib.hid (rtext17_any xo l.length xc l w10 rfl rx (by omega))
        go_wp2_with fail
        refine HC.out.mono ?_
        rintro e w11 ⟨a11, n11, c11, rfl, k11, o11, m11, s11⟩
        have P11 := Lib.hid (P10.out.still m11)
        have S11 := Lib.hid o11.sees
        have HK11 := Lib.hid k11
        have hn11 : n11 ≤ 10011 := by rw [← k11]; have := txL_len l; omega
        have hbn11 : (kj + n7 + n9) + n11 ≤ 140737488355328 := by omega
        clear k11 o11 m11 s11 HC
        go_wp2_with (first | (at_builtin; refine wpl_app8 (dst := some 125) _ _ a10 (kj + n7 + n9) c10 _ rfl HK10.out P11.out.own a11 n11 c11 _ rfl HK11.out S11.out hbn11 ?_) | fail)
        intro a12 c12 w12 o12 m12 s12
        have P12 := Lib.hid (P11.out.app o12 m12 s12)
        have HK12 : Hid (((X0 ++ ((dV votes).take j).flatMap voteB ++ enc7 sl ++ (enc7 nn ++ enc7 rr)) ++ txL l).length = (kj + n7 + n9) + n11) := Lib.hid (by rw [List.length_append, HK10.out, HK11.out])
        clear o12 m12 s12 P11
        have hE8 : X0 ++ ((dV votes).take (j + 1)).flatMap voteB = X0 ++ ((dV votes).take j).flatMap voteB ++ enc7 sl ++ (enc7 nn ++ enc7 rr) ++ txL l := by
          rw [HFT.out]
          unfold voteB ballB
          dsimp only
          simp only [List.append_assoc, Int.toNat_natCast]
        rw [← hE8] at P12 HK12
        have hb12 : kj + n7 + n9 + n11 ≤ k6 + 11000 * (j + 1) := by omega
        clear hE8 f6 r3 rx HB10
        go_wp2_with fail
        go_roundw
        case rel => exact ⟨j + 1, a12, kj + n7 + n9 + n11, c12, by omega, by go_num, rfl, HK12.out, hb12, P12.out⟩
        case measure => simp [intOf]; omega
end Go.Proofs.YtekdnljincbghaaDoor
