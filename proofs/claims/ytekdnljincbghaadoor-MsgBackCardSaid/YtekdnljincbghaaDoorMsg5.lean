/- The walk of msg.lay. -/
import Derived.Test.YtekdnljincbghaaDoorMsg4
import Derived.Deep.CutRange
namespace Go.Proofs.YtekdnljincbghaaDoor
open Go Go.RowKit Go.Lib

/-- What the laws' tests let through. -/
structure SmallM (m : Mm) : Prop where
  votes : m.votes.length ≤ 300
  vote : ∀ v ∈ m.votes, v.2.1.length ≤ 10000
  batches : m.batches.length ≤ 300
  batch : ∀ b ∈ m.batches, b.1.length ≤ 10000
  snap : m.p.1.length ≤ 10000
theorem Chain.place : ∀ {l : List (Vd × List UInt8)} {a : Nat}, Chain a l → ∀ v ∈ l, Place v.1.r
  | [], _, _, v, hv => absurd hv (by simp)
  | x :: r, a, h, v, hv => by
    rcases List.mem_cons.1 hv with rfl | hv
    · exact h.2.1
    · exact Chain.place h.2.2 v hv
theorem flat_len {α : Type} (f : α → List UInt8) (b : Nat) : ∀ l : List α, (∀ x ∈ l, (f x).length ≤ b) → (l.flatMap f).length ≤ l.length * b
  | [], _ => by simp
  | x :: r, h => by
    rw [List.flatMap_cons, List.length_append, List.length_cons, Nat.succ_mul]
    have h1 := h x (by simp)
    have h2 := flat_len f b r (fun y hy => h y (by simp [hy]))
    omega
theorem fieldB_len (m : Mm) (h : SmallM m) (c : UInt8) : (fieldB m.d c).length ≤ 4000000 := by
  have e1 := (enc7_length m.h.bn).2
  have e2 := (enc7_length m.h.br.toNat).2
  have e3 := (enc7_length m.h.commit).2
  have e4 := (enc7_length m.h.first).2
  have e5 := (enc7_length m.h.last).2
  have e6 := (enc7_length m.batches.length).2
  have e7 := (enc7_length m.votes.length).2
  have e8 := txL_len m.p.1
  have h8 := h.snap
  have e9 := flat_len txL 10011 (dB m.batches) (fun x hx => by
    obtain ⟨b, hb, rfl⟩ := List.mem_map.1 hx
    have h1 := txL_len b.1
    have h2 := h.batch b hb
    omega)
  have e10 := flat_len voteB 10044 (dV m.votes) (fun x hx => by
    obtain ⟨v, hv, rfl⟩ := List.mem_map.1 hx
    have h1 := voteB_len (v.1, v.2.1)
    have h2 := h.vote v hv
    dsimp only at h1
    omega)
  rw [dB_length] at e9
  rw [dV_length] at e10
  have h9 := h.batches
  have h10 := h.votes
  unfold fieldB Mm.d ballB
  dsimp only
  rw [dB_length, dV_length]
  repeat' split
  all_goals (first | omega | (simp only [List.length_append, List.length_nil]; omega))
theorem Fl_in : ∀ k, k < 256 → ∀ c ∈ Fl k, c = 98 ∨ c = 99 ∨ c = 102 ∨ c = 108 ∨ c = 112 ∨ c = 115 ∨ c = 118 := by decide +kernel
theorem Fl_len : ∀ k, (Fl k).length ≤ 4 := by
  intro k
  unfold Fl
  split <;> simp
set_option maxRecDepth 100000 in
set_option maxHeartbeats 8000000 in
theorem lay_any (ao : Option Addr) (len cap : Nat) (xs : List UInt8) (m : Mm) (W w : World) (hlen : xs.length = len) (hown : OwnB w ao cap xs) (hb : len ≤ 1000) (hW : Mod [] W w) (hd : ∀ k, k ∈ blk ao → W.heap.size ≤ k)
    (hs : SeesM W m) (hw : WfM m) (hsm : SmallM m) (hM : MayM m.d) (hf : Flds W) :
    Calls Tryd.prog 28 #[.slice ao len cap, msgV m] w (RetApp w ao (xs ++ (Fl m.h.kind).flatMap (fieldB m.d))) := by
  have hFB := fieldB_len m hsm
  obtain ⟨fB, hfB⟩ : ∃ f, fieldB m.d = f := ⟨_, rfl⟩
  have hval : fB 98 = ballB m.h.bn m.h.br ∧ fB 99 = enc7 m.h.commit ∧ fB 102 = enc7 m.h.first ∧ fB 108 = enc7 m.h.last ∧ fB 112 = txL m.p.1 ∧ fB 115 = enc7 m.batches.length ++ (dB m.batches).flatMap txL ∧ fB 118 = enc7 m.votes.length ++ (dV m.votes).flatMap voteB := by
    rw [← hfB]
    refine ⟨rfl, rfl, rfl, rfl, rfl, ?_, ?_⟩
    · show enc7 (dB m.batches).length ++ _ = _
      rw [dB_length]
      rfl
    · show enc7 (dV m.votes).length ++ _ = _
      rw [dV_length]
      rfl
  rw [hfB] at hFB ⊢
  have hpl : Place m.h.br := hM.2.2.1
  have hpv : ∀ v ∈ m.votes, 0 ≤ v.1.r := fun v hv => (hM.2.2.2.2.2.2.2.2.2.2.2.2.2.2.place (v.1, v.2.1) (List.mem_map.2 ⟨v, hv, rfl⟩)).1
  have hkn : Known m.h.kind := hM.1
  clear hM hfB
  obtain ⟨⟨kind, bn, br, first, last, commit⟩, vo, vc, votes, so, sc, batches, pl, po, pc⟩ := m
  obtain ⟨rn, rfl⟩ : ∃ rn : Nat, br = (rn : Int) := ⟨br.toNat, by have := hpl.1; dsimp only at this; omega⟩
  have hk9 : kind < 256 := hw.h.1
  have hcb := hw.h
  unfold WfH at hcb
  dsimp only at hcb hval hpv hkn ⊢
  obtain ⟨sv1, sv2, sv3, sv4, sv5⟩ := hsm
  dsimp only at sv1 sv2 sv3 sv4 sv5
  have hvl := hw.vlen
  have hbl := hw.blen
  have HWV := Lib.hid (fun v hv => (hw.votes v hv).1)
  dsimp only at hvl hbl HWV
  have hval' := hval
  obtain ⟨v98, v99, v102, v108, v112, v115, v118⟩ := hval'
  have hlt := Own.lt hown
  have hbk : w.heap.size ∉ blk ao := fun h => by have := hlt _ h; omega
  obtain ⟨w1, hw1, A1, m1⟩ : ∃ x, w.alloc (.cells #[.int .u8 (kind : Int), .int .u64 (bn : Int), .int .i64 (rn : Int), .int .u64 (first : Int), .int .u64 (last : Int), .int .u64 (commit : Int), .slice vo votes.length vc, .slice so batches.length sc, .slice po pl.length pc] 29) = x ∧
    x.heap[w.heap.size]? = some (.cells #[.int .u8 (kind : Int), .int .u64 (bn : Int), .int .i64 (rn : Int), .int .u64 (first : Int), .int .u64 (last : Int), .int .u64 (commit : Int), .slice vo votes.length vc, .slice so batches.length sc, .slice po pl.length pc] 29 (0, 0)) ∧ Mod [] w x := ⟨_, rfl, heap_alloc_new w _, Mod.alloc _ _ _⟩
  have hz1 : w1.heap.size = w.heap.size + 1 := by rw [← hw1]; simp
  have hF := (hf.mod0 (hW.trans' m1))
  have hkk : kind < 9 := by
    rcases Nat.lt_or_ge kind 9 with h | h
    · exact h
    · exact absurd hkn.2 (by omega)
  have f0 := hF kind hkk
  have c0 := cell_of_block (i := 0) A1
  have hk2 : (kind : Int) < 9 := by omega
  have hFi := Fl_in kind hk9
  have hFn := Fl_len kind
  obtain ⟨Fs, hFs⟩ : ∃ l, Fl kind = l := ⟨_, rfl⟩
  rw [hFs] at f0 hFi hFn ⊢
  have P1 := Lib.hid (hown.mod0 m1)
  have HA := Lib.hid A1
  have M1 := Lib.hid m1
  have HS := Lib.hid hs
  have HW := Lib.hid hW
  have HD := Lib.hid hd
  have HXL := Lib.hid hlen
  have HVAL := Lib.hid hval
  have HPV := Lib.hid hpv
  have SV2 := Lib.hid sv2
  have SV4 := Lib.hid sv4
  have HLT := Lib.hid hlt
  clear hown hs hW hd hlen hf hF hw A1 m1 hFs hval hpv sv2 sv4 hpl hlt v98 v99 v102 v108 v112 v115 v118
  unfold msgV mC
  dsimp only
  go_enter Tryd.func28, Tryd.ntmps28
  have hFz : (⟨Fs.toArray⟩ : ByteArray).size ≤ 9223372036854775807 := by
    have h : (⟨Fs.toArray⟩ : ByteArray).size = Fs.length := by show Fs.toArray.size = _; simp
    omega
  go_wp2_with (first | (refine wpl_bytes (dst := some 11) _ ⟨Fs.toArray⟩ rfl hFz (by rfl) ?_) | fail)
  intro g capF w2 oF m2 hg
  have P2 := Lib.hid (PutR.start (P1.out.mod0 m2))
  have HA2 := Lib.hid (m2.get HA.out List.not_mem_nil)
  have M2 := Lib.hid (M1.out.trans' m2)
  have HOF := Lib.hid (show Sees w2 (some ⟨g, 0, none⟩) Fs from oF.sees)
  have hgk : g ∉ blk ao := fun h => by have := HLT.out g h; omega
  clear oF m2 P1 HA M1 hw1 f0 c0 hk2 hFz hg hz1
  go_wp2_with fail
  go_loopw [0, 13] (fun s0 s13 wr => ∃ (k : Nat) (a : Option Addr) (kk c : Nat), k ≤ Fs.length ∧ s13 = .int .i64 (k : Int) ∧ s0 = .slice a kk c ∧ (xs ++ (Fs.take k).flatMap fB).length = kk ∧ kk ≤ len + 4000000 * k ∧ PutR w2 ao a c (xs ++ (Fs.take k).flatMap fB) wr) (fun _ s13 _ => Fs.length - (intOf s13).toNat)
  case atStart => exact ⟨0, ao, len, cap, Nat.zero_le _, rfl, rfl, by simpa using HXL.out, by omega, by simpa using P2.out⟩
  case round =>
    obtain ⟨k, a, kk, c, hk, rfl, rfl, hkk2, hkb, hp⟩ := hrel
    rename World => wr
    have P := Lib.hid hp
    have HKK := Lib.hid hkk2
    clear hp hkk2 P2
    by_cases hlt : k < Fs.length
    case neg =>
      have hke : k = Fs.length := by omega
      subst hke
      rw [List.take_length] at P HKK
      go_wp2_with fail
      go_ret
      exact P.out.ret M2.out HKK.out
    have hlt2 : (k : Int) < (Fs.length : Int) := by omega
    obtain ⟨_, _, e0, p⟩ := (HOF.out.mod P.out.mod (fun b off h => by cases h; exact hgk)) k hlt
    cases e0
    rw [Nat.zero_add] at p
    have hE := flat_take fB Fs k hlt
    have hci := hFi _ (List.getElem_mem hlt)
    obtain ⟨ch, hch⟩ : ∃ x, Fs[k] = x := ⟨_, rfl⟩
    rw [hch] at p hE hci
    have hE : xs ++ (Fs.take (k + 1)).flatMap fB = xs ++ (Fs.take k).flatMap fB ++ fB ch := by rw [hE, List.append_assoc]
    have HBr := Lib.hid (P.out.mod.get HA2.out hbk)
    have HWr : Hid (Mod [] W wr) := Lib.hid (P.out.base (HW.out.trans' M2.out) HD.out)
    clear hch
    have HV := HVAL.out
    obtain ⟨v98, v99, v102, v108, v112, v115, v118⟩ := HV
    have hkb2 : kk ≤ 100000000 := by omega
    rcases hci with rfl | rfl | rfl | rfl | rfl | rfl | rfl
    · have p0 : wr.cell? ⟨g, k, none⟩ = some (.int .u8 98) := p
      have hE2 : xs ++ (Fs.take (k + 1)).flatMap fB = xs ++ (Fs.take k).flatMap fB ++ fB 98 := hE
      have hfl := hFB 98
      have HE := Lib.hid hE2
      clear p hE hE2
      have b1 := cell_of_block (i := 1) HBr.out
      have b2 := cell_of_block (i := 2) HBr.out
      have HC : Hid (Calls Tryd.prog 50 #[.slice a kk c, ballot bn (rn : Int)] wr (RetApp wr a (xs ++ (Fs.take k).flatMap fB ++ fB 98))) := Lib.hid (by rw [v98]; have h := put_any a kk c bn rn _ wr HKK.out P.out.own (by omega) (by omega) (by omega); unfold ballB; rw [Int.toNat_natCast, ← List.append_assoc]; exact h)
      go_wp2_with fail
      refine HC.out.mono ?_
      rintro e w5 ⟨a2, n2, c2, rfl, k2, o2, m2, s2⟩
      rw [← HE.out] at k2 o2
      have P5 := Lib.hid (P.out.step o2 m2 s2)
      have hb5 : n2 ≤ len + 4000000 * (k + 1) := by rw [← k2, HE.out, List.length_append, HKK.out]; omega
      have HK5 := Lib.hid k2
      clear k2 o2 m2 s2 HC
      go_wp2_with fail
      go_roundw
      case rel => exact ⟨k + 1, a2, n2, c2, by omega, by go_num, rfl, HK5.out, hb5, P5.out⟩
      case measure => simp [intOf]; omega
    · have p0 : wr.cell? ⟨g, k, none⟩ = some (.int .u8 99) := p
      have hE2 : xs ++ (Fs.take (k + 1)).flatMap fB = xs ++ (Fs.take k).flatMap fB ++ fB 99 := hE
      have hfl := hFB 99
      have HE := Lib.hid hE2
      clear p hE hE2
      have b5 := cell_of_block (i := 5) HBr.out
      have HC : Hid (Calls Tryd.prog 29 #[.slice a kk c, .int .u64 (commit : Int)] wr (RetApp wr a (xs ++ (Fs.take k).flatMap fB ++ fB 99))) := Lib.hid (by rw [v99]; exact vuint_any a kk c commit _ wr HKK.out P.out.own (by omega) (by omega))
      go_wp2_with fail
      refine HC.out.mono ?_
      rintro e w5 ⟨a2, n2, c2, rfl, k2, o2, m2, s2⟩
      rw [← HE.out] at k2 o2
      have P5 := Lib.hid (P.out.step o2 m2 s2)
      have hb5 : n2 ≤ len + 4000000 * (k + 1) := by rw [← k2, HE.out, List.length_append, HKK.out]; omega
      have HK5 := Lib.hid k2
      clear k2 o2 m2 s2 HC
      go_wp2_with fail
      go_roundw
      case rel => exact ⟨k + 1, a2, n2, c2, by omega, by go_num, rfl, HK5.out, hb5, P5.out⟩
      case measure => simp [intOf]; omega
    · have p0 : wr.cell? ⟨g, k, none⟩ = some (.int .u8 102) := p
      have hE2 : xs ++ (Fs.take (k + 1)).flatMap fB = xs ++ (Fs.take k).flatMap fB ++ fB 102 := hE
      have hfl := hFB 102
      have HE := Lib.hid hE2
      clear p hE hE2
      have b3 := cell_of_block (i := 3) HBr.out
      have HC : Hid (Calls Tryd.prog 29 #[.slice a kk c, .int .u64 (first : Int)] wr (RetApp wr a (xs ++ (Fs.take k).flatMap fB ++ fB 102))) := Lib.hid (by rw [v102]; exact vuint_any a kk c first _ wr HKK.out P.out.own (by omega) (by omega))
      go_wp2_with fail
      refine HC.out.mono ?_
      rintro e w5 ⟨a2, n2, c2, rfl, k2, o2, m2, s2⟩
      rw [← HE.out] at k2 o2
      have P5 := Lib.hid (P.out.step o2 m2 s2)
      have hb5 : n2 ≤ len + 4000000 * (k + 1) := by rw [← k2, HE.out, List.length_append, HKK.out]; omega
      have HK5 := Lib.hid k2
      clear k2 o2 m2 s2 HC
      go_wp2_with fail
      go_roundw
      case rel => exact ⟨k + 1, a2, n2, c2, by omega, by go_num, rfl, HK5.out, hb5, P5.out⟩
      case measure => simp [intOf]; omega
    · have p0 : wr.cell? ⟨g, k, none⟩ = some (.int .u8 108) := p
      have hE2 : xs ++ (Fs.take (k + 1)).flatMap fB = xs ++ (Fs.take k).flatMap fB ++ fB 108 := hE
      have hfl := hFB 108
      have HE := Lib.hid hE2
      clear p hE hE2
      have b4 := cell_of_block (i := 4) HBr.out
      have HC : Hid (Calls Tryd.prog 29 #[.slice a kk c, .int .u64 (last : Int)] wr (RetApp wr a (xs ++ (Fs.take k).flatMap fB ++ fB 108))) := Lib.hid (by rw [v108]; exact vuint_any a kk c last _ wr HKK.out P.out.own (by omega) (by omega))
      go_wp2_with fail
      refine HC.out.mono ?_
      rintro e w5 ⟨a2, n2, c2, rfl, k2, o2, m2, s2⟩
      rw [← HE.out] at k2 o2
      have P5 := Lib.hid (P.out.step o2 m2 s2)
      have hb5 : n2 ≤ len + 4000000 * (k + 1) := by rw [← k2, HE.out, List.length_append, HKK.out]; omega
      have HK5 := Lib.hid k2
      clear k2 o2 m2 s2 HC
      go_wp2_with fail
      go_roundw
      case rel => exact ⟨k + 1, a2, n2, c2, by omega, by go_num, rfl, HK5.out, hb5, P5.out⟩
      case measure => simp [intOf]; omega
    · have p0 : wr.cell? ⟨g, k, none⟩ = some (.int .u8 112) := p
      have hE2 : xs ++ (Fs.take (k + 1)).flatMap fB = xs ++ (Fs.take k).flatMap fB ++ fB 112 := hE
      have hfl := hFB 112
      have HE := Lib.hid hE2
      clear p hE hE2
      have b8 := cell_of_block (i := 8) HBr.out
      have HSN := Lib.hid (HS.out.snap.mod0 HWr.out)
      dsimp only at HSN
      have HC : Hid (Calls Tryd.prog 51 #[.slice a kk c, .string ⟨pl.toArray⟩] wr (RetApp wr a (xs ++ (Fs.take k).flatMap fB ++ fB 112))) := Lib.hid (by rw [v112]; exact text_any a kk c pl _ wr HKK.out P.out.own (by omega) (by omega))
      go_wp2_with (first | (refine wpl_str (dst := some 47) _ po _ pc pl rfl rfl HSN.out (by rfl) ?_) | fail)
      refine HC.out.mono ?_
      rintro e w5 ⟨a2, n2, c2, rfl, k2, o2, m2, s2⟩
      rw [← HE.out] at k2 o2
      have P5 := Lib.hid (P.out.step o2 m2 s2)
      have hb5 : n2 ≤ len + 4000000 * (k + 1) := by rw [← k2, HE.out, List.length_append, HKK.out]; omega
      have HK5 := Lib.hid k2
      clear k2 o2 m2 s2 HC
      go_wp2_with fail
      go_roundw
      case rel => exact ⟨k + 1, a2, n2, c2, by omega, by go_num, rfl, HK5.out, hb5, P5.out⟩
      case measure => simp [intOf]; omega
    · have p0 : wr.cell? ⟨g, k, none⟩ = some (.int .u8 115) := p
      have hE2 : xs ++ (Fs.take (k + 1)).flatMap fB = xs ++ (Fs.take k).flatMap fB ++ fB 115 := hE
      have hfl := hFB 115
      have HE := Lib.hid hE2
      clear p hE hE2
      have b7 := cell_of_block (i := 7) HBr.out
      have HC : Hid (Calls Tryd.prog 52 #[.slice a kk c, .slice so batches.length sc, .func (.func 53) #[] #[]] wr (RetApp wr a (xs ++ (Fs.take k).flatMap fB ++ fB 115))) := Lib.hid (by rw [v115]; exact row1_any a kk c _ so sc batches W wr HKK.out P.out.own (by omega) HWr.out (P.out.off (HW.out.trans' M2.out) HD.out) HS.out.batches sv3 SV4.out)
      go_wp2_with fail
      refine HC.out.mono ?_
      rintro e w5 ⟨a2, n2, c2, rfl, k2, o2, m2, s2⟩
      rw [← HE.out] at k2 o2
      have P5 := Lib.hid (P.out.step o2 m2 s2)
      have hb5 : n2 ≤ len + 4000000 * (k + 1) := by rw [← k2, HE.out, List.length_append, HKK.out]; omega
      have HK5 := Lib.hid k2
      clear k2 o2 m2 s2 HC
      go_wp2_with fail
      go_roundw
      case rel => exact ⟨k + 1, a2, n2, c2, by omega, by go_num, rfl, HK5.out, hb5, P5.out⟩
      case measure => simp [intOf]; omega
    · have p0 : wr.cell? ⟨g, k, none⟩ = some (.int .u8 118) := p
      have hE2 : xs ++ (Fs.take (k + 1)).flatMap fB = xs ++ (Fs.take k).flatMap fB ++ fB 118 := hE
      have hfl := hFB 118
      have HE := Lib.hid hE2
      clear p hE hE2
      have b6 := cell_of_block (i := 6) HBr.out
      have HC : Hid (Calls Tryd.prog 54 #[.slice a kk c, .slice vo votes.length vc, .func (.func 55) #[] #[]] wr (RetApp wr a (xs ++ (Fs.take k).flatMap fB ++ fB 118))) := Lib.hid (by rw [v118]; exact row2_any a kk c _ vo vc votes W wr HKK.out P.out.own (by omega) HWr.out (P.out.off (HW.out.trans' M2.out) HD.out) HS.out.votes sv1 SV2.out HWV.out HPV.out)
      go_wp2_with fail
      refine HC.out.mono ?_
      rintro e w5 ⟨a2, n2, c2, rfl, k2, o2, m2, s2⟩
      rw [← HE.out] at k2 o2
      have P5 := Lib.hid (P.out.step o2 m2 s2)
      have hb5 : n2 ≤ len + 4000000 * (k + 1) := by rw [← k2, HE.out, List.length_append, HKK.out]; omega
      have HK5 := Lib.hid k2
      clear k2 o2 m2 s2 HC
      go_wp2_with fail
      go_roundw
      case rel => exact ⟨k + 1, a2, n2, c2, by omega, by go_num, rfl, HK5.out, hb5, P5.out⟩
      case measure => simp [intOf]; omega
end Go.Proofs.YtekdnljincbghaaDoor
