/- The walk of the law KeysetTells. -/
import Derived.Test.YtkkjbeakmimmmaaZ3
import Derived.Test.YtkkjbeakmimmmaaHKs14
import Derived.Test.YtkkjbeakmimmmaaHKs16
namespace Go.Proofs.Ytkkjbeakmimmmaa
open Go Go.RowKit Go.Lib

theorem way_comm (c d : Cd) : way c d = way d c := by
  have h : way c d = true ↔ way d c = true := by
    rw [way_iff, way_iff]
    constructor
    · rintro (h | h | h | ⟨x, h1, h2⟩)
      · exact .inr (.inl h)
      · exact .inl h
      · exact .inr (.inr (.inl h.symm))
      · exact .inr (.inr (.inr ⟨x, h2, h1⟩))
    · rintro (h | h | h | ⟨x, h1, h2⟩)
      · exact .inr (.inl h)
      · exact .inl h
      · exact .inr (.inr (.inl h.symm))
      · exact .inr (.inr (.inr ⟨x, h2, h1⟩))
  cases h1 : way c d <;> cases h2 : way d c <;> simp [h1, h2] at h ⊢
theorem pos_own {w : World} {ao : Option Addr} {cap : Nat} {l : List Nat} (h : OwnM natV w 3 ao cap l) {j i : Nat} (hj : l[j]? = some i) : ∃ g, ao = some ⟨g, 0, none⟩ ∧ w.cell? ⟨g, j, none⟩ = some (.int .i64 (i : Int)) := by
  obtain ⟨hlt, hx⟩ := List.getElem?_eq_some_iff.1 hj
  obtain ⟨g, h1, h2, _⟩ := OwnM.at' h hlt
  rw [hx] at h2
  exact ⟨g, h1, h2⟩
set_option maxRecDepth 100000 in
set_option maxHeartbeats 8000000 in
theorem keysetTells_any (ao : Option Addr) (len cap : Nat) (l : List Cm) (w : World) (hl : l.length = len) (hlen : len ≤ 9223372036854775807) (hs : SeesC w ao l) :
    Calls Try.prog 4 #[.slice ao len cap] w fun e w' => e = .returned (.bool true) ∧ Mod [] w w' := by
  have HS := Lib.hid hs
  have HL := Lib.hid hl
  have HG := Lib.hid (great_any ao len cap l w hl hs (by omega))
  clear hs hl
  go_enter Try.func4, Try.ntmps4
  go_wp2_with fail
  refine HG.out.mono ?_
  rintro e w1 ⟨gb, rfl, m1, hgr⟩
  have HM1 := Lib.hid m1
  cases gb
  case true =>
    clear hgr m1
    go_wp2_with fail
    refine (wakes12_any w1).mono ?_
    rintro e w2 ⟨rfl, m2⟩
    have HM2 := Lib.hid (HM1.out.trans' m2)
    clear m2
    go_wp2_with fail
    go_ret
    exact ⟨rfl, HM2.out⟩
  have hsm := hgr rfl
  have HS1 := Lib.hid (HS.out.mod0 m1)
  have hl100 : len ≤ 100 := by have := hsm.1; have := HL.out; omega
  have HK : Hid (∀ (j : Nat) (h : j < l.length), l[j].1.keys.length ≤ 100000) := Lib.hid (fun j h => by have := (hsm.2 _ (List.getElem_mem h)).1; omega)
  have HW := Lib.hid (waves_any ao len cap l w1 HL.out HS1.out (by omega) HK.out)
  unfold WavesR at HW
  rw [List.length_map, HL.out] at HW
  clear hgr m1 hsm HG
  go_wp2_with fail
  refine HW.out.mono ?_
  rintro e w2 ⟨oa, ca, rfl, hoa, -, m2⟩
  have HM2 := Lib.hid (HM1.out.trans' m2)
  have HS2 := Lib.hid (HS1.out.mod0 m2)
  have HR := Lib.hid (refWaves_any ao len cap l w2 HL.out HS2.out (by omega) HK.out)
  unfold WavesR at HR
  rw [List.length_map, HL.out] at HR
  have HOA2 := Lib.hid hoa
  clear m2 hoa HW HS1
  go_wp2_with fail
  refine HR.out.mono ?_
  rintro e w3 ⟨ob, cb, rfl, hob, -, m3⟩
  have HM3 := Lib.hid (HM2.out.trans' m3)
  have HS3 := Lib.hid (HS2.out.mod0 m3)
  have HOA := Lib.hid (HOA2.out.mod0 m3)
  have HOB := Lib.hid hob
  have hisW := runF_isW (l.map (·.1))
  have hlw : (runF (l.map (·.1))).2.length = len := by rw [hisW.1, List.length_map, HL.out]
  have hle := hisW.le
  have HGP := Lib.hid (fun w' (m : Mod [] w3 w') => groups_any ao len cap l w' HL.out (HS3.out.mod0 m) (by omega) HK.out)
  obtain ⟨ws, hws⟩ : ∃ x, (runF (l.map (·.1))).2 = x := ⟨_, rfl⟩
  rw [hws] at HOA HOB hlw hle HGP
  unfold GroupsR at HGP
  have HLW := Lib.hid hlw
  have HLE := Lib.hid hle
  clear hob m3 hisW hlw hle hws HR HS2 HOA2 HM2
  obtain ⟨ga, ha⟩ : ∃ g, 0 < len → oa = some ⟨g, 0, none⟩ := by
    by_cases h0 : 0 < len
    · obtain ⟨g, h1, -⟩ := OwnM.at' HOA.out (j := 0) (by rw [HLW.out]; exact h0)
      exact ⟨g, fun _ => h1⟩
    · exact ⟨0, fun h => absurd h h0⟩
  obtain ⟨gb, hb⟩ : ∃ g, 0 < len → ob = some ⟨g, 0, none⟩ := by
    by_cases h0 : 0 < len
    · obtain ⟨g, h1, -⟩ := OwnM.at' HOB.out (j := 0) (by rw [HLW.out]; exact h0)
      exact ⟨g, fun _ => h1⟩
    · exact ⟨0, fun h => absurd h h0⟩
  have HAA := Lib.hid ha
  have HAB := Lib.hid hb
  have CA : Hid (∀ (k v : Nat), ws[k]? = some v → w3.cell? ⟨ga, k, none⟩ = some (.int .i64 (v : Int))) := Lib.hid fun k v h => by
    obtain ⟨g, h1, h2⟩ := pos_own HOA.out h
    rw [ha (by have := some_lt h; have := HLW.out; omega)] at h1
    cases h1
    exact h2
  have CB : Hid (∀ (k v : Nat), ws[k]? = some v → w3.cell? ⟨gb, k, none⟩ = some (.int .i64 (v : Int))) := Lib.hid fun k v h => by
    obtain ⟨g, h1, h2⟩ := pos_own HOB.out h
    rw [hb (by have := some_lt h; have := HLW.out; omega)] at h1
    cases h1
    exact h2
  clear ha hb HOA HOB
  obtain ⟨tp, htp⟩ : ∃ x, topOf ws = x := ⟨_, rfl⟩
  have HTP := Lib.hid htp
  rw [htp] at HGP
  have htl : tp ≤ len := htp ▸ top_le ws len fun u hu => by
    obtain ⟨k, hk⟩ := List.getElem?_of_mem hu
    have := HLE.out k u hk
    have := some_lt hk
    have := HLW.out
    omega
  clear htp
  go_wp2
  go_loopw [5, 6, 7] (fun s5 i _ wr => ∃ k : Nat, k ≤ len ∧ i = .int .i64 (k : Int) ∧ s5 = .int .i64 (topOf (ws.take k) : Int) ∧ Mod [] w3 wr) (fun _ i _ _ => len - (intOf i).toNat)
  case atStart => exact ⟨0, Nat.zero_le _, rfl, rfl, Mod.refl _ _⟩
  case round =>
    obtain ⟨k, hk, rfl, rfl, hm⟩ := hrel
    have HM := Lib.hid hm
    clear hm
    by_cases hlt : k < len
    · have hkl : k < l.length := by rw [HL.out]; exact hlt
      have hkw : k < ws.length := by rw [HLW.out]; exact hlt
      obtain ⟨v, hv⟩ : ∃ v, ws[k]? = some v := ⟨_, List.getElem?_eq_getElem hkw⟩
      have hv' : ws[k]'hkw = v := by rw [List.getElem?_eq_getElem hkw] at hv; exact Option.some.inj hv
      have hvk := HLE.out k v hv
      have UA := Lib.hid (HM.out.cell (CA.out k v hv) List.not_mem_nil)
      have UB := Lib.hid (HM.out.cell (CB.out k v hv) List.not_mem_nil)
      have HTK : Hid (topOf (ws.take (k + 1)) = max (topOf (ws.take k)) (v + 1)) := Lib.hid (by rw [take_snoc ws k hkw, hv', top_snoc])
      obtain ⟨t0, ht0⟩ : ∃ x, topOf (ws.take k) = x := ⟨_, rfl⟩
      have ht0l : t0 ≤ len := ht0 ▸ top_le _ len fun u hu => by
        obtain ⟨q, hq⟩ := List.getElem?_of_mem (List.mem_of_mem_take hu)
        have := HLE.out q u hq
        have := some_lt hq
        have := HLW.out
        omega
      rw [ht0] at HTK ⊢
      obtain ⟨t1, ht1⟩ : ∃ x, max t0 (v + 1) = x := ⟨_, rfl⟩
      have e1 : max (t0 : Int) ((v : Int) + 1) = (t1 : Int) := by omega
      rw [ht1] at HTK
      clear hv hv' ht0 ht1
      obtain rfl := HAA.out (by omega)
      obtain rfl := HAB.out (by omega)
      obtain ⟨b, off, rfl, d0, d1, d2, d3, d4, d5, d6, ht', -⟩ := (HS3.out.mod0 HM.out) k hkl
      have hkk := HK.out k hkl
      obtain ⟨ck, hck⟩ : ∃ x, l[k] = x := ⟨_, rfl⟩
      have HCK := Lib.hid hck
      rw [hck] at d0 d1 d2 d3 d4 d5 d6 ht' hkk
      have HLK : Hid (∀ w', Mod [] wr w' → Calls Try.prog 9 #[cmdV ck] w' fun e w2 => e = .returned (.bool (lone ck.1)) ∧ Mod [] w' w2) := Lib.hid (fun w' m => lone_any ck w' (ht'.mod0 m) hkk)
      have HLR : Hid (∀ w', Mod [] wr w' → Calls Try.prog 11 #[cmdV ck] w' fun e w2 => e = .returned (.bool (lone ck.1)) ∧ Mod [] w' w2) := Lib.hid (fun w' m => refLone_any ck w' (ht'.mod0 m) hkk)
      obtain ⟨lk, hlk⟩ : ∃ x, lone ck.1 = x := ⟨_, rfl⟩
      rw [hlk] at HLK HLR
      clear hck hlk ht' hkk
      obtain ⟨⟨clientk, seqk, kindk, keysk, oldk, freshk, nk⟩, kaok, kcapk⟩ := ck
      dsimp only at d0 d1 d2 d3 d4 d5 d6
      have XK : Hid (∀ w', Mod [] wr w' → w'.cell? ⟨b, off + k * 7, none⟩ = some (.int .u32 (clientk : Int)) ∧ w'.cell? ⟨b, off + k * 7 + 1, none⟩ = some (.int .u32 (seqk : Int)) ∧ w'.cell? ⟨b, off + k * 7 + 2, none⟩ = some (.int .u8 (kindk : Int)) ∧ w'.cell? ⟨b, off + k * 7 + 3, none⟩ = some (.slice kaok keysk.length kcapk) ∧ w'.cell? ⟨b, off + k * 7 + 4, none⟩ = some (.string oldk) ∧ w'.cell? ⟨b, off + k * 7 + 5, none⟩ = some (.string freshk) ∧ w'.cell? ⟨b, off + k * 7 + 6, none⟩ = some (.int .i64 nk)) := Lib.hid (fun w' m => ⟨m.cell d0 List.not_mem_nil, m.cell d1 List.not_mem_nil, m.cell d2 List.not_mem_nil, m.cell d3 List.not_mem_nil, m.cell d4 List.not_mem_nil, m.cell d5 List.not_mem_nil, m.cell d6 List.not_mem_nil⟩)
      clear d0 d1 d2 d3 d4 d5 d6
      have hltk : (k : Int) < (len : Int) := by omega
      have DN : ((v : Int) != (v : Int)) = false := by simp
      have BN : (lk != lk) = false := by simp
      go_upto_region 10 with (fail)
      refine rest_start [] 22 #[false, false, false, false, false, false, false, false, false, false, false, false, false, false, false, false, false, false, false, false, false, false] rfl (by kernel_rfl) (by kernel_rfl) ?_
      intro w6 m6
      have XK6 : Hid (∀ w', Mod [] w6 w' → w'.cell? ⟨b, off + k * 7, none⟩ = some (.int .u32 (clientk : Int)) ∧ w'.cell? ⟨b, off + k * 7 + 1, none⟩ = some (.int .u32 (seqk : Int)) ∧ w'.cell? ⟨b, off + k * 7 + 2, none⟩ = some (.int .u8 (kindk : Int)) ∧ w'.cell? ⟨b, off + k * 7 + 3, none⟩ = some (.slice kaok keysk.length kcapk) ∧ w'.cell? ⟨b, off + k * 7 + 4, none⟩ = some (.string oldk) ∧ w'.cell? ⟨b, off + k * 7 + 5, none⟩ = some (.string freshk) ∧ w'.cell? ⟨b, off + k * 7 + 6, none⟩ = some (.int .i64 nk)) := Lib.hid (fun w' m => XK.out w' (m6.trans' m))
      have UA6 := Lib.hid (m6.cell UA.out List.not_mem_nil)
      have UB6 := Lib.hid (m6.cell UB.out List.not_mem_nil)
      have M6 := Lib.hid m6
      have HLK6 := Lib.hid (HLK.out w6 m6)
      clear m6 UA
      refine rest_got (i := 0) (v := ?v1) rfl (by kernel_rfl) (by kernel_rfl) (by kernel_rfl) (fun _ _ _ h => h) (by rfl) ?y1 ?r1
      case y1 => (intro w9q hSwq; clear hSwq; go_simp; with_reducible rfl)
      try simp only [Act.put, List.setIfInBounds_toArray, List.set_cons_zero, List.set_cons_succ]
      refine rest_got (i := 1) (v := ?v2) rfl (by kernel_rfl) (by kernel_rfl) (by kernel_rfl) (fun _ _ _ h => h) (by rfl) ?y2 ?r2
      case y2 => (intro w9q hSwq; clear hSwq; go_simp; with_reducible rfl)
      try simp only [Act.put, List.setIfInBounds_toArray, List.set_cons_zero, List.set_cons_succ]
      refine rest_got (i := 2) (v := ?v3) rfl (by kernel_rfl) (by kernel_rfl) (by kernel_rfl) (fun _ _ _ h => h) (by rfl) ?y3 ?r3
      case y3 => (intro w9q hSwq; clear hSwq; go_simp; with_reducible rfl)
      try simp only [Act.put, List.setIfInBounds_toArray, List.set_cons_zero, List.set_cons_succ]
      refine rest_got (i := 3) (v := ?v4) rfl (by kernel_rfl) (by kernel_rfl) (by kernel_rfl) (fun _ _ _ h => h) (by rfl) ?y4 ?r4
      case y4 => ((intro w9' hm9'; have hc9' := Mod.cell hm9' UA6.out (by first | exact List.not_mem_nil | assumption | (simp; done) | (simp; omega)); clear hm9'; go_simp; with_reducible rfl))
      try simp only [Act.put, List.setIfInBounds_toArray, List.set_cons_zero, List.set_cons_succ]
      refine rest_got (i := 4) (v := ?v5) rfl (by kernel_rfl) (by kernel_rfl) (by kernel_rfl) (fun _ _ _ h => h) (by rfl) ?y5 ?r5
      case y5 => (intro w9q hSwq; clear hSwq; go_simp; with_reducible rfl)
      try simp only [Act.put, List.setIfInBounds_toArray, List.set_cons_zero, List.set_cons_succ]
      refine rest_got (i := 5) (v := ?v6) rfl (by kernel_rfl) (by kernel_rfl) (by kernel_rfl) (fun _ _ _ h => h) (by rfl) ?y6 ?r6
      case y6 => (intro w9q hSwq; clear hSwq; go_simp; with_reducible rfl)
      try simp only [Act.put, List.setIfInBounds_toArray, List.set_cons_zero, List.set_cons_succ]
      refine rest_got (i := 6) (v := ?v7) rfl (by kernel_rfl) (by kernel_rfl) (by kernel_rfl) (fun _ _ _ h => h) (by rfl) ?y7 ?r7
      case y7 => (intro w9q hSwq; clear hSwq; go_simp; with_reducible rfl)
      try simp only [Act.put, List.setIfInBounds_toArray, List.set_cons_zero, List.set_cons_succ]
      refine rest_got (i := 7) (v := ?v8) rfl (by kernel_rfl) (by kernel_rfl) (by kernel_rfl) (fun _ _ _ h => h) (by rfl) ?y8 ?r8
      case y8 => ((intro w9' hm9'; have hc9' := Mod.cell hm9' UB6.out (by first | exact List.not_mem_nil | assumption | (simp; done) | (simp; omega)); clear hm9'; go_simp; with_reducible rfl))
      try simp only [Act.put, List.setIfInBounds_toArray, List.set_cons_zero, List.set_cons_succ]
      refine rest_got (i := 8) (v := ?v9) rfl (by kernel_rfl) (by kernel_rfl) (by kernel_rfl) (fun _ _ _ h => h) (by rfl) ?y9 ?r9
      case y9 => (intro w9q hSwq; clear hSwq; go_simp; with_reducible rfl)
      try simp only [Act.put, List.setIfInBounds_toArray, List.set_cons_zero, List.set_cons_succ]
      refine rest_got (i := 9) (v := ?v10) rfl (by kernel_rfl) (by kernel_rfl) (by kernel_rfl) (fun _ _ _ h => h) (by rfl) ?y10 ?r10
      case y10 => (intro w9q hSwq; clear hSwq; go_simp; with_reducible rfl)
      try simp only [Act.put, List.setIfInBounds_toArray, List.set_cons_zero, List.set_cons_succ]
      refine rest_got (i := 10) (v := ?v11) rfl (by kernel_rfl) (by kernel_rfl) (by kernel_rfl) (fun _ _ _ h => h) (by rfl) ?y11 ?r11
      case y11 => (intro w9q hSwq; clear hSwq; go_simp; with_reducible rfl)
      try simp only [Act.put, List.setIfInBounds_toArray, List.set_cons_zero, List.set_cons_succ]
      refine rest_got (i := 11) (v := ?v12) rfl (by kernel_rfl) (by kernel_rfl) (by kernel_rfl) (fun _ _ _ h => h) (by rfl) ?y12 ?r12
      case y12 => (intro w9q hSwq; clear hSwq; go_simp; with_reducible rfl)
      try simp only [Act.put, List.setIfInBounds_toArray, List.set_cons_zero, List.set_cons_succ]
      refine rest_got (i := 12) (v := ?v13) rfl (by kernel_rfl) (by kernel_rfl) (by kernel_rfl) (fun _ _ _ h => h) (by rfl) ?y13 ?r13
      case y13 => (intro w9q hSwq; clear hSwq; go_simp; with_reducible rfl)
      try simp only [Act.put, List.setIfInBounds_toArray, List.set_cons_zero, List.set_cons_succ]
      refine rest_got (i := 13) (v := ?v14) rfl (by kernel_rfl) (by kernel_rfl) (by kernel_rfl) (fun _ _ _ h => h) (by rfl) ?y14 ?r14
      case y14 => ((intro w9' hm9'; obtain ⟨hc0', hc1', hc2', hc3', hc4', hc5', hc6'⟩ := XK6.out w9' hm9'; clear hm9'; go_simp; with_reducible rfl))
      try simp only [Act.put, List.setIfInBounds_toArray, List.set_cons_zero, List.set_cons_succ]
      refine rest_got (i := 15) (v := ?v15) rfl (by kernel_rfl) (by kernel_rfl) (by kernel_rfl) (fun _ _ _ h => h) (by rfl) ?y15 ?r15
      case y15 => (intro w9q hSwq; clear hSwq; go_simp; with_reducible rfl)
      try simp only [Act.put, List.setIfInBounds_toArray, List.set_cons_zero, List.set_cons_succ]
      refine rest_got (i := 16) (v := ?v16) rfl (by kernel_rfl) (by kernel_rfl) (by kernel_rfl) (fun _ _ _ h => h) (by rfl) ?y16 ?r16
      case y16 => (intro w9q hSwq; clear hSwq; go_simp; with_reducible rfl)
      try simp only [Act.put, List.setIfInBounds_toArray, List.set_cons_zero, List.set_cons_succ]
      refine rest_got (i := 17) (v := ?v17) rfl (by kernel_rfl) (by kernel_rfl) (by kernel_rfl) (fun _ _ _ h => h) (by rfl) ?y17 ?r17
      case y17 => (intro w9q hSwq; clear hSwq; go_simp; with_reducible rfl)
      try simp only [Act.put, List.setIfInBounds_toArray, List.set_cons_zero, List.set_cons_succ]
      refine rest_got (i := 18) (v := ?v18) rfl (by kernel_rfl) (by kernel_rfl) (by kernel_rfl) (fun _ _ _ h => h) (by rfl) ?y18 ?r18
      case y18 => ((intro w9' hm9'; obtain ⟨hc0', hc1', hc2', hc3', hc4', hc5', hc6'⟩ := XK6.out w9' hm9'; clear hm9'; go_simp; with_reducible rfl))
      try simp only [Act.put, List.setIfInBounds_toArray, List.set_cons_zero, List.set_cons_succ]
      refine rest_one (i := 14) (by kernel_rfl) rfl (by rfl) ?_
      go_wp2_with fail
      refine HLK6.out.mono ?_
      rintro e w7 ⟨rfl, m7⟩
      have M7 := Lib.hid (M6.out.trans' m7)
      have HLR7 := Lib.hid (HLR.out w7 M7.out)
      go_wp2_with fail
      refine back_to (K1 := []) m7 (by simp) ?_
      clear m7 UA6 UB6 XK6 M6 HLK6 HLK
      
      refine rest_one (i := 19) (by kernel_rfl) rfl (by rfl) ?_
      go_wp2_with fail
      refine HLR7.out.mono ?_
      rintro e w8 ⟨rfl, m8⟩
      have M8 := Lib.hid (M7.out.trans' m8)
      go_wp2_with fail
      refine back_to (K1 := []) m8 (by simp) ?_
      clear m8 M7 HLR7 HLR
      refine rest_got (i := 20) (v := ?v19) rfl (by kernel_rfl) (by kernel_rfl) (by kernel_rfl) (fun _ _ _ h => h) (by rfl) ?y19 ?r19
      case y19 => (intro w9q hSwq; clear hSwq; go_simp; with_reducible rfl)
      try simp only [Act.put, List.setIfInBounds_toArray, List.set_cons_zero, List.set_cons_succ]
      refine rest_got (i := 21) (v := ?v20) rfl (by kernel_rfl) (by kernel_rfl) (by kernel_rfl) (fun _ _ _ h => h) (by rfl) ?y20 ?r20
      case y20 => (intro w9q hSwq; clear hSwq; go_simp; with_reducible rfl)
      try simp only [Act.put, List.setIfInBounds_toArray, List.set_cons_zero, List.set_cons_succ]
      refine rest_done (by kernel_rfl) ?_ _
      have UB8 := M8.out.cell UB.out List.not_mem_nil
      go_wp2
      clear UB8
      go_loopw [7] (fun s7 wq => ∃ p : Nat, p ≤ k ∧ s7 = .int .i64 (p : Int) ∧ Mod [] wr wq) (fun s7 _ => k - (intOf s7).toNat)
      case atStart => exact ⟨0, Nat.zero_le _, rfl, M8.out⟩
      case round =>
        rename World => wq
        obtain ⟨p, hp, rfl, hmq⟩ := hrel
        have HMq := Lib.hid hmq
        clear hmq
        by_cases hpk : p < k
        · by_cases hp20 : p < 20
          · have hpl : p < l.length := by omega
            obtain ⟨b', off', eb, c0, c1, c2, c3, c4, c5, c6, ht, -⟩ := (HS3.out.mod0 (HM.out.trans' HMq.out)) p hpl
            obtain ⟨b2, off2, eb2, -, -, -, -, -, -, -, ht', -⟩ := (HS3.out.mod0 (HM.out.trans' HMq.out)) k hkl
            cases eb
            cases eb2
            have hkp := HK.out p hpl
            have hkk := HK.out k hkl
            rw [HCK.out] at ht' hkk
            obtain ⟨cp, hcp⟩ : ∃ x, l[p] = x := ⟨_, rfl⟩
            rw [hcp] at c0 c1 c2 c3 c4 c5 c6 ht hkp
            have W1 : Hid (∀ w', Mod [] wq w' → Calls Try.prog 8 #[cmdV ((⟨clientk, seqk, kindk, keysk, oldk, freshk, nk⟩, kaok, kcapk) : Cm), cmdV cp] w' fun e w2 => e = .returned (.bool (way cp.1 ((⟨clientk, seqk, kindk, keysk, oldk, freshk, nk⟩, kaok, kcapk) : Cm).1)) ∧ Mod [] w' w2) := Lib.hid (fun w' m => by rw [way_comm]; exact way_any ((⟨clientk, seqk, kindk, keysk, oldk, freshk, nk⟩, kaok, kcapk) : Cm) cp w' (ht'.mod0 m) hkk (ht.mod0 m) hkp)
            have W2 : Hid (∀ w', Mod [] wq w' → Calls Try.prog 12 #[cmdV ((⟨clientk, seqk, kindk, keysk, oldk, freshk, nk⟩, kaok, kcapk) : Cm), cmdV cp] w' fun e w2 => e = .returned (.bool (way cp.1 ((⟨clientk, seqk, kindk, keysk, oldk, freshk, nk⟩, kaok, kcapk) : Cm).1)) ∧ Mod [] w' w2) := Lib.hid (fun w' m => by rw [way_comm]; exact refWay_any ((⟨clientk, seqk, kindk, keysk, oldk, freshk, nk⟩, kaok, kcapk) : Cm) cp w' (ht'.mod0 m) hkk (ht.mod0 m) hkp)
            have W3 : Hid (∀ w', Mod [] wq w' → Calls Try.prog 8 #[cmdV cp, cmdV ((⟨clientk, seqk, kindk, keysk, oldk, freshk, nk⟩, kaok, kcapk) : Cm)] w' fun e w2 => e = .returned (.bool (way cp.1 ((⟨clientk, seqk, kindk, keysk, oldk, freshk, nk⟩, kaok, kcapk) : Cm).1)) ∧ Mod [] w' w2) := Lib.hid (fun w' m => way_any cp ((⟨clientk, seqk, kindk, keysk, oldk, freshk, nk⟩, kaok, kcapk) : Cm) w' (ht.mod0 m) hkp (ht'.mod0 m) hkk)
            obtain ⟨bw, hbw⟩ : ∃ x, way cp.1 ((⟨clientk, seqk, kindk, keysk, oldk, freshk, nk⟩, kaok, kcapk) : Cm).1 = x := ⟨_, rfl⟩
            rw [hbw] at W1 W2 W3
            clear hcp hbw ht ht' hkp hkk
            obtain ⟨⟨clientp, seqp, kindp, keysp, oldp, freshp, np⟩, kaop, kcapp⟩ := cp
            dsimp only at c0 c1 c2 c3 c4 c5 c6
            have XP : Hid (∀ w', Mod [] wq w' → w'.cell? ⟨b, off + p * 7, none⟩ = some (.int .u32 (clientp : Int)) ∧ w'.cell? ⟨b, off + p * 7 + 1, none⟩ = some (.int .u32 (seqp : Int)) ∧ w'.cell? ⟨b, off + p * 7 + 2, none⟩ = some (.int .u8 (kindp : Int)) ∧ w'.cell? ⟨b, off + p * 7 + 3, none⟩ = some (.slice kaop keysp.length kcapp) ∧ w'.cell? ⟨b, off + p * 7 + 4, none⟩ = some (.string oldp) ∧ w'.cell? ⟨b, off + p * 7 + 5, none⟩ = some (.string freshp) ∧ w'.cell? ⟨b, off + p * 7 + 6, none⟩ = some (.int .i64 np)) := Lib.hid (fun w' m => ⟨m.cell c0 List.not_mem_nil, m.cell c1 List.not_mem_nil, m.cell c2 List.not_mem_nil, m.cell c3 List.not_mem_nil, m.cell c4 List.not_mem_nil, m.cell c5 List.not_mem_nil, m.cell c6 List.not_mem_nil⟩)
            have XKq : Hid (∀ w', Mod [] wq w' → w'.cell? ⟨b, off + k * 7, none⟩ = some (.int .u32 (clientk : Int)) ∧ w'.cell? ⟨b, off + k * 7 + 1, none⟩ = some (.int .u32 (seqk : Int)) ∧ w'.cell? ⟨b, off + k * 7 + 2, none⟩ = some (.int .u8 (kindk : Int)) ∧ w'.cell? ⟨b, off + k * 7 + 3, none⟩ = some (.slice kaok keysk.length kcapk) ∧ w'.cell? ⟨b, off + k * 7 + 4, none⟩ = some (.string oldk) ∧ w'.cell? ⟨b, off + k * 7 + 5, none⟩ = some (.string freshk) ∧ w'.cell? ⟨b, off + k * 7 + 6, none⟩ = some (.int .i64 nk)) := Lib.hid (fun w' m => XK.out w' (HMq.out.trans' m))
            clear c0 c1 c2 c3 c4 c5 c6
            have hltp : (p : Int) < (len : Int) := by omega
            have BW : (bw != bw) = false := by simp
            have hpki : decide ((p : Int) < (k : Int)) = true := decide_eq_true (by omega)
            have hp20i : decide ((p : Int) < (20 : Int)) = true := decide_eq_true (by omega)
            go_upto_region 16 with (fail)
            refine rest_start [] 40 #[false, false, false, false, false, false, false, false, false, false, false, false, false, false, false, false, false, false, false, false, false, false, false, false, false, false, false, false, false, false, false, false, false, false, false, false, false, false, false, false] rfl (by kernel_rfl) (by kernel_rfl) ?_
            intro w10 m10
            have XP10 : Hid (∀ w', Mod [] w10 w' → w'.cell? ⟨b, off + p * 7, none⟩ = some (.int .u32 (clientp : Int)) ∧ w'.cell? ⟨b, off + p * 7 + 1, none⟩ = some (.int .u32 (seqp : Int)) ∧ w'.cell? ⟨b, off + p * 7 + 2, none⟩ = some (.int .u8 (kindp : Int)) ∧ w'.cell? ⟨b, off + p * 7 + 3, none⟩ = some (.slice kaop keysp.length kcapp) ∧ w'.cell? ⟨b, off + p * 7 + 4, none⟩ = some (.string oldp) ∧ w'.cell? ⟨b, off + p * 7 + 5, none⟩ = some (.string freshp) ∧ w'.cell? ⟨b, off + p * 7 + 6, none⟩ = some (.int .i64 np)) := Lib.hid (fun w' m => XP.out w' (m10.trans' m))
            have XK10 : Hid (∀ w', Mod [] w10 w' → w'.cell? ⟨b, off + k * 7, none⟩ = some (.int .u32 (clientk : Int)) ∧ w'.cell? ⟨b, off + k * 7 + 1, none⟩ = some (.int .u32 (seqk : Int)) ∧ w'.cell? ⟨b, off + k * 7 + 2, none⟩ = some (.int .u8 (kindk : Int)) ∧ w'.cell? ⟨b, off + k * 7 + 3, none⟩ = some (.slice kaok keysk.length kcapk) ∧ w'.cell? ⟨b, off + k * 7 + 4, none⟩ = some (.string oldk) ∧ w'.cell? ⟨b, off + k * 7 + 5, none⟩ = some (.string freshk) ∧ w'.cell? ⟨b, off + k * 7 + 6, none⟩ = some (.int .i64 nk)) := Lib.hid (fun w' m => XKq.out w' (m10.trans' m))
            have M10 := Lib.hid m10
            clear m10
            refine rest_got (i := 0) (v := ?v21) rfl (by kernel_rfl) (by kernel_rfl) (by kernel_rfl) (fun _ _ _ h => h) (by rfl) ?y21 ?r21
            case y21 => (intro w9q hSwq; clear hSwq; go_simp; with_reducible rfl)
            try simp only [Act.put, List.setIfInBounds_toArray, List.set_cons_zero, List.set_cons_succ]
            refine rest_got (i := 1) (v := ?v22) rfl (by kernel_rfl) (by kernel_rfl) (by kernel_rfl) (fun _ _ _ h => h) (by rfl) ?y22 ?r22
            case y22 => (intro w9q hSwq; clear hSwq; go_simp; with_reducible rfl)
            try simp only [Act.put, List.setIfInBounds_toArray, List.set_cons_zero, List.set_cons_succ]
            refine rest_got (i := 2) (v := ?v23) rfl (by kernel_rfl) (by kernel_rfl) (by kernel_rfl) (fun _ _ _ h => h) (by rfl) ?y23 ?r23
            case y23 => (intro w9q hSwq; clear hSwq; go_simp; with_reducible rfl)
            try simp only [Act.put, List.setIfInBounds_toArray, List.set_cons_zero, List.set_cons_succ]
            refine rest_got (i := 3) (v := ?v24) rfl (by kernel_rfl) (by kernel_rfl) (by kernel_rfl) (fun _ _ _ h => h) (by rfl) ?y24 ?r24
            case y24 => ((intro w9' hm9'; obtain ⟨hc0', hc1', hc2', hc3', hc4', hc5', hc6'⟩ := XK10.out w9' hm9'; clear hm9'; go_simp; with_reducible rfl))
            try simp only [Act.put, List.setIfInBounds_toArray, List.set_cons_zero, List.set_cons_succ]
            refine rest_got (i := 4) (v := ?v25) rfl (by kernel_rfl) (by kernel_rfl) (by kernel_rfl) (fun _ _ _ h => h) (by rfl) ?y25 ?r25
            case y25 => (intro w9q hSwq; clear hSwq; go_simp; with_reducible rfl)
            try simp only [Act.put, List.setIfInBounds_toArray, List.set_cons_zero, List.set_cons_succ]
            refine rest_got (i := 5) (v := ?v26) rfl (by kernel_rfl) (by kernel_rfl) (by kernel_rfl) (fun _ _ _ h => h) (by rfl) ?y26 ?r26
            case y26 => (intro w9q hSwq; clear hSwq; go_simp; with_reducible rfl)
            try simp only [Act.put, List.setIfInBounds_toArray, List.set_cons_zero, List.set_cons_succ]
            refine rest_got (i := 6) (v := ?v27) rfl (by kernel_rfl) (by kernel_rfl) (by kernel_rfl) (fun _ _ _ h => h) (by rfl) ?y27 ?r27
            case y27 => (intro w9q hSwq; clear hSwq; go_simp; with_reducible rfl)
            try simp only [Act.put, List.setIfInBounds_toArray, List.set_cons_zero, List.set_cons_succ]
            refine rest_got (i := 7) (v := ?v28) rfl (by kernel_rfl) (by kernel_rfl) (by kernel_rfl) (fun _ _ _ h => h) (by rfl) ?y28 ?r28
            case y28 => ((intro w9' hm9'; obtain ⟨hc0', hc1', hc2', hc3', hc4', hc5', hc6'⟩ := XP10.out w9' hm9'; clear hm9'; go_simp; with_reducible rfl))
            try simp only [Act.put, List.setIfInBounds_toArray, List.set_cons_zero, List.set_cons_succ]
            refine rest_got (i := 9) (v := ?v29) rfl (by kernel_rfl) (by kernel_rfl) (by kernel_rfl) (fun _ _ _ h => h) (by rfl) ?y29 ?r29
            case y29 => (intro w9q hSwq; clear hSwq; go_simp; with_reducible rfl)
            try simp only [Act.put, List.setIfInBounds_toArray, List.set_cons_zero, List.set_cons_succ]
            refine rest_got (i := 10) (v := ?v30) rfl (by kernel_rfl) (by kernel_rfl) (by kernel_rfl) (fun _ _ _ h => h) (by rfl) ?y30 ?r30
            case y30 => (intro w9q hSwq; clear hSwq; go_simp; with_reducible rfl)
            try simp only [Act.put, List.setIfInBounds_toArray, List.set_cons_zero, List.set_cons_succ]
            refine rest_got (i := 11) (v := ?v31) rfl (by kernel_rfl) (by kernel_rfl) (by kernel_rfl) (fun _ _ _ h => h) (by rfl) ?y31 ?r31
            case y31 => (intro w9q hSwq; clear hSwq; go_simp; with_reducible rfl)
            try simp only [Act.put, List.setIfInBounds_toArray, List.set_cons_zero, List.set_cons_succ]
            refine rest_got (i := 12) (v := ?v32) rfl (by kernel_rfl) (by kernel_rfl) (by kernel_rfl) (fun _ _ _ h => h) (by rfl) ?y32 ?r32
            case y32 => ((intro w9' hm9'; obtain ⟨hc0', hc1', hc2', hc3', hc4', hc5', hc6'⟩ := XK10.out w9' hm9'; clear hm9'; go_simp; with_reducible rfl))
            try simp only [Act.put, List.setIfInBounds_toArray, List.set_cons_zero, List.set_cons_succ]
            refine rest_got (i := 13) (v := ?v33) rfl (by kernel_rfl) (by kernel_rfl) (by kernel_rfl) (fun _ _ _ h => h) (by rfl) ?y33 ?r33
            case y33 => (intro w9q hSwq; clear hSwq; go_simp; with_reducible rfl)
            try simp only [Act.put, List.setIfInBounds_toArray, List.set_cons_zero, List.set_cons_succ]
            refine rest_got (i := 14) (v := ?v34) rfl (by kernel_rfl) (by kernel_rfl) (by kernel_rfl) (fun _ _ _ h => h) (by rfl) ?y34 ?r34
            case y34 => (intro w9q hSwq; clear hSwq; go_simp; with_reducible rfl)
            try simp only [Act.put, List.setIfInBounds_toArray, List.set_cons_zero, List.set_cons_succ]
            refine rest_got (i := 15) (v := ?v35) rfl (by kernel_rfl) (by kernel_rfl) (by kernel_rfl) (fun _ _ _ h => h) (by rfl) ?y35 ?r35
            case y35 => (intro w9q hSwq; clear hSwq; go_simp; with_reducible rfl)
            try simp only [Act.put, List.setIfInBounds_toArray, List.set_cons_zero, List.set_cons_succ]
            refine rest_got (i := 16) (v := ?v36) rfl (by kernel_rfl) (by kernel_rfl) (by kernel_rfl) (fun _ _ _ h => h) (by rfl) ?y36 ?r36
            case y36 => ((intro w9' hm9'; obtain ⟨hc0', hc1', hc2', hc3', hc4', hc5', hc6'⟩ := XP10.out w9' hm9'; clear hm9'; go_simp; with_reducible rfl))
            try simp only [Act.put, List.setIfInBounds_toArray, List.set_cons_zero, List.set_cons_succ]
            have W10 := Lib.hid (W1.out w10 M10.out)
            refine rest_one (i := 8) (by kernel_rfl) rfl (by rfl) ?_
            go_wp2_with fail
            refine W10.out.mono ?_
            rintro e w11 ⟨rfl, m11⟩
            have M11 := Lib.hid (M10.out.trans' m11)
            have W11 := Lib.hid (W2.out w11 M11.out)
            have XP11 : Hid (∀ w', Mod [] w11 w' → w'.cell? ⟨b, off + p * 7, none⟩ = some (.int .u32 (clientp : Int)) ∧ w'.cell? ⟨b, off + p * 7 + 1, none⟩ = some (.int .u32 (seqp : Int)) ∧ w'.cell? ⟨b, off + p * 7 + 2, none⟩ = some (.int .u8 (kindp : Int)) ∧ w'.cell? ⟨b, off + p * 7 + 3, none⟩ = some (.slice kaop keysp.length kcapp) ∧ w'.cell? ⟨b, off + p * 7 + 4, none⟩ = some (.string oldp) ∧ w'.cell? ⟨b, off + p * 7 + 5, none⟩ = some (.string freshp) ∧ w'.cell? ⟨b, off + p * 7 + 6, none⟩ = some (.int .i64 np)) := Lib.hid (fun w' m => XP.out w' (M11.out.trans' m))
            have XK11 : Hid (∀ w', Mod [] w11 w' → w'.cell? ⟨b, off + k * 7, none⟩ = some (.int .u32 (clientk : Int)) ∧ w'.cell? ⟨b, off + k * 7 + 1, none⟩ = some (.int .u32 (seqk : Int)) ∧ w'.cell? ⟨b, off + k * 7 + 2, none⟩ = some (.int .u8 (kindk : Int)) ∧ w'.cell? ⟨b, off + k * 7 + 3, none⟩ = some (.slice kaok keysk.length kcapk) ∧ w'.cell? ⟨b, off + k * 7 + 4, none⟩ = some (.string oldk) ∧ w'.cell? ⟨b, off + k * 7 + 5, none⟩ = some (.string freshk) ∧ w'.cell? ⟨b, off + k * 7 + 6, none⟩ = some (.int .i64 nk)) := Lib.hid (fun w' m => XKq.out w' (M11.out.trans' m))
            go_wp2_with fail
            refine back_to (K1 := []) m11 (by simp) ?_
            clear m11 M10 W10 XP10 XK10
            
            refine rest_one (i := 17) (by kernel_rfl) rfl (by rfl) ?_
            go_wp2_with fail
            refine W11.out.mono ?_
            rintro e w12 ⟨rfl, m12⟩
            have M12 := Lib.hid (M11.out.trans' m12)
            have W12 := Lib.hid (W3.out w12 M12.out)
            have XP12 : Hid (∀ w', Mod [] w12 w' → w'.cell? ⟨b, off + p * 7, none⟩ = some (.int .u32 (clientp : Int)) ∧ w'.cell? ⟨b, off + p * 7 + 1, none⟩ = some (.int .u32 (seqp : Int)) ∧ w'.cell? ⟨b, off + p * 7 + 2, none⟩ = some (.int .u8 (kindp : Int)) ∧ w'.cell? ⟨b, off + p * 7 + 3, none⟩ = some (.slice kaop keysp.length kcapp) ∧ w'.cell? ⟨b, off + p * 7 + 4, none⟩ = some (.string oldp) ∧ w'.cell? ⟨b, off + p * 7 + 5, none⟩ = some (.string freshp) ∧ w'.cell? ⟨b, off + p * 7 + 6, none⟩ = some (.int .i64 np)) := Lib.hid (fun w' m => XP.out w' (M12.out.trans' m))
            have XK12 : Hid (∀ w', Mod [] w12 w' → w'.cell? ⟨b, off + k * 7, none⟩ = some (.int .u32 (clientk : Int)) ∧ w'.cell? ⟨b, off + k * 7 + 1, none⟩ = some (.int .u32 (seqk : Int)) ∧ w'.cell? ⟨b, off + k * 7 + 2, none⟩ = some (.int .u8 (kindk : Int)) ∧ w'.cell? ⟨b, off + k * 7 + 3, none⟩ = some (.slice kaok keysk.length kcapk) ∧ w'.cell? ⟨b, off + k * 7 + 4, none⟩ = some (.string oldk) ∧ w'.cell? ⟨b, off + k * 7 + 5, none⟩ = some (.string freshk) ∧ w'.cell? ⟨b, off + k * 7 + 6, none⟩ = some (.int .i64 nk)) := Lib.hid (fun w' m => XKq.out w' (M12.out.trans' m))
            go_wp2_with fail
            refine back_to (K1 := []) m12 (by simp) ?_
            clear m12 M11 W11 XP11 XK11
            refine rest_got (i := 18) (v := ?v37) rfl (by kernel_rfl) (by kernel_rfl) (by kernel_rfl) (fun _ _ _ h => h) (by rfl) ?y37 ?r37
            case y37 => (intro w9q hSwq; clear hSwq; go_simp; with_reducible rfl)
            try simp only [Act.put, List.setIfInBounds_toArray, List.set_cons_zero, List.set_cons_succ]
            refine rest_got (i := 19) (v := ?v38) rfl (by kernel_rfl) (by kernel_rfl) (by kernel_rfl) (fun _ _ _ h => h) (by rfl) ?y38 ?r38
            case y38 => (intro w9q hSwq; clear hSwq; go_simp; with_reducible rfl)
            try simp only [Act.put, List.setIfInBounds_toArray, List.set_cons_zero, List.set_cons_succ]
            refine rest_got (i := 20) (v := ?v39) rfl (by kernel_rfl) (by kernel_rfl) (by kernel_rfl) (fun _ _ _ h => h) (by rfl) ?y39 ?r39
            case y39 => (intro w9q hSwq; clear hSwq; go_simp; with_reducible rfl)
            try simp only [Act.put, List.setIfInBounds_toArray, List.set_cons_zero, List.set_cons_succ]
            refine rest_got (i := 21) (v := ?v40) rfl (by kernel_rfl) (by kernel_rfl) (by kernel_rfl) (fun _ _ _ h => h) (by rfl) ?y40 ?r40
            case y40 => (intro w9q hSwq; clear hSwq; go_simp; with_reducible rfl)
            try simp only [Act.put, List.setIfInBounds_toArray, List.set_cons_zero, List.set_cons_succ]
            refine rest_got (i := 22) (v := ?v41) rfl (by kernel_rfl) (by kernel_rfl) (by kernel_rfl) (fun _ _ _ h => h) (by rfl) ?y41 ?r41
            case y41 => (intro w9q hSwq; clear hSwq; go_simp; with_reducible rfl)
            try simp only [Act.put, List.setIfInBounds_toArray, List.set_cons_zero, List.set_cons_succ]
            refine rest_got (i := 23) (v := ?v42) rfl (by kernel_rfl) (by kernel_rfl) (by kernel_rfl) (fun _ _ _ h => h) (by rfl) ?y42 ?r42
            case y42 => ((intro w9' hm9'; obtain ⟨hc0', hc1', hc2', hc3', hc4', hc5', hc6'⟩ := XP12.out w9' hm9'; clear hm9'; go_simp; with_reducible rfl))
            try simp only [Act.put, List.setIfInBounds_toArray, List.set_cons_zero, List.set_cons_succ]
            refine rest_got (i := 24) (v := ?v43) rfl (by kernel_rfl) (by kernel_rfl) (by kernel_rfl) (fun _ _ _ h => h) (by rfl) ?y43 ?r43
            case y43 => (intro w9q hSwq; clear hSwq; go_simp; with_reducible rfl)
            try simp only [Act.put, List.setIfInBounds_toArray, List.set_cons_zero, List.set_cons_succ]
            refine rest_got (i := 25) (v := ?v44) rfl (by kernel_rfl) (by kernel_rfl) (by kernel_rfl) (fun _ _ _ h => h) (by rfl) ?y44 ?r44
            case y44 => (intro w9q hSwq; clear hSwq; go_simp; with_reducible rfl)
            try simp only [Act.put, List.setIfInBounds_toArray, List.set_cons_zero, List.set_cons_succ]
            refine rest_got (i := 26) (v := ?v45) rfl (by kernel_rfl) (by kernel_rfl) (by kernel_rfl) (fun _ _ _ h => h) (by rfl) ?y45 ?r45
            case y45 => (intro w9q hSwq; clear hSwq; go_simp; with_reducible rfl)
            try simp only [Act.put, List.setIfInBounds_toArray, List.set_cons_zero, List.set_cons_succ]
            refine rest_got (i := 27) (v := ?v46) rfl (by kernel_rfl) (by kernel_rfl) (by kernel_rfl) (fun _ _ _ h => h) (by rfl) ?y46 ?r46
            case y46 => ((intro w9' hm9'; obtain ⟨hc0', hc1', hc2', hc3', hc4', hc5', hc6'⟩ := XK12.out w9' hm9'; clear hm9'; go_simp; with_reducible rfl))
            try simp only [Act.put, List.setIfInBounds_toArray, List.set_cons_zero, List.set_cons_succ]
            refine rest_got (i := 29) (v := ?v47) rfl (by kernel_rfl) (by kernel_rfl) (by kernel_rfl) (fun _ _ _ h => h) (by rfl) ?y47 ?r47
            case y47 => (intro w9q hSwq; clear hSwq; go_simp; with_reducible rfl)
            try simp only [Act.put, List.setIfInBounds_toArray, List.set_cons_zero, List.set_cons_succ]
            refine rest_got (i := 30) (v := ?v48) rfl (by kernel_rfl) (by kernel_rfl) (by kernel_rfl) (fun _ _ _ h => h) (by rfl) ?y48 ?r48
            case y48 => (intro w9q hSwq; clear hSwq; go_simp; with_reducible rfl)
            try simp only [Act.put, List.setIfInBounds_toArray, List.set_cons_zero, List.set_cons_succ]
            refine rest_got (i := 31) (v := ?v49) rfl (by kernel_rfl) (by kernel_rfl) (by kernel_rfl) (fun _ _ _ h => h) (by rfl) ?y49 ?r49
            case y49 => (intro w9q hSwq; clear hSwq; go_simp; with_reducible rfl)
            try simp only [Act.put, List.setIfInBounds_toArray, List.set_cons_zero, List.set_cons_succ]
            refine rest_got (i := 32) (v := ?v50) rfl (by kernel_rfl) (by kernel_rfl) (by kernel_rfl) (fun _ _ _ h => h) (by rfl) ?y50 ?r50
            case y50 => ((intro w9' hm9'; obtain ⟨hc0', hc1', hc2', hc3', hc4', hc5', hc6'⟩ := XK12.out w9' hm9'; clear hm9'; go_simp; with_reducible rfl))
            try simp only [Act.put, List.setIfInBounds_toArray, List.set_cons_zero, List.set_cons_succ]
            refine rest_got (i := 33) (v := ?v51) rfl (by kernel_rfl) (by kernel_rfl) (by kernel_rfl) (fun _ _ _ h => h) (by rfl) ?y51 ?r51
            case y51 => (intro w9q hSwq; clear hSwq; go_simp; with_reducible rfl)
            try simp only [Act.put, List.setIfInBounds_toArray, List.set_cons_zero, List.set_cons_succ]
            refine rest_got (i := 34) (v := ?v52) rfl (by kernel_rfl) (by kernel_rfl) (by kernel_rfl) (fun _ _ _ h => h) (by rfl) ?y52 ?r52
            case y52 => (intro w9q hSwq; clear hSwq; go_simp; with_reducible rfl)
            try simp only [Act.put, List.setIfInBounds_toArray, List.set_cons_zero, List.set_cons_succ]
            refine rest_got (i := 35) (v := ?v53) rfl (by kernel_rfl) (by kernel_rfl) (by kernel_rfl) (fun _ _ _ h => h) (by rfl) ?y53 ?r53
            case y53 => (intro w9q hSwq; clear hSwq; go_simp; with_reducible rfl)
            try simp only [Act.put, List.setIfInBounds_toArray, List.set_cons_zero, List.set_cons_succ]
            refine rest_got (i := 36) (v := ?v54) rfl (by kernel_rfl) (by kernel_rfl) (by kernel_rfl) (fun _ _ _ h => h) (by rfl) ?y54 ?r54
            case y54 => ((intro w9' hm9'; obtain ⟨hc0', hc1', hc2', hc3', hc4', hc5', hc6'⟩ := XP12.out w9' hm9'; clear hm9'; go_simp; with_reducible rfl))
            try simp only [Act.put, List.setIfInBounds_toArray, List.set_cons_zero, List.set_cons_succ]
            refine rest_one (i := 28) (by kernel_rfl) rfl (by rfl) ?_
            go_wp2_with fail
            refine W12.out.mono ?_
            rintro e w13 ⟨rfl, m13⟩
            have M13 := Lib.hid (M12.out.trans' m13)
            have W13 := Lib.hid (W2.out w13 M13.out)
            have XP13 : Hid (∀ w', Mod [] w13 w' → w'.cell? ⟨b, off + p * 7, none⟩ = some (.int .u32 (clientp : Int)) ∧ w'.cell? ⟨b, off + p * 7 + 1, none⟩ = some (.int .u32 (seqp : Int)) ∧ w'.cell? ⟨b, off + p * 7 + 2, none⟩ = some (.int .u8 (kindp : Int)) ∧ w'.cell? ⟨b, off + p * 7 + 3, none⟩ = some (.slice kaop keysp.length kcapp) ∧ w'.cell? ⟨b, off + p * 7 + 4, none⟩ = some (.string oldp) ∧ w'.cell? ⟨b, off + p * 7 + 5, none⟩ = some (.string freshp) ∧ w'.cell? ⟨b, off + p * 7 + 6, none⟩ = some (.int .i64 np)) := Lib.hid (fun w' m => XP.out w' (M13.out.trans' m))
            have XK13 : Hid (∀ w', Mod [] w13 w' → w'.cell? ⟨b, off + k * 7, none⟩ = some (.int .u32 (clientk : Int)) ∧ w'.cell? ⟨b, off + k * 7 + 1, none⟩ = some (.int .u32 (seqk : Int)) ∧ w'.cell? ⟨b, off + k * 7 + 2, none⟩ = some (.int .u8 (kindk : Int)) ∧ w'.cell? ⟨b, off + k * 7 + 3, none⟩ = some (.slice kaok keysk.length kcapk) ∧ w'.cell? ⟨b, off + k * 7 + 4, none⟩ = some (.string oldk) ∧ w'.cell? ⟨b, off + k * 7 + 5, none⟩ = some (.string freshk) ∧ w'.cell? ⟨b, off + k * 7 + 6, none⟩ = some (.int .i64 nk)) := Lib.hid (fun w' m => XKq.out w' (M13.out.trans' m))
            go_wp2_with fail
            refine back_to (K1 := []) m13 (by simp) ?_
            clear m13 M12 W12 XP12 XK12
            
            refine rest_one (i := 37) (by kernel_rfl) rfl (by rfl) ?_
            go_wp2_with fail
            refine W13.out.mono ?_
            rintro e w14 ⟨rfl, m14⟩
            have M14 := Lib.hid (M13.out.trans' m14)
            go_wp2_with fail
            refine back_to (K1 := []) m14 (by simp) ?_
            clear m14 M13 W13 XP13 XK13
            refine rest_got (i := 38) (v := ?v55) rfl (by kernel_rfl) (by kernel_rfl) (by kernel_rfl) (fun _ _ _ h => h) (by rfl) ?y55 ?r55
            case y55 => (intro w9q hSwq; clear hSwq; go_simp; with_reducible rfl)
            try simp only [Act.put, List.setIfInBounds_toArray, List.set_cons_zero, List.set_cons_succ]
            refine rest_got (i := 39) (v := ?v56) rfl (by kernel_rfl) (by kernel_rfl) (by kernel_rfl) (fun _ _ _ h => h) (by rfl) ?y56 ?r56
            case y56 => (intro w9q hSwq; clear hSwq; go_simp; with_reducible rfl)
            try simp only [Act.put, List.setIfInBounds_toArray, List.set_cons_zero, List.set_cons_succ]
            refine rest_done (by kernel_rfl) ?_ _
            go_wp2
            go_roundw
            case rel => exact ⟨p + 1, by omega, by go_num, HMq.out.trans' M14.out⟩
            case measure => simp [intOf]; omega
          · go_wp2
            go_roundw
            case rel => exact ⟨k + 1, by omega, by go_num, by rw [HTK.out], HM.out.trans' HMq.out⟩
            case measure => simp [intOf]; omega
        · have hpe : p = k := by omega
          subst hpe
          go_wp2
          go_roundw
          case rel => exact ⟨p + 1, by omega, by go_num, by rw [HTK.out], HM.out.trans' HMq.out⟩
          case measure => simp [intOf]; omega
    · have hke : k = len := by omega
      subst hke
      have ht : topOf (ws.take k) = tp := by rw [List.take_of_length_le (by rw [HLW.out]; exact Nat.le_refl _), HTP.out]
      rw [ht]
      have HGR := Lib.hid (HGP.out wr HM.out)
      clear ht HGP
      go_wp2_with fail
      refine HGR.out.mono ?_
      rintro e w5 ⟨go, cg, rfl, m5, hrows⟩
      have HROW := Lib.hid hrows
      have HM5 := Lib.hid (HM.out.trans' m5)
      clear hrows m5 HGR
      rw [HLW.out] at HROW
      go_wp2
      go_loopw [9, 10, 11] (fun s9 _ _ wq => ∃ j : Nat, j ≤ tp ∧ s9 = .int .i64 (j : Int) ∧ Mod [] w5 wq) (fun s9 _ _ _ => tp - (intOf s9).toNat)
      case atStart => exact ⟨0, Nat.zero_le _, rfl, Mod.refl _ _⟩
      case round =>
        rename World => wq
        obtain ⟨j, hj, rfl, hmq⟩ := hrel
        have HMq := Lib.hid hmq
        clear hmq
        by_cases hjt : j < tp
        · obtain ⟨g, ar, ac, rfl, hcg, hrow⟩ := HROW.out j hjt
          have HCG := Lib.hid (HMq.out.cell hcg List.not_mem_nil)
          have HRW := Lib.hid (hrow.mod0 HMq.out)
          obtain ⟨pn, hpn⟩ : ∃ x, (places ws k j).length = x := ⟨_, rfl⟩
          rw [hpn] at HCG
          have HPN := Lib.hid hpn
          clear hcg hrow hpn
          go_wp2
          go_loopw [10, 11] (fun s10 s11 wz => ∃ i n : Nat, i ≤ k ∧ s11 = .int .i64 (i : Int) ∧ s10 = .int .i64 (n : Int) ∧ (places ws i j).length = n ∧ wz = wq) (fun _ s11 _ => k - (intOf s11).toNat)
          case atStart => exact ⟨0, 0, Nat.zero_le _, rfl, rfl, rfl, rfl⟩
          case round =>
            obtain ⟨i, n, hi, rfl, rfl, hn, rfl⟩ := hrel
            have HN := Lib.hid hn
            have hni := places_le ws i j
            rw [hn] at hni
            clear hn
            by_cases hik : i < k
            · have hiw : i < ws.length := by rw [HLW.out]; exact hik
              obtain ⟨v, hv⟩ : ∃ v, ws[i]? = some v := ⟨_, List.getElem?_eq_getElem hiw⟩
              obtain rfl := HAB.out (by omega)
              have hcb := (HM5.out.trans' HMq.out).cell (CB.out i v hv) List.not_mem_nil
              have hcg := HCG.out
              by_cases hvj : v = j
              · subst hvj
                have hat := places_at hv hik
                have hnp : n < pn := by
                  have := some_lt hat
                  rw [HN.out, HPN.out] at this
                  exact this
                rw [HN.out] at hat
                obtain ⟨gr, rfl, hcr⟩ := pos_own HRW.out hat
                have HYN : Hid ((places ws (i + 1) v).length = n + 1) := Lib.hid (by rw [places_yes hv, List.length_append, HN.out]; rfl)
                have DE : ((v : Int) == (v : Int)) = true := beq_self_eq_true _
                have DG : decide (pn ≤ n) = false := decide_eq_false (by omega)
                clear hat hv
                go_wp2
                go_roundw
                case rel => exact ⟨i + 1, n + 1, by omega, by go_num, by go_num, HYN.out, by first | rfl | trivial⟩
                case measure => simp [intOf]; omega
              · have DE : ((v : Int) == (j : Int)) = false := by rw [beq_eq_false_iff_ne]; omega
                have HNN : Hid ((places ws (i + 1) j).length = n) := Lib.hid (by rw [places_no hv (fun e => hvj e.symm), HN.out])
                clear hv
                go_wp2
                go_roundw
                case rel => exact ⟨i + 1, n, by omega, by go_num, rfl, HNN.out, by first | rfl | trivial⟩
                case measure => simp [intOf]; omega
            · have hie : i = k := by omega
              subst hie
              obtain rfl : pn = n := by rw [← HPN.out, ← HN.out]
              have hcg := HCG.out
              go_wp2
              go_roundw
              case rel => exact ⟨j + 1, by omega, by go_num, HMq.out⟩
              case measure => simp [intOf]; omega
        · have hje : j = tp := by omega
          subst hje
          go_wp2_with fail
          refine (wakes12_any wq).mono ?_
          rintro e wz ⟨rfl, mz⟩
          go_wp2
          go_ret
          exact ⟨rfl, ((HM3.out.trans' HM5.out).trans' HMq.out).trans' mz⟩
end Go.Proofs.Ytkkjbeakmimmmaa
