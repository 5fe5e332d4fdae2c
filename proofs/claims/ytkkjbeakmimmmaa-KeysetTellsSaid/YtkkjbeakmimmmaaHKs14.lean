/- The reference's waves. -/
import Derived.Test.YtkkjbeakmimmmaaHKs13
import Derived.Test.YtkkjbeakmimmmaaZ3
import Derived.Handy
namespace Go.Proofs.Ytkkjbeakmimmmaa
open Go Go.RowKit Go.Lib

/-- The wave so far, of command number i, behind k others. -/
def Part (cs : List Cd) (ws : List Nat) (c : Cd) (k v : Nat) : Prop :=
  (∀ (j : Nat) (d : Cd) (u : Nat), j < k → cs[j]? = some d → ws[j]? = some u → way d c = true → u + 1 ≤ v) ∧ (v = 0 ∨ ∃ (j : Nat) (d : Cd) (u : Nat), j < k ∧ cs[j]? = some d ∧ ws[j]? = some u ∧ way d c = true ∧ v = u + 1)
theorem Part.start (cs : List Cd) (ws : List Nat) (c : Cd) : Part cs ws c 0 0 := ⟨fun j d u h => absurd h (Nat.not_lt_zero _), .inl rfl⟩
theorem Part.yes {cs : List Cd} {ws : List Nat} {c : Cd} {k v : Nat} (h : Part cs ws c k v) {d : Cd} {u : Nat} (hd : cs[k]? = some d) (hu : ws[k]? = some u) (hw : way d c = true) : Part cs ws c (k + 1) (max v (u + 1)) := by
  refine ⟨fun j d' u' hj hd' hu' hw' => ?_, ?_⟩
  · rcases Nat.lt_or_ge j k with h1 | h1
    · exact Nat.le_trans (h.1 j d' u' h1 hd' hu' hw') (Nat.le_max_left _ _)
    · obtain rfl : j = k := by omega
      rw [hu] at hu'
      cases hu'
      exact Nat.le_max_right _ _
  · by_cases hx : u + 1 ≤ v
    · rw [Nat.max_eq_left hx]
      rcases h.2 with h0 | ⟨j, d', u', h1, h2, h3, h4, h5⟩
      · exact .inl h0
      · exact .inr ⟨j, d', u', by omega, h2, h3, h4, h5⟩
    · rw [Nat.max_eq_right (by omega)]
      exact .inr ⟨k, d, u, Nat.lt_succ_self _, hd, hu, hw, rfl⟩
theorem Part.no {cs : List Cd} {ws : List Nat} {c : Cd} {k v : Nat} (h : Part cs ws c k v) {d : Cd} (hd : cs[k]? = some d) (hw : way d c = false) : Part cs ws c (k + 1) v := by
  refine ⟨fun j d' u' hj hd' hu' hw' => ?_, ?_⟩
  · rcases Nat.lt_or_ge j k with h1 | h1
    · exact h.1 j d' u' h1 hd' hu' hw'
    · obtain rfl : j = k := by omega
      rw [hd] at hd'
      cases hd'
      rw [hw] at hw'
      cases hw'
  · rcases h.2 with h0 | ⟨j, d', u', h1, h2, h3, h4, h5⟩
    · exact .inl h0
    · exact .inr ⟨j, d', u', by omega, h2, h3, h4, h5⟩
theorem Part.done {cs : List Cd} {ws : List Nat} {c : Cd} {i v : Nat} (h : Part cs ws c i v) (hi : ws.length = i) (hl : i < cs.length) (hc : cs[i]? = some c) (hI : IsW (cs.take i) ws) : IsW (cs.take (i + 1)) (ws ++ [v]) := by
  have hci : cs[i] = c := by rw [List.getElem?_eq_getElem hl] at hc; exact Option.some.inj hc
  rw [take_snoc cs i hl, hci]
  refine hI.snoc c v (fun k d u h1 h2 h3 => ?_) ?_
  · have hk : k < i := by have := some_lt h2; omega
    rw [List.getElem?_take_of_lt hk] at h1
    exact h.1 k d u hk h1 h2 h3
  · rcases h.2 with h0 | ⟨j, d', u', h1, h2, h3, h4, h5⟩
    · exact .inl h0
    · exact .inr ⟨j, d', u', by rw [List.getElem?_take_of_lt h1]; exact h2, h3, h4, h5⟩
set_option maxRecDepth 100000 in
set_option maxHeartbeats 8000000 in
theorem refWaves_any (ao : Option Addr) (len cap : Nat) (l : List Cm) (w : World) (hl : l.length = len) (hs : SeesC w ao l) (hlen : len ≤ 100000) (hks : ∀ j (h : j < l.length), l[j].1.keys.length ≤ 100000) :
    Calls Try.prog 10 #[.slice ao len cap] w (WavesR w (l.map (·.1))) := by
  unfold WavesR
  rw [List.length_map, hl]
  have HE : Hid (∀ ws, IsW (l.map (·.1)) ws → ws = (runF (l.map (·.1))).2) := Lib.hid fun ws h => h.unique (runF_isW _)
  obtain ⟨rw0, hrw⟩ : ∃ x, (runF (l.map (·.1))).2 = x := ⟨_, rfl⟩
  rw [hrw] at HE ⊢
  obtain ⟨cds, hcds⟩ : ∃ x, l.map (·.1) = x := ⟨_, rfl⟩
  rw [hcds] at HE
  have HC : Hid (∀ j (h : j < l.length), cds[j]? = some l[j].1) := Lib.hid fun j h => by rw [← hcds, List.getElem?_map, List.getElem?_eq_getElem h]; rfl
  have HCL : Hid (cds.length = len) := Lib.hid (by rw [← hcds, List.length_map, hl])
  have HS := Lib.hid hs
  have HL := Lib.hid hl
  have HKS := Lib.hid hks
  clear hs hl hks hrw hcds
  go_enter Try.func10, Try.ntmps10
  go_wp2
  go_loopw [3, 4] (fun s3 i wr => ∃ (j : Nat) (oa : Option Addr) (oc : Nat) (ws : List Nat), j ≤ len ∧ i = .int .i64 (j : Int) ∧ s3 = .slice oa j oc ∧ ws.length = j ∧ OwnM natV wr 3 oa oc ws ∧ (∀ b, b ∈ blk oa → w.heap.size ≤ b) ∧ IsW (cds.take j) ws ∧ (∀ (k u : Nat), ws[k]? = some u → u ≤ k) ∧ Mod [] w wr) (fun _ i _ => len - (intOf i).toNat)
  case atStart => exact ⟨0, none, 0, [], Nat.zero_le _, rfl, rfl, rfl, OwnM.nil _ _ _, fun j hj => by simp [blk] at hj, IsW.nil, fun k u h => by simp at h, Mod.refl _ _⟩
  case round =>
    obtain ⟨i, oa, oc, ws, hi, rfl, rfl, hwl, ho, hb, hIs, hle, hm⟩ := hrel
    have HWL := Lib.hid hwl
    have HO := Lib.hid ho
    have HB := Lib.hid hb
    have HIS := Lib.hid hIs
    have HLE := Lib.hid hle
    have HM := Lib.hid hm
    clear hwl ho hb hIs hle hm
    by_cases hlt : i < len
    · have hil : i < l.length := by rw [HL.out]; exact hlt
      have hci2 := HC.out i hil
      have HKi := Lib.hid (HKS.out i hil)
      obtain ⟨b, off, rfl, d0, d1, d2, d3, d4, d5, d6, ht', -⟩ := HS.out i hil
      obtain ⟨ci, hci⟩ : ∃ x, l[i] = x := ⟨_, rfl⟩
      rw [hci] at hci2 HKi d0 d1 d2 d3 d4 d5 d6 ht'
      clear hci
      obtain ⟨PP, hPP⟩ : ∃ P : Nat → Nat → Prop, Part cds ws ci.1 = P := ⟨_, rfl⟩
      have HST : Hid (PP 0 0) := Lib.hid (hPP ▸ Part.start _ _ _)
      have HYS : Hid (∀ k v d u, PP k v → cds[k]? = some d → ws[k]? = some u → way d ci.1 = true → PP (k + 1) (max v (u + 1))) := Lib.hid (by subst hPP; exact fun k v d u h1 h2 h3 h4 => h1.yes h2 h3 h4)
      have HNS : Hid (∀ k v d, PP k v → cds[k]? = some d → way d ci.1 = false → PP (k + 1) v) := Lib.hid (by subst hPP; exact fun k v d h1 h2 h3 => h1.no h2 h3)
      have HDN : Hid (∀ v, PP i v → IsW (cds.take (i + 1)) (ws ++ [v])) := Lib.hid (by subst hPP; exact fun v h => h.done HWL.out (by rw [HCL.out]; exact hlt) hci2 HIS.out)
      clear hPP hci2
      have D0 := Lib.hid d0
      have D1 := Lib.hid d1
      have D2 := Lib.hid d2
      have D3 := Lib.hid d3
      have D4 := Lib.hid d4
      have D5 := Lib.hid d5
      have D6 := Lib.hid d6
      have HT' := Lib.hid ht'
      clear d0 d1 d2 d3 d4 d5 d6 ht'
      go_wp2
      go_loopw [5, 6] (fun s5 k wq => ∃ p v : Nat, p ≤ i ∧ k = .int .i64 (p : Int) ∧ s5 = .int .i64 (v : Int) ∧ v ≤ p ∧ PP p v ∧ Mod [] wr wq) (fun _ k _ => i - (intOf k).toNat)
      case atStart => exact ⟨0, 0, Nat.zero_le _, rfl, rfl, Nat.le_refl _, HST.out, Mod.refl _ _⟩
      case round =>
        rename World => wq
        obtain ⟨p, v, hp, rfl, rfl, hvp, hpart, hmq⟩ := hrel
        have HP := Lib.hid hpart
        have HMq := Lib.hid hmq
        clear hpart hmq
        by_cases hpi : p < i
        · have hpl : p < l.length := by omega
          have hpw : p < ws.length := by rw [HWL.out]; exact hpi
          obtain ⟨u, hu⟩ : ∃ u, ws[p]? = some u := ⟨_, List.getElem?_eq_getElem hpw⟩
          have hu' : ws[p]'hpw = u := by rw [List.getElem?_eq_getElem hpw] at hu; exact Option.some.inj hu
          have hup := HLE.out p u hu
          obtain ⟨gw, rfl, hcu, -⟩ := OwnM.at' HO.out (j := p) hpw
          rw [hu'] at hcu
          have hcu5 : wq.cell? ⟨gw, p, none⟩ = some (.int .i64 (u : Int)) := HMq.out.cell hcu (by simp)
          have HMw := Lib.hid (HM.out.trans' HMq.out)
          obtain ⟨b', off', eb, c0, c1, c2, c3, c4, c5, c6, ht, hfw⟩ := (HS.out.mod0 HMw.out) p hpl
          cases eb
          have d0 := HMw.out.cell D0.out List.not_mem_nil
          have d1 := HMw.out.cell D1.out List.not_mem_nil
          have d2 := HMw.out.cell D2.out List.not_mem_nil
          have d3 := HMw.out.cell D3.out List.not_mem_nil
          have d4 := HMw.out.cell D4.out List.not_mem_nil
          have d5 := HMw.out.cell D5.out List.not_mem_nil
          have d6 := HMw.out.cell D6.out List.not_mem_nil
          have ht2 := HT'.out.mod0 HMw.out
          have hkp := HKS.out p hpl
          have hcp2 := HC.out p hpl
          obtain ⟨cp, hcp⟩ : ∃ x, l[p] = x := ⟨_, rfl⟩
          rw [hcp] at c0 c1 c2 c3 c4 c5 c6 ht hkp hcp2
          have HKK := HKi.out
          have HWY : Hid (∀ w', Mod [] wq w' → Calls Try.prog 12 #[cmdV cp, cmdV ci] w' fun e w2 => e = .returned (.bool (way cp.1 ci.1)) ∧ Mod [] w' w2) := Lib.hid (fun w' m => refWay_any cp ci w' (ht.mod0 m) hkp (ht2.mod0 m) HKK)
          obtain ⟨bw, hbw⟩ : ∃ x, way cp.1 ci.1 = x := ⟨_, rfl⟩
          rw [hbw] at HWY
          have HY : Hid (bw = true → PP (p + 1) (max v (u + 1))) := Lib.hid fun h => HYS.out p v cp.1 u HP.out hcp2 hu (hbw.trans h)
          have HN : Hid (bw = false → PP (p + 1) v) := Lib.hid fun h => HNS.out p v cp.1 HP.out hcp2 (hbw.trans h)
          have UP := Lib.hid hcu5
          clear hcp hbw ht ht2 hkp hfw hu hu' hcu hcp2 HKK hcu5 HKi HYS HNS HDN HT' D0 D1 D2 D3 D4 D5 D6 HP
          obtain ⟨⟨clientp, seqp, kindp, keysp, oldp, freshp, np⟩, kaop, kcapp⟩ := cp
          obtain ⟨⟨clienti, seqi, kindi, keysi, oldi, freshi, ni⟩, kaoi, kcapi⟩ := ci
          dsimp only at c0 c1 c2 c3 c4 c5 c6 d0 d1 d2 d3 d4 d5 d6
          have XP : Hid (∀ w', Mod [] wq w' → w'.cell? ⟨b, off + p * 7, none⟩ = some (.int .u32 (clientp : Int)) ∧ w'.cell? ⟨b, off + p * 7 + 1, none⟩ = some (.int .u32 (seqp : Int)) ∧ w'.cell? ⟨b, off + p * 7 + 2, none⟩ = some (.int .u8 (kindp : Int)) ∧ w'.cell? ⟨b, off + p * 7 + 3, none⟩ = some (.slice kaop keysp.length kcapp) ∧ w'.cell? ⟨b, off + p * 7 + 4, none⟩ = some (.string oldp) ∧ w'.cell? ⟨b, off + p * 7 + 5, none⟩ = some (.string freshp) ∧ w'.cell? ⟨b, off + p * 7 + 6, none⟩ = some (.int .i64 np)) := Lib.hid (fun w' m => ⟨m.cell c0 List.not_mem_nil, m.cell c1 List.not_mem_nil, m.cell c2 List.not_mem_nil, m.cell c3 List.not_mem_nil, m.cell c4 List.not_mem_nil, m.cell c5 List.not_mem_nil, m.cell c6 List.not_mem_nil⟩)
          have XI : Hid (∀ w', Mod [] wq w' → w'.cell? ⟨b, off + i * 7, none⟩ = some (.int .u32 (clienti : Int)) ∧ w'.cell? ⟨b, off + i * 7 + 1, none⟩ = some (.int .u32 (seqi : Int)) ∧ w'.cell? ⟨b, off + i * 7 + 2, none⟩ = some (.int .u8 (kindi : Int)) ∧ w'.cell? ⟨b, off + i * 7 + 3, none⟩ = some (.slice kaoi keysi.length kcapi) ∧ w'.cell? ⟨b, off + i * 7 + 4, none⟩ = some (.string oldi) ∧ w'.cell? ⟨b, off + i * 7 + 5, none⟩ = some (.string freshi) ∧ w'.cell? ⟨b, off + i * 7 + 6, none⟩ = some (.int .i64 ni)) := Lib.hid (fun w' m => ⟨m.cell d0 List.not_mem_nil, m.cell d1 List.not_mem_nil, m.cell d2 List.not_mem_nil, m.cell d3 List.not_mem_nil, m.cell d4 List.not_mem_nil, m.cell d5 List.not_mem_nil, m.cell d6 List.not_mem_nil⟩)
          clear c0 c1 c2 c3 c4 c5 c6 d0 d1 d2 d3 d4 d5 d6
          have hltp : (p : Int) < (len : Int) := by omega
          have hlti : (i : Int) < (len : Int) := by omega
          go_upto_region 9 with (fail)
          refine rest_start [] 9 #[false, false, false, false, false, false, false, false, false] rfl (by kernel_rfl) (by kernel_rfl) ?_
          intro w6 m6
          have XP6 : Hid (∀ w', Mod [] w6 w' → w'.cell? ⟨b, off + p * 7, none⟩ = some (.int .u32 (clientp : Int)) ∧ w'.cell? ⟨b, off + p * 7 + 1, none⟩ = some (.int .u32 (seqp : Int)) ∧ w'.cell? ⟨b, off + p * 7 + 2, none⟩ = some (.int .u8 (kindp : Int)) ∧ w'.cell? ⟨b, off + p * 7 + 3, none⟩ = some (.slice kaop keysp.length kcapp) ∧ w'.cell? ⟨b, off + p * 7 + 4, none⟩ = some (.string oldp) ∧ w'.cell? ⟨b, off + p * 7 + 5, none⟩ = some (.string freshp) ∧ w'.cell? ⟨b, off + p * 7 + 6, none⟩ = some (.int .i64 np)) := Lib.hid (fun w' m => XP.out w' (m6.trans' m))
          have XI6 : Hid (∀ w', Mod [] w6 w' → w'.cell? ⟨b, off + i * 7, none⟩ = some (.int .u32 (clienti : Int)) ∧ w'.cell? ⟨b, off + i * 7 + 1, none⟩ = some (.int .u32 (seqi : Int)) ∧ w'.cell? ⟨b, off + i * 7 + 2, none⟩ = some (.int .u8 (kindi : Int)) ∧ w'.cell? ⟨b, off + i * 7 + 3, none⟩ = some (.slice kaoi keysi.length kcapi) ∧ w'.cell? ⟨b, off + i * 7 + 4, none⟩ = some (.string oldi) ∧ w'.cell? ⟨b, off + i * 7 + 5, none⟩ = some (.string freshi) ∧ w'.cell? ⟨b, off + i * 7 + 6, none⟩ = some (.int .i64 ni)) := Lib.hid (fun w' m => XI.out w' (m6.trans' m))
          have M6 := Lib.hid m6
          have HWY6 := Lib.hid (HWY.out w6 m6)
          clear m6
          refine rest_got (i := 0) (v := ?v1) rfl (by kernel_rfl) (by kernel_rfl) (by kernel_rfl) (fun _ _ _ h => h) (by rfl) ?y1 ?r1
          case y1 => (intro w9q hSwq; clear hSwq; go_simp; with_reducible rfl)
          try simp only [Act.put, List.setIfInBounds_toArray, List.set_cons_zero, List.set_cons_succ]
          refine rest_got (i := 1) (v := ?v2) rfl (by kernel_rfl) (by kernel_rfl) (by kernel_rfl) (fun _ _ _ h => h) (by rfl) ?y2 ?r2
          case y2 => (intro w9q hSwq; clear hSwq; go_simp; with_reducible rfl)
          try simp only [Act.put, List.setIfInBounds_toArray, List.set_cons_zero, List.set_cons_succ]
          refine rest_got (i := 2) (v := ?v3) rfl (by kernel_rfl) (by kernel_rfl) (by kernel_rfl) (fun _ _ _ h => h) (by rfl) ?y3 ?r3
          case y3 => (intro w9q hSwq; clear hSwq; go_simp; with_reducible rfl)
          try simp only [Act.put, List.setIfInBounds_toArray, List.set_cons_zero, List.set_cons_succ]
          refine rest_got (i := 3) (v := ?v4) rfl (by kernel_rfl) (by kernel_rfl) (by kernel_rfl) (fun _ _ _ h => h) (by rfl) ?y4 ?r4
          case y4 => ((intro w9' hm9'; obtain ⟨hc0', hc1', hc2', hc3', hc4', hc5', hc6'⟩ := XP6.out w9' hm9'; clear hm9'; go_simp; with_reducible rfl))
          try simp only [Act.put, List.setIfInBounds_toArray, List.set_cons_zero, List.set_cons_succ]
          refine rest_got (i := 4) (v := ?v5) rfl (by kernel_rfl) (by kernel_rfl) (by kernel_rfl) (fun _ _ _ h => h) (by rfl) ?y5 ?r5
          case y5 => (intro w9q hSwq; clear hSwq; go_simp; with_reducible rfl)
          try simp only [Act.put, List.setIfInBounds_toArray, List.set_cons_zero, List.set_cons_succ]
          refine rest_got (i := 5) (v := ?v6) rfl (by kernel_rfl) (by kernel_rfl) (by kernel_rfl) (fun _ _ _ h => h) (by rfl) ?y6 ?r6
          case y6 => (intro w9q hSwq; clear hSwq; go_simp; with_reducible rfl)
          try simp only [Act.put, List.setIfInBounds_toArray, List.set_cons_zero, List.set_cons_succ]
          refine rest_got (i := 6) (v := ?v7) rfl (by kernel_rfl) (by kernel_rfl) (by kernel_rfl) (fun _ _ _ h => h) (by rfl) ?y7 ?r7
          case y7 => (intro w9q hSwq; clear hSwq; go_simp; with_reducible rfl)
          try simp only [Act.put, List.setIfInBounds_toArray, List.set_cons_zero, List.set_cons_succ]
          refine rest_got (i := 7) (v := ?v8) rfl (by kernel_rfl) (by kernel_rfl) (by kernel_rfl) (fun _ _ _ h => h) (by rfl) ?y8 ?r8
          case y8 => ((intro w9' hm9'; obtain ⟨hc0', hc1', hc2', hc3', hc4', hc5', hc6'⟩ := XI6.out w9' hm9'; clear hm9'; go_simp; with_reducible rfl))
          try simp only [Act.put, List.setIfInBounds_toArray, List.set_cons_zero, List.set_cons_succ]
          refine rest_one (i := 8) (by kernel_rfl) rfl (by rfl) ?_
          go_wp2_with fail
          refine HWY6.out.mono ?_
          rintro e w7 ⟨rfl, m7⟩
          have M7 := Lib.hid (M6.out.trans' m7)
          go_wp2_with fail
          refine back_to (K1 := []) m7 (by simp) ?_
          clear m7 XP6 XI6 M6 HWY6 HWY XP XI
          refine rest_done (by kernel_rfl) ?_ _
          cases bw with
          | true =>
            have hpt := Lib.hid (HY.out rfl)
            have c8 := M7.out.cell UP.out List.not_mem_nil
            obtain ⟨mv, hmv⟩ : ∃ x, max v (u + 1) = x := ⟨_, rfl⟩
            rw [hmv] at hpt
            have hmp : mv ≤ p + 1 := by omega
            have e1 : max (v : Int) ((u : Int) + 1) = (mv : Int) := by omega
            clear hmv
            go_wp2
            go_roundw
            case rel => exact ⟨p + 1, mv, by omega, by go_num, by first | rfl | trivial, hmp, hpt.out, HMq.out.trans' M7.out⟩
            case measure => simp [intOf]; omega
          | false =>
            have hpt := Lib.hid (HN.out rfl)
            go_wp2
            go_roundw
            case rel => exact ⟨p + 1, v, by omega, by go_num, by first | rfl | trivial, by omega, hpt.out, HMq.out.trans' M7.out⟩
            case measure => simp [intOf]; omega
        · have hpe : p = i := by omega
          subst hpe
          have HIS' := Lib.hid (HDN.out v HP.out)
          have HMw := Lib.hid (HM.out.trans' HMq.out)
          have HOq := Lib.hid (HO.out.mod0 HMq.out)
          obtain ⟨w3, hw3, hh3⟩ : ∃ w3, wq.alloc (.cells #[.int .i64 (v : Int)] 3) = w3 ∧ w3.heap[wq.heap.size]? = some (.cells #[.int .i64 (v : Int)] 3 (0, 0)) := ⟨_, rfl, heap_alloc_new _ _⟩
          have m3 : Mod [] wq w3 := hw3 ▸ Mod.alloc _ _ _
          have SH : Hid (Shows w3 (some ⟨wq.heap.size, 0, none⟩) (List.map natV [v])) := Lib.hid (shows_one (f := natV) hh3)
          have HO3 := Lib.hid (OwnM.mod0 HOq.out m3)
          have HM3 := Lib.hid (HMw.out.trans' m3)
          clear m3 hh3 HO HOq HMw HM HMq HP HDN HYS HNS HST HIS D0 D1 D2 D3 D4 D5 D6 HT' HKi
          go_wp2_with (first | (at_builtin; refine wpl_appM (f := natV) (dst := some 37) _ _ 25 _ 8 Try.underlying25 infoInt rfl (fun _ => rfl) p ws rfl HWL.out HO3.out _ 1 1 [v] rfl rfl SH.out (by omega) (by omega) ?_) | fail)
          intro a9 c9 w9 o9 m9 s9
          have HO9 := Lib.hid o9
          have HM9 := Lib.hid (HM3.out.trans m9 (fun i hi hl => by have := (HB.out i hi); omega))
          have HB9 : Hid (∀ j, j ∈ blk a9 → w.heap.size ≤ j) := Lib.hid (fun j hj => by
            rcases s9.blk j hj with h | h
            · exact HB.out j h
            · have := HM3.out.size; omega)
          clear o9 m9 s9 HO3 HM3 SH hw3
          have HLE9 : Hid (∀ (k u : Nat), (ws ++ [v])[k]? = some u → u ≤ k) := Lib.hid (fun k u h => by
            rcases snoc_some ws v k u h with h1 | ⟨h1, h2⟩
            · exact HLE.out k u h1
            · rw [HWL.out] at h1
              omega)
          go_wp2
          go_roundw
          case rel => exact ⟨p + 1, a9, c9, ws ++ [v], by omega, by go_num, by first | rfl | trivial, by rw [List.length_append, HWL.out]; rfl, HO9.out, HB9.out, HIS'.out, HLE9.out, HM9.out⟩
          case measure => simp [intOf]; omega
    · have hie : i = len := by omega
      subst hie
      have hI := HIS.out
      rw [List.take_of_length_le (by rw [HCL.out]; exact Nat.le_refl _)] at hI
      have HR := Lib.hid (HE.out ws hI)
      clear hI
      go_wp2
      go_ret
      exact ⟨oa, oc, rfl, by rw [← HR.out]; exact HO.out, HB.out, HM.out⟩
end Go.Proofs.Ytkkjbeakmimmmaa
