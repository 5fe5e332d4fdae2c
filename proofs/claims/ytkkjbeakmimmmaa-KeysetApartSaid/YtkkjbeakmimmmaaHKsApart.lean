/- The walk of the law KeysetApart. -/
import Derived.Test.YtkkjbeakmimmmaaZ3
import Derived.Test.YtkkjbeakmimmmaaHKs9
namespace Go.Proofs.Ytkkjbeakmimmmaa
open Go Go.RowKit Go.Lib Go.MapKept

/-- Which waves were seen. -/
def Seen (F : Value → Option Value) (ws : List Nat) (n : Nat) : Prop := (∀ v : Nat, v ∈ ws ↔ v < n) ∧ ∀ v : Nat, F (natV v) = if v < n then some (.bool true) else none
theorem natV_inj {a b : Nat} (h : natV a = natV b) : a = b := by
  have := (Value.int.inj h).2
  omega
open Classical in
theorem Seen.step {F : Value → Option Value} {ws : List Nat} {n v : Nat} (h : Seen F ws n) (hd : v = 0 ∨ v - 1 ∈ ws) :
    Seen (fun x => if x = natV v then some (.bool true) else F x) (ws ++ [v]) (if (F (natV v)).isSome then n else n + 1) ∧ max ((n : Int) - 1) (v : Int) = (((if (F (natV v)).isSome then n else n + 1) : Nat) : Int) - 1 := by
  obtain ⟨h1, h2⟩ := h
  have hv := h2 v
  by_cases hn : v < n
  · rw [if_pos hn] at hv
    rw [hv]
    refine ⟨⟨fun u => ?_, fun u => ?_⟩, ?_⟩
    · rw [List.mem_append, List.mem_singleton, h1]
      simp
      omega
    · by_cases hu : u = v
      · subst hu; simp [hn]
      · show (if natV u = natV v then _ else _) = _
        rw [if_neg (fun e => hu (natV_inj e)), h2]
        simp
    · simp; omega
  · rw [if_neg hn] at hv
    rw [hv]
    have hvn : v = n := by
      rcases hd with h | h
      · omega
      · have := (h1 _).1 h; omega
    subst hvn
    refine ⟨⟨fun u => ?_, fun u => ?_⟩, ?_⟩
    · rw [List.mem_append, List.mem_singleton, h1]
      simp
      omega
    · by_cases hu : u = v
      · subst hu; simp
      · show (if natV u = natV v then _ else _) = _
        rw [if_neg (fun e => hu (natV_inj e)), h2]
        simp only [Option.isSome_none, Bool.false_eq_true, if_false]
        by_cases h3 : u < v
        · rw [if_pos h3, if_pos (by omega)]
        · rw [if_neg h3, if_neg (by omega)]
    · simp; omega
open Classical in
set_option maxRecDepth 100000 in
set_option maxHeartbeats 8000000 in
theorem keysetApart_any (ao : Option Addr) (len cap : Nat) (l : List Cm) (w : World) (hl : l.length = len) (hlen : len ≤ 9223372036854775807) (hs : SeesC w ao l) :
    Calls Try.prog 3 #[.slice ao len cap] w fun e w' => e = .returned (.bool true) ∧ Mod [] w w' := by
  have HS := Lib.hid hs
  have HL := Lib.hid hl
  have HG := Lib.hid (great_any ao len cap l w hl hs (by omega))
  clear hs hl
  go_enter Try.func3, Try.ntmps3
  go_wp2_with fail
  refine HG.out.mono ?_
  rintro e w1 ⟨gb, rfl, m1, hgr⟩
  have HM1 := Lib.hid m1
  cases gb
  case true =>
    clear hgr m1
    go_wp2_with fail
    refine (wakes12_any w1).mono ?_
    rintro e w2 ⟨rfl, m2⟩
    have HM2 := Lib.hid (HM1.out.trans' m2)
    clear m2
    go_wp2_with fail
    go_ret
    exact ⟨rfl, HM2.out⟩
  have hsm := hgr rfl
  have HS1 := Lib.hid (HS.out.mod0 m1)
  have hl100 : len ≤ 100 := by have := hsm.1; have := HL.out; omega
  have HK : Hid (∀ (j : Nat) (h : j < l.length), l[j].1.keys.length ≤ 100000) := Lib.hid (fun j h => by have := (hsm.2 _ (List.getElem_mem h)).1; omega)
  have HW := Lib.hid (waves_any ao len cap l w1 HL.out HS1.out (by omega) HK.out)
  unfold WavesR at HW
  rw [List.length_map, HL.out] at HW
  clear hgr m1 hsm HG
  go_wp2_with fail
  refine HW.out.mono ?_
  rintro e w2 ⟨ow, cw, rfl, ho, hb, m2⟩
  obtain ⟨ws, hws⟩ : ∃ x, (runF (l.map (·.1))).2 = x := ⟨_, rfl⟩
  have hisW := runF_isW (l.map (·.1))
  rw [hws] at ho hisW
  have HIS := Lib.hid hisW
  have HM2 := Lib.hid (HM1.out.trans' m2)
  have hlw : ws.length = len := by have := hisW.1; rw [List.length_map, HL.out] at this; exact this
  have HLW := Lib.hid hlw
  have m3 := Mod.alloc [] w2 (.map #[] 0)
  have hF := MapF.made w2 (.int .i64)
  have HO := Lib.hid (ho.mod0 m3)
  have HB : Hid (∀ j, j ∈ blk ow → j ≠ w2.heap.size) := Lib.hid (fun j hj => by have := ho.lt j hj; omega)
  have HS3 := Lib.hid ((HS1.out.mod0 m2).mod0 m3)
  have HM3 := Lib.hid (HM2.out.trans' m3)
  have hz2 := HM2.out.size
  obtain ⟨w3, hw3⟩ : ∃ x, w2.alloc (.map #[] 0) = x := ⟨_, rfl⟩
  rw [hw3] at hF HO HS3 HM3
  have HF := Lib.hid hF
  have HZ3 : Hid (w2.heap.size < w3.heap.size) := Lib.hid hF.lt
  clear ho hb m2 hws hisW hlw m3 hF HW HS1 HM2
  go_wp2_with (first | (refine wpl_makemap (dst := some 19) _ ?_) | fail)
  try rw [hw3]
  obtain ⟨gm, hgm⟩ : ∃ x, w2.heap.size = x := ⟨_, rfl⟩
  rw [hgm] at HF HB HZ3
  rw [hgm] at hz2
  rw [hgm]
  clear hw3 hgm
  go_loopw [5, 6, 7, 8] (fun s5 i _ _ wr => ∃ (k n : Nat) (F : Value → Option Value), k ≤ len ∧ i = .int .i64 (k : Int) ∧ s5 = .int .i64 ((n : Int) - 1) ∧ n ≤ k ∧ MapF wr gm (.int .i64) n F ∧ Seen F (ws.take k) n ∧ Mod [gm] w3 wr) (fun _ i _ _ _ => len - (intOf i).toNat)
  case atStart => exact ⟨0, 0, _, Nat.zero_le _, rfl, rfl, Nat.le_refl _, HF.out, ⟨fun v => by simp, fun v => by simp⟩, Mod.refl _ _⟩
  case round =>
    obtain ⟨k, n, F, hk, rfl, rfl, hnk, hF, hSn, hm⟩ := hrel
    have HM := Lib.hid hm
    have HFk := Lib.hid hF
    have HSn := Lib.hid hSn
    clear hF hSn hm
    have nz : ∀ x, x ∈ [gm] → w.heap.size ≤ x := fun x hx => by simp at hx; omega
    have HMr : Hid (Mod [] w wr) := Lib.hid (HM3.out.trans HM.out (fun i hi hl => by have := nz i hi; omega))
    clear nz
    by_cases hlt : k < len
    · have hkl : k < l.length := by rw [HL.out]; exact hlt
      have hkw : k < ws.length := by rw [HLW.out]; exact hlt
      obtain ⟨v, hv⟩ : ∃ v, ws[k]? = some v := ⟨_, List.getElem?_eq_getElem hkw⟩
      have hv' : ws[k]'hkw = v := by rw [List.getElem?_eq_getElem hkw] at hv; exact Option.some.inj hv
      have hvd := HIS.out.down hv
      obtain ⟨gw, hgw, hcw, -⟩ := OwnM.at' HO.out (j := k) hkw
      rw [hv'] at hcw
      subst hgw
      have hgn : gw ≠ gm := HB.out gw (by simp [blk])
      have U0 := Lib.hid (HM.out.cell hcw (by simp; exact hgn))
      obtain ⟨hS1, hmax⟩ := HSn.out.step hvd
      have htk : ws.take (k + 1) = ws.take k ++ [v] := by rw [take_snoc ws k hkw, hv']
      rw [← htk] at hS1
      obtain ⟨n', hn'⟩ : ∃ x, (if (F (natV v)).isSome then n else n + 1) = x := ⟨_, rfl⟩
      rw [hn'] at hS1 hmax
      have hnk' : n' ≤ k + 1 := by rw [← hn']; split <;> omega
      have HS1 := Lib.hid hS1
      have HV := Lib.hid hv
      have HN' := Lib.hid hn'
      have hvk : v ≤ 100 := by
        have h1 := HS1.out.1 v
        have h2 : v ∈ ws.take (k + 1) := by rw [htk]; simp
        have := h1.1 h2
        omega
      clear hv hv' hcw htk hS1 hn' hvd
      have u0 := U0.out
      have e0 : wr.cell? ⟨gw, k, none⟩ = some (.int .i64 (v : Int)) := u0
      clear u0
      go_upto_region 12 with (at_mapUpdate; refine wpl_update (v := .bool true) (k := natV v) _ _ _ _ HFk.out Try.underlying27 Try.underlying3 rfl rfl rfl rfl (fun x => if x = natV v then some (.bool true) else F x) (by simp) (fun x hx => by simp [hx]) n' HN'.out (fun w5 m5 HF5 => ?_))
      have HM5 := Lib.hid (HM.out.trans' m5)
      have E5 := Lib.hid (m5.cell e0 (by simp; exact hgn))
      have HMr5 : Hid (Mod [] w w5) := Lib.hid (HMr.out.trans m5 (fun i hi hl => by simp at hi; omega))
      have e5 := E5.out
      clear m5 e0 U0 HM HFk HSn HN'
      go_wp2
      clear e5
      go_loopw [7, 8] (fun s7 _ wq => ∃ p : Nat, p ≤ k ∧ s7 = .int .i64 (p : Int) ∧ Mod [] w5 wq) (fun s7 _ _ => k - (intOf s7).toNat)
      case atStart => exact ⟨0, Nat.zero_le _, rfl, Mod.refl _ _⟩
      case round =>
        obtain ⟨p, hp, rfl, mq⟩ := hrel
        have HMq := Lib.hid mq
        have HMrq := Lib.hid (HMr5.out.trans' mq)
        clear mq
        by_cases hpk : p < k
        · have hpl : p < l.length := by omega
          have hpw : p < ws.length := by omega
          obtain ⟨u, hu⟩ : ∃ u, ws[p]? = some u := ⟨_, List.getElem?_eq_getElem hpw⟩
          have hu' : ws[p]'hpw = u := by rw [List.getElem?_eq_getElem hpw] at hu; exact Option.some.inj hu
          obtain ⟨gw', eg, hcu, -⟩ := OwnM.at' HO.out (j := p) hpw
          cases eg
          rw [hu'] at hcu
          have hcu5 : w5.cell? ⟨gw, p, none⟩ = some (.int .i64 (u : Int)) := HM5.out.cell hcu (by simp; exact hgn)
          have huk : u ≤ 100 := by
            have h1 := HS1.out.1 u
            have h2 : u ∈ ws.take (k + 1) := List.mem_of_getElem? (i := p) (by rw [List.getElem?_take_of_lt (by omega)]; exact hu)
            have := h1.1 h2
            omega
          obtain ⟨b, off, rfl, c0, c1, c2, c3, c4, c5, c6, ht, hfw⟩ := (HS.out.mod0 HMrq.out) p hpl
          obtain ⟨b', off', eb, d0, d1, d2, d3, d4, d5, d6, ht', hfw'⟩ := (HS.out.mod0 HMrq.out) k hkl
          cases eb
          have hkp := HK.out p hpl
          have hkk := HK.out k hkl
          obtain ⟨cp, hcp⟩ : ∃ x, l[p] = x := ⟨_, rfl⟩
          obtain ⟨ck, hck⟩ : ∃ x, l[k] = x := ⟨_, rfl⟩
          rw [hcp] at c0 c1 c2 c3 c4 c5 c6 ht hkp
          rw [hck] at d0 d1 d2 d3 d4 d5 d6 ht' hkk
          have hway : way cp.1 ck.1 = true → u + 1 ≤ v := (HIS.out.2 k ck.1 v (by rw [List.getElem?_map, List.getElem?_eq_getElem hkl, hck]; rfl) HV.out).1 p cp.1 u hpk (by rw [List.getElem?_map, List.getElem?_eq_getElem hpl, hcp]; rfl) hu
          have hlone : way cp.1 ck.1 = false → lone cp.1 = false ∧ lone ck.1 = false := by
            intro h
            constructor
            · cases hx : lone cp.1 with
              | false => rfl
              | true => rw [(way_iff _ _).2 (.inl hx)] at h; cases h
            · cases hx : lone ck.1 with
              | false => rfl
              | true => rw [(way_iff _ _).2 (.inr (.inl hx))] at h; cases h
          have HWY : Hid (∀ w', Mod [] wr w' → Calls Try.prog 8 #[cmdV cp, cmdV ck] w' fun e w2 => e = .returned (.bool (way cp.1 ck.1)) ∧ Mod [] w' w2) := Lib.hid (fun w' m => way_any cp ck w' (ht.mod0 m) hkp (ht'.mod0 m) hkk)
          have HLP : Hid (∀ w', Mod [] wr w' → Calls Try.prog 9 #[cmdV cp] w' fun e w2 => e = .returned (.bool (lone cp.1)) ∧ Mod [] w' w2) := Lib.hid (fun w' m => lone_any cp w' (ht.mod0 m) hkp)
          have HLK : Hid (∀ w', Mod [] wr w' → Calls Try.prog 9 #[cmdV ck] w' fun e w2 => e = .returned (.bool (lone ck.1)) ∧ Mod [] w' w2) := Lib.hid (fun w' m => lone_any ck w' (ht'.mod0 m) hkk)
          obtain ⟨bw, hbw⟩ : ∃ x, way cp.1 ck.1 = x := ⟨_, rfl⟩
          obtain ⟨lp, hlp⟩ : ∃ x, lone cp.1 = x := ⟨_, rfl⟩
          obtain ⟨lk, hlk⟩ : ∃ x, lone ck.1 = x := ⟨_, rfl⟩
          rw [hbw] at HWY hway hlone
          rw [hlp] at HLP hlone
          rw [hlk] at HLK hlone
          have HLN := Lib.hid hlone
          have HWA := Lib.hid hway
          clear hcp hck hbw hlp hlk ht ht' hkp hkk hfw hfw' hu hu' hcu hlone hway
          obtain ⟨⟨clientp, seqp, kindp, keysp, oldp, freshp, np⟩, kaop, kcapp⟩ := cp
          obtain ⟨⟨clientk, seqk, kindk, keysk, oldk, freshk, nk⟩, kaok, kcapk⟩ := ck
          dsimp only at c0 c1 c2 c3 c4 c5 c6 d0 d1 d2 d3 d4 d5 d6
          have XP : Hid (∀ w', Mod [] wr w' → w'.cell? ⟨b, off + p * 7, none⟩ = some (.int .u32 (clientp : Int)) ∧ w'.cell? ⟨b, off + p * 7 + 1, none⟩ = some (.int .u32 (seqp : Int)) ∧ w'.cell? ⟨b, off + p * 7 + 2, none⟩ = some (.int .u8 (kindp : Int)) ∧ w'.cell? ⟨b, off + p * 7 + 3, none⟩ = some (.slice kaop keysp.length kcapp) ∧ w'.cell? ⟨b, off + p * 7 + 4, none⟩ = some (.string oldp) ∧ w'.cell? ⟨b, off + p * 7 + 5, none⟩ = some (.string freshp) ∧ w'.cell? ⟨b, off + p * 7 + 6, none⟩ = some (.int .i64 np)) := Lib.hid (fun w' m => ⟨m.cell c0 List.not_mem_nil, m.cell c1 List.not_mem_nil, m.cell c2 List.not_mem_nil, m.cell c3 List.not_mem_nil, m.cell c4 List.not_mem_nil, m.cell c5 List.not_mem_nil, m.cell c6 List.not_mem_nil⟩)
          have XK : Hid (∀ w', Mod [] wr w' → w'.cell? ⟨b, off + k * 7, none⟩ = some (.int .u32 (clientk : Int)) ∧ w'.cell? ⟨b, off + k * 7 + 1, none⟩ = some (.int .u32 (seqk : Int)) ∧ w'.cell? ⟨b, off + k * 7 + 2, none⟩ = some (.int .u8 (kindk : Int)) ∧ w'.cell? ⟨b, off + k * 7 + 3, none⟩ = some (.slice kaok keysk.length kcapk) ∧ w'.cell? ⟨b, off + k * 7 + 4, none⟩ = some (.string oldk) ∧ w'.cell? ⟨b, off + k * 7 + 5, none⟩ = some (.string freshk) ∧ w'.cell? ⟨b, off + k * 7 + 6, none⟩ = some (.int .i64 nk)) := Lib.hid (fun w' m => ⟨m.cell d0 List.not_mem_nil, m.cell d1 List.not_mem_nil, m.cell d2 List.not_mem_nil, m.cell d3 List.not_mem_nil, m.cell d4 List.not_mem_nil, m.cell d5 List.not_mem_nil, m.cell d6 List.not_mem_nil⟩)
          have UP := Lib.hid (HMq.out.cell hcu5 List.not_mem_nil)
          have UK := Lib.hid (HMq.out.cell E5.out List.not_mem_nil)
          clear c0 c1 c2 c3 c4 c5 c6 d0 d1 d2 d3 d4 d5 d6 hcu5
          have hltp : (p : Int) < (len : Int) := by omega
          have hltk : (k : Int) < (len : Int) := by omega
          go_upto_region 16 with (fail)
          refine rest_start [] 10 #[false, false, false, false, false, false, false, false, false, false] rfl (by kernel_rfl) (by kernel_rfl) ?_
          intro w6 m6
          have XP6 : Hid (∀ w', Mod [] w6 w' → w'.cell? ⟨b, off + p * 7, none⟩ = some (.int .u32 (clientp : Int)) ∧ w'.cell? ⟨b, off + p * 7 + 1, none⟩ = some (.int .u32 (seqp : Int)) ∧ w'.cell? ⟨b, off + p * 7 + 2, none⟩ = some (.int .u8 (kindp : Int)) ∧ w'.cell? ⟨b, off + p * 7 + 3, none⟩ = some (.slice kaop keysp.length kcapp) ∧ w'.cell? ⟨b, off + p * 7 + 4, none⟩ = some (.string oldp) ∧ w'.cell? ⟨b, off + p * 7 + 5, none⟩ = some (.string freshp) ∧ w'.cell? ⟨b, off + p * 7 + 6, none⟩ = some (.int .i64 np)) := Lib.hid (fun w' m => XP.out w' (m6.trans' m))
          have XK6 : Hid (∀ w', Mod [] w6 w' → w'.cell? ⟨b, off + k * 7, none⟩ = some (.int .u32 (clientk : Int)) ∧ w'.cell? ⟨b, off + k * 7 + 1, none⟩ = some (.int .u32 (seqk : Int)) ∧ w'.cell? ⟨b, off + k * 7 + 2, none⟩ = some (.int .u8 (kindk : Int)) ∧ w'.cell? ⟨b, off + k * 7 + 3, none⟩ = some (.slice kaok keysk.length kcapk) ∧ w'.cell? ⟨b, off + k * 7 + 4, none⟩ = some (.string oldk) ∧ w'.cell? ⟨b, off + k * 7 + 5, none⟩ = some (.string freshk) ∧ w'.cell? ⟨b, off + k * 7 + 6, none⟩ = some (.int .i64 nk)) := Lib.hid (fun w' m => XK.out w' (m6.trans' m))
          have M6 := Lib.hid m6
          have HWY6 := Lib.hid (HWY.out w6 m6)
          clear m6
          refine rest_got (i := 0) (v := ?v1) rfl (by kernel_rfl) (by kernel_rfl) (by kernel_rfl) (fun _ _ _ h => h) (by rfl) ?y1 ?r1
          case y1 => (intro w9q hSwq; clear hSwq; go_simp; with_reducible rfl)
          try simp only [Act.put, List.setIfInBounds_toArray, List.set_cons_zero, List.set_cons_succ]
          refine rest_got (i := 1) (v := ?v2) rfl (by kernel_rfl) (by kernel_rfl) (by kernel_rfl) (fun _ _ _ h => h) (by rfl) ?y2 ?r2
          case y2 => (intro w9q hSwq; clear hSwq; go_simp; with_reducible rfl)
          try simp only [Act.put, List.setIfInBounds_toArray, List.set_cons_zero, List.set_cons_succ]
          refine rest_got (i := 2) (v := ?v3) rfl (by kernel_rfl) (by kernel_rfl) (by kernel_rfl) (fun _ _ _ h => h) (by rfl) ?y3 ?r3
          case y3 => (intro w9q hSwq; clear hSwq; go_simp; with_reducible rfl)
          try simp only [Act.put, List.setIfInBounds_toArray, List.set_cons_zero, List.set_cons_succ]
          refine rest_got (i := 3) (v := ?v4) rfl (by kernel_rfl) (by kernel_rfl) (by kernel_rfl) (fun _ _ _ h => h) (by rfl) ?y4 ?r4
          case y4 => ((intro w9' hm9'; obtain ⟨hc0', hc1', hc2', hc3', hc4', hc5', hc6'⟩ := XP6.out w9' hm9'; clear hm9'; go_simp; with_reducible rfl))
          try simp only [Act.put, List.setIfInBounds_toArray, List.set_cons_zero, List.set_cons_succ]
          refine rest_got (i := 4) (v := ?v5) rfl (by kernel_rfl) (by kernel_rfl) (by kernel_rfl) (fun _ _ _ h => h) (by rfl) ?y5 ?r5
          case y5 => (intro w9q hSwq; clear hSwq; go_simp; with_reducible rfl)
          try simp only [Act.put, List.setIfInBounds_toArray, List.set_cons_zero, List.set_cons_succ]
          refine rest_got (i := 5) (v := ?v6) rfl (by kernel_rfl) (by kernel_rfl) (by kernel_rfl) (fun _ _ _ h => h) (by rfl) ?y6 ?r6
          case y6 => (intro w9q hSwq; clear hSwq; go_simp; with_reducible rfl)
          try simp only [Act.put, List.setIfInBounds_toArray, List.set_cons_zero, List.set_cons_succ]
          refine rest_got (i := 6) (v := ?v7) rfl (by kernel_rfl) (by kernel_rfl) (by kernel_rfl) (fun _ _ _ h => h) (by rfl) ?y7 ?r7
          case y7 => (intro w9q hSwq; clear hSwq; go_simp; with_reducible rfl)
          try simp only [Act.put, List.setIfInBounds_toArray, List.set_cons_zero, List.set_cons_succ]
          refine rest_got (i := 7) (v := ?v8) rfl (by kernel_rfl) (by kernel_rfl) (by kernel_rfl) (fun _ _ _ h => h) (by rfl) ?y8 ?r8
          case y8 => ((intro w9' hm9'; obtain ⟨hc0', hc1', hc2', hc3', hc4', hc5', hc6'⟩ := XK6.out w9' hm9'; clear hm9'; go_simp; with_reducible rfl))
          try simp only [Act.put, List.setIfInBounds_toArray, List.set_cons_zero, List.set_cons_succ]
          refine rest_one (i := 8) (by kernel_rfl) rfl (by rfl) ?_
          go_wp2_with fail
          refine HWY6.out.mono ?_
          rintro e w7 ⟨rfl, m7⟩
          have M7 := Lib.hid (M6.out.trans' m7)
          go_wp2_with fail
          refine back_to (K1 := []) m7 (by simp) ?_
          clear m7 XP6 XK6 M6 HWY6 HWY
          refine rest_got (i := 9) (v := ?v9) rfl (by kernel_rfl) (by kernel_rfl) (by kernel_rfl) (fun _ _ _ h => h) (by rfl) ?y9 ?r9
          case y9 => (intro w9q hSwq; clear hSwq; go_simp; with_reducible rfl)
          try simp only [Act.put, List.setIfInBounds_toArray, List.set_cons_zero, List.set_cons_succ]
          refine rest_done (by kernel_rfl) ?_ _
          cases bw with
          | true =>
            have hle := HWA.out rfl
            have DG : decide ((v : Int) ≤ (u : Int)) = false := decide_eq_false (by omega)
            have DG2 : decide (v ≤ u) = false := decide_eq_false (by omega)
            have DE : ((u : Int) == (v : Int)) = false := by rw [beq_eq_false_iff_ne]; omega
            go_upto_region 17 with (fail)
            refine rest_start [] 37 #[false, false, false, false, false, false, false, false, false, false, false, false, false, false, false, false, false, false, false, false, false, false, false, false, false, false, false, false, false, false, false, false, false, false, false, false, false] rfl (by kernel_rfl) (by kernel_rfl) ?_
            intro w8 m8
            have U8 := Lib.hid (m8.cell (M7.out.cell UP.out List.not_mem_nil) List.not_mem_nil)
            have V8 := Lib.hid (m8.cell (M7.out.cell UK.out List.not_mem_nil) List.not_mem_nil)
            have M8 := Lib.hid (M7.out.trans' m8)
            clear m8
            refine rest_got (i := 0) (v := ?v10) rfl (by kernel_rfl) (by kernel_rfl) (by kernel_rfl) (fun _ _ _ h => h) (by rfl) ?y10 ?r10
            case y10 => (intro w9q hSwq; clear hSwq; go_simp; with_reducible rfl)
            try simp only [Act.put, List.setIfInBounds_toArray, List.set_cons_zero, List.set_cons_succ]
            refine rest_got (i := 1) (v := ?v11) rfl (by kernel_rfl) (by kernel_rfl) (by kernel_rfl) (fun _ _ _ h => h) (by rfl) ?y11 ?r11
            case y11 => (intro w9q hSwq; clear hSwq; go_simp; with_reducible rfl)
            try simp only [Act.put, List.setIfInBounds_toArray, List.set_cons_zero, List.set_cons_succ]
            refine rest_got (i := 2) (v := ?v12) rfl (by kernel_rfl) (by kernel_rfl) (by kernel_rfl) (fun _ _ _ h => h) (by rfl) ?y12 ?r12
            case y12 => (intro w9q hSwq; clear hSwq; go_simp; with_reducible rfl)
            try simp only [Act.put, List.setIfInBounds_toArray, List.set_cons_zero, List.set_cons_succ]
            refine rest_got (i := 3) (v := ?v13) rfl (by kernel_rfl) (by kernel_rfl) (by kernel_rfl) (fun _ _ _ h => h) (by rfl) ?y13 ?r13
            case y13 => (intro w9q hSwq; clear hSwq; go_simp; with_reducible rfl)
            try simp only [Act.put, List.setIfInBounds_toArray, List.set_cons_zero, List.set_cons_succ]
            refine rest_got (i := 4) (v := ?v14) rfl (by kernel_rfl) (by kernel_rfl) (by kernel_rfl) (fun _ _ _ h => h) (by rfl) ?y14 ?r14
            case y14 => (intro w9q hSwq; clear hSwq; go_simp; with_reducible rfl)
            try simp only [Act.put, List.setIfInBounds_toArray, List.set_cons_zero, List.set_cons_succ]
            refine rest_got (i := 5) (v := ?v15) rfl (by kernel_rfl) (by kernel_rfl) (by kernel_rfl) (fun _ _ _ h => h) (by rfl) ?y15 ?r15
            case y15 => ((intro w9' hm9'; have hc9' := Mod.cell hm9' U8.out (by first | exact List.not_mem_nil | assumption | (simp; done) | (simp; omega)); clear hm9'; go_simp; with_reducible rfl))
            try simp only [Act.put, List.setIfInBounds_toArray, List.set_cons_zero, List.set_cons_succ]
            refine rest_got (i := 6) (v := ?v16) rfl (by kernel_rfl) (by kernel_rfl) (by kernel_rfl) (fun _ _ _ h => h) (by rfl) ?y16 ?r16
            case y16 => (intro w9q hSwq; clear hSwq; go_simp; with_reducible rfl)
            try simp only [Act.put, List.setIfInBounds_toArray, List.set_cons_zero, List.set_cons_succ]
            refine rest_got (i := 7) (v := ?v17) rfl (by kernel_rfl) (by kernel_rfl) (by kernel_rfl) (fun _ _ _ h => h) (by rfl) ?y17 ?r17
            case y17 => (intro w9q hSwq; clear hSwq; go_simp; with_reducible rfl)
            try simp only [Act.put, List.setIfInBounds_toArray, List.set_cons_zero, List.set_cons_succ]
            refine rest_got (i := 8) (v := ?v18) rfl (by kernel_rfl) (by kernel_rfl) (by kernel_rfl) (fun _ _ _ h => h) (by rfl) ?y18 ?r18
            case y18 => (intro w9q hSwq; clear hSwq; go_simp; with_reducible rfl)
            try simp only [Act.put, List.setIfInBounds_toArray, List.set_cons_zero, List.set_cons_succ]
            refine rest_got (i := 9) (v := ?v19) rfl (by kernel_rfl) (by kernel_rfl) (by kernel_rfl) (fun _ _ _ h => h) (by rfl) ?y19 ?r19
            case y19 => ((intro w9' hm9'; have hc9' := Mod.cell hm9' V8.out (by first | exact List.not_mem_nil | assumption | (simp; done) | (simp; omega)); clear hm9'; go_simp; with_reducible rfl))
            try simp only [Act.put, List.setIfInBounds_toArray, List.set_cons_zero, List.set_cons_succ]
            refine rest_got (i := 10) (v := ?v20) rfl (by kernel_rfl) (by kernel_rfl) (by kernel_rfl) (fun _ _ _ h => h) (by rfl) ?y20 ?r20
            case y20 => (intro w9q hSwq; clear hSwq; go_simp; with_reducible rfl)
            try simp only [Act.put, List.setIfInBounds_toArray, List.set_cons_zero, List.set_cons_succ]
            refine rest_got (i := 11) (v := ?v21) rfl (by kernel_rfl) (by kernel_rfl) (by kernel_rfl) (fun _ _ _ h => h) (by rfl) ?y21 ?r21
            case y21 => (intro w9q hSwq; clear hSwq; go_simp; with_reducible rfl)
            try simp only [Act.put, List.setIfInBounds_toArray, List.set_cons_zero, List.set_cons_succ]
            refine rest_got (i := 12) (v := ?v22) rfl (by kernel_rfl) (by kernel_rfl) (by kernel_rfl) (fun _ _ _ h => h) (by rfl) ?y22 ?r22
            case y22 => (intro w9q hSwq; clear hSwq; go_simp; with_reducible rfl)
            try simp only [Act.put, List.setIfInBounds_toArray, List.set_cons_zero, List.set_cons_succ]
            refine rest_got (i := 13) (v := ?v23) rfl (by kernel_rfl) (by kernel_rfl) (by kernel_rfl) (fun _ _ _ h => h) (by rfl) ?y23 ?r23
            case y23 => (intro w9q hSwq; clear hSwq; go_simp; with_reducible rfl)
            try simp only [Act.put, List.setIfInBounds_toArray, List.set_cons_zero, List.set_cons_succ]
            refine rest_got (i := 14) (v := ?v24) rfl (by kernel_rfl) (by kernel_rfl) (by kernel_rfl) (fun _ _ _ h => h) (by rfl) ?y24 ?r24
            case y24 => (intro w9q hSwq; clear hSwq; go_simp; with_reducible rfl)
            try simp only [Act.put, List.setIfInBounds_toArray, List.set_cons_zero, List.set_cons_succ]
            refine rest_got (i := 15) (v := ?v25) rfl (by kernel_rfl) (by kernel_rfl) (by kernel_rfl) (fun _ _ _ h => h) (by rfl) ?y25 ?r25
            case y25 => (intro w9q hSwq; clear hSwq; go_simp; with_reducible rfl)
            try simp only [Act.put, List.setIfInBounds_toArray, List.set_cons_zero, List.set_cons_succ]
            refine rest_got (i := 16) (v := ?v26) rfl (by kernel_rfl) (by kernel_rfl) (by kernel_rfl) (fun _ _ _ h => h) (by rfl) ?y26 ?r26
            case y26 => ((intro w9' hm9'; have hc9' := Mod.cell hm9' U8.out (by first | exact List.not_mem_nil | assumption | (simp; done) | (simp; omega)); clear hm9'; go_simp; with_reducible rfl))
            try simp only [Act.put, List.setIfInBounds_toArray, List.set_cons_zero, List.set_cons_succ]
            refine rest_got (i := 17) (v := ?v27) rfl (by kernel_rfl) (by kernel_rfl) (by kernel_rfl) (fun _ _ _ h => h) (by rfl) ?y27 ?r27
            case y27 => (intro w9q hSwq; clear hSwq; go_simp; with_reducible rfl)
            try simp only [Act.put, List.setIfInBounds_toArray, List.set_cons_zero, List.set_cons_succ]
            refine rest_got (i := 18) (v := ?v28) rfl (by kernel_rfl) (by kernel_rfl) (by kernel_rfl) (fun _ _ _ h => h) (by rfl) ?y28 ?r28
            case y28 => (intro w9q hSwq; clear hSwq; go_simp; with_reducible rfl)
            try simp only [Act.put, List.setIfInBounds_toArray, List.set_cons_zero, List.set_cons_succ]
            refine rest_got (i := 19) (v := ?v29) rfl (by kernel_rfl) (by kernel_rfl) (by kernel_rfl) (fun _ _ _ h => h) (by rfl) ?y29 ?r29
            case y29 => (intro w9q hSwq; clear hSwq; go_simp; with_reducible rfl)
            try simp only [Act.put, List.setIfInBounds_toArray, List.set_cons_zero, List.set_cons_succ]
            refine rest_got (i := 20) (v := ?v30) rfl (by kernel_rfl) (by kernel_rfl) (by kernel_rfl) (fun _ _ _ h => h) (by rfl) ?y30 ?r30
            case y30 => ((intro w9' hm9'; have hc9' := Mod.cell hm9' V8.out (by first | exact List.not_mem_nil | assumption | (simp; done) | (simp; omega)); clear hm9'; go_simp; with_reducible rfl))
            try simp only [Act.put, List.setIfInBounds_toArray, List.set_cons_zero, List.set_cons_succ]
            refine rest_got (i := 21) (v := ?v31) rfl (by kernel_rfl) (by kernel_rfl) (by kernel_rfl) (fun _ _ _ h => h) (by rfl) ?y31 ?r31
            case y31 => (intro w9q hSwq; clear hSwq; go_simp; with_reducible rfl)
            try simp only [Act.put, List.setIfInBounds_toArray, List.set_cons_zero, List.set_cons_succ]
            refine rest_got (i := 22) (v := ?v32) rfl (by kernel_rfl) (by kernel_rfl) (by kernel_rfl) (fun _ _ _ h => h) (by rfl) ?y32 ?r32
            case y32 => (intro w9q hSwq; clear hSwq; go_simp; with_reducible rfl)
            try simp only [Act.put, List.setIfInBounds_toArray, List.set_cons_zero, List.set_cons_succ]
            refine rest_skip (i := 23) rfl (by kernel_rfl) (by kernel_rfl) (by kernel_rfl) (fun _ _ _ h => h) (by rfl) ?_
            try simp only [Act.put, List.setIfInBounds_toArray, List.set_cons_zero, List.set_cons_succ]
            refine rest_skip (i := 24) rfl (by kernel_rfl) (by kernel_rfl) (by kernel_rfl) (fun _ _ _ h => h) (by rfl) ?_
            try simp only [Act.put, List.setIfInBounds_toArray, List.set_cons_zero, List.set_cons_succ]
            refine rest_skip (i := 25) rfl (by kernel_rfl) (by kernel_rfl) (by kernel_rfl) (fun _ _ _ h => h) (by rfl) ?_
            try simp only [Act.put, List.setIfInBounds_toArray, List.set_cons_zero, List.set_cons_succ]
            refine rest_skip (i := 26) rfl (by kernel_rfl) (by kernel_rfl) (by kernel_rfl) (fun _ _ _ h => h) (by rfl) ?_
            try simp only [Act.put, List.setIfInBounds_toArray, List.set_cons_zero, List.set_cons_succ]
            refine rest_skip (i := 27) rfl (by kernel_rfl) (by kernel_rfl) (by kernel_rfl) (fun _ _ _ h => h) (by rfl) ?_
            try simp only [Act.put, List.setIfInBounds_toArray, List.set_cons_zero, List.set_cons_succ]
            refine rest_skip (i := 28) rfl (by kernel_rfl) (by kernel_rfl) (by kernel_rfl) (fun _ _ _ h => h) (by rfl) ?_
            try simp only [Act.put, List.setIfInBounds_toArray, List.set_cons_zero, List.set_cons_succ]
            refine rest_skip (i := 29) rfl (by kernel_rfl) (by kernel_rfl) (by kernel_rfl) (fun _ _ _ h => h) (by rfl) ?_
            try simp only [Act.put, List.setIfInBounds_toArray, List.set_cons_zero, List.set_cons_succ]
            refine rest_skip (i := 30) rfl (by kernel_rfl) (by kernel_rfl) (by kernel_rfl) (fun _ _ _ h => h) (by rfl) ?_
            try simp only [Act.put, List.setIfInBounds_toArray, List.set_cons_zero, List.set_cons_succ]
            refine rest_skip (i := 31) rfl (by kernel_rfl) (by kernel_rfl) (by kernel_rfl) (fun _ _ _ h => h) (by rfl) ?_
            try simp only [Act.put, List.setIfInBounds_toArray, List.set_cons_zero, List.set_cons_succ]
            refine rest_skip (i := 32) rfl (by kernel_rfl) (by kernel_rfl) (by kernel_rfl) (fun _ _ _ h => h) (by rfl) ?_
            try simp only [Act.put, List.setIfInBounds_toArray, List.set_cons_zero, List.set_cons_succ]
            refine rest_skip (i := 33) rfl (by kernel_rfl) (by kernel_rfl) (by kernel_rfl) (fun _ _ _ h => h) (by rfl) ?_
            try simp only [Act.put, List.setIfInBounds_toArray, List.set_cons_zero, List.set_cons_succ]
            refine rest_skip (i := 34) rfl (by kernel_rfl) (by kernel_rfl) (by kernel_rfl) (fun _ _ _ h => h) (by rfl) ?_
            try simp only [Act.put, List.setIfInBounds_toArray, List.set_cons_zero, List.set_cons_succ]
            refine rest_got (i := 35) (v := ?v33) rfl (by kernel_rfl) (by kernel_rfl) (by kernel_rfl) (fun _ _ _ h => h) (by rfl) ?y33 ?r33
            case y33 => (intro w9q hSwq; clear hSwq; go_simp; with_reducible rfl)
            try simp only [Act.put, List.setIfInBounds_toArray, List.set_cons_zero, List.set_cons_succ]
            refine rest_got (i := 36) (v := ?v34) rfl (by kernel_rfl) (by kernel_rfl) (by kernel_rfl) (fun _ _ _ h => h) (by rfl) ?y34 ?r34
            case y34 => (intro w9q hSwq; clear hSwq; go_simp; with_reducible rfl)
            try simp only [Act.put, List.setIfInBounds_toArray, List.set_cons_zero, List.set_cons_succ]
            refine rest_done (by kernel_rfl) ?_ _
            go_wp2
            go_roundw
            case rel => exact ⟨p + 1, by omega, by go_num, HMq.out.trans' M8.out⟩
            case measure => simp [intOf]; omega
          | false =>
            obtain ⟨hlp, hlk⟩ := HLN.out rfl
            subst hlp
            subst hlk
            by_cases huv : u = v
            · have DE : ((u : Int) == (v : Int)) = true := by rw [huv]; exact beq_self_eq_true _
              go_upto_region 17 with (fail)
              refine rest_start [] 37 #[false, false, false, false, false, false, false, false, false, false, false, false, false, false, false, false, false, false, false, false, false, false, false, false, false, false, false, false, false, false, false, false, false, false, false, false, false] rfl (by kernel_rfl) (by kernel_rfl) ?_
              intro w8 m8
              have U8 := Lib.hid (m8.cell (M7.out.cell UP.out List.not_mem_nil) List.not_mem_nil)
              have V8 := Lib.hid (m8.cell (M7.out.cell UK.out List.not_mem_nil) List.not_mem_nil)
              have M8 := Lib.hid (M7.out.trans' m8)
              clear m8
              have XP8 : Hid (∀ w', Mod [] w8 w' → w'.cell? ⟨b, off + p * 7, none⟩ = some (.int .u32 (clientp : Int)) ∧ w'.cell? ⟨b, off + p * 7 + 1, none⟩ = some (.int .u32 (seqp : Int)) ∧ w'.cell? ⟨b, off + p * 7 + 2, none⟩ = some (.int .u8 (kindp : Int)) ∧ w'.cell? ⟨b, off + p * 7 + 3, none⟩ = some (.slice kaop keysp.length kcapp) ∧ w'.cell? ⟨b, off + p * 7 + 4, none⟩ = some (.string oldp) ∧ w'.cell? ⟨b, off + p * 7 + 5, none⟩ = some (.string freshp) ∧ w'.cell? ⟨b, off + p * 7 + 6, none⟩ = some (.int .i64 np)) := Lib.hid (fun w' m => XP.out w' (M8.out.trans' m))
              have XK8 : Hid (∀ w', Mod [] w8 w' → w'.cell? ⟨b, off + k * 7, none⟩ = some (.int .u32 (clientk : Int)) ∧ w'.cell? ⟨b, off + k * 7 + 1, none⟩ = some (.int .u32 (seqk : Int)) ∧ w'.cell? ⟨b, off + k * 7 + 2, none⟩ = some (.int .u8 (kindk : Int)) ∧ w'.cell? ⟨b, off + k * 7 + 3, none⟩ = some (.slice kaok keysk.length kcapk) ∧ w'.cell? ⟨b, off + k * 7 + 4, none⟩ = some (.string oldk) ∧ w'.cell? ⟨b, off + k * 7 + 5, none⟩ = some (.string freshk) ∧ w'.cell? ⟨b, off + k * 7 + 6, none⟩ = some (.int .i64 nk)) := Lib.hid (fun w' m => XK.out w' (M8.out.trans' m))
              have HLK8 := Lib.hid (HLK.out w8 M8.out)
              refine rest_got (i := 0) (v := ?v35) rfl (by kernel_rfl) (by kernel_rfl) (by kernel_rfl) (fun _ _ _ h => h) (by rfl) ?y35 ?r35
              case y35 => (intro w9q hSwq; clear hSwq; go_simp; with_reducible rfl)
              try simp only [Act.put, List.setIfInBounds_toArray, List.set_cons_zero, List.set_cons_succ]
              refine rest_got (i := 1) (v := ?v36) rfl (by kernel_rfl) (by kernel_rfl) (by kernel_rfl) (fun _ _ _ h => h) (by rfl) ?y36 ?r36
              case y36 => (intro w9q hSwq; clear hSwq; go_simp; with_reducible rfl)
              try simp only [Act.put, List.setIfInBounds_toArray, List.set_cons_zero, List.set_cons_succ]
              refine rest_skip (i := 2) rfl (by kernel_rfl) (by kernel_rfl) (by kernel_rfl) (fun _ _ _ h => h) (by rfl) ?_
              try simp only [Act.put, List.setIfInBounds_toArray, List.set_cons_zero, List.set_cons_succ]
              refine rest_skip (i := 3) rfl (by kernel_rfl) (by kernel_rfl) (by kernel_rfl) (fun _ _ _ h => h) (by rfl) ?_
              try simp only [Act.put, List.setIfInBounds_toArray, List.set_cons_zero, List.set_cons_succ]
              refine rest_skip (i := 4) rfl (by kernel_rfl) (by kernel_rfl) (by kernel_rfl) (fun _ _ _ h => h) (by rfl) ?_
              try simp only [Act.put, List.setIfInBounds_toArray, List.set_cons_zero, List.set_cons_succ]
              refine rest_skip (i := 5) rfl (by kernel_rfl) (by kernel_rfl) (by kernel_rfl) (fun _ _ _ h => h) (by rfl) ?_
              try simp only [Act.put, List.setIfInBounds_toArray, List.set_cons_zero, List.set_cons_succ]
              refine rest_skip (i := 6) rfl (by kernel_rfl) (by kernel_rfl) (by kernel_rfl) (fun _ _ _ h => h) (by rfl) ?_
              try simp only [Act.put, List.setIfInBounds_toArray, List.set_cons_zero, List.set_cons_succ]
              refine rest_skip (i := 7) rfl (by kernel_rfl) (by kernel_rfl) (by kernel_rfl) (fun _ _ _ h => h) (by rfl) ?_
              try simp only [Act.put, List.setIfInBounds_toArray, List.set_cons_zero, List.set_cons_succ]
              refine rest_skip (i := 8) rfl (by kernel_rfl) (by kernel_rfl) (by kernel_rfl) (fun _ _ _ h => h) (by rfl) ?_
              try simp only [Act.put, List.setIfInBounds_toArray, List.set_cons_zero, List.set_cons_succ]
              refine rest_skip (i := 9) rfl (by kernel_rfl) (by kernel_rfl) (by kernel_rfl) (fun _ _ _ h => h) (by rfl) ?_
              try simp only [Act.put, List.setIfInBounds_toArray, List.set_cons_zero, List.set_cons_succ]
              refine rest_skip (i := 10) rfl (by kernel_rfl) (by kernel_rfl) (by kernel_rfl) (fun _ _ _ h => h) (by rfl) ?_
              try simp only [Act.put, List.setIfInBounds_toArray, List.set_cons_zero, List.set_cons_succ]
              refine rest_got (i := 11) (v := ?v37) rfl (by kernel_rfl) (by kernel_rfl) (by kernel_rfl) (fun _ _ _ h => h) (by rfl) ?y37 ?r37
              case y37 => (intro w9q hSwq; clear hSwq; go_simp; with_reducible rfl)
              try simp only [Act.put, List.setIfInBounds_toArray, List.set_cons_zero, List.set_cons_succ]
              refine rest_got (i := 12) (v := ?v38) rfl (by kernel_rfl) (by kernel_rfl) (by kernel_rfl) (fun _ _ _ h => h) (by rfl) ?y38 ?r38
              case y38 => (intro w9q hSwq; clear hSwq; go_simp; with_reducible rfl)
              try simp only [Act.put, List.setIfInBounds_toArray, List.set_cons_zero, List.set_cons_succ]
              refine rest_got (i := 13) (v := ?v39) rfl (by kernel_rfl) (by kernel_rfl) (by kernel_rfl) (fun _ _ _ h => h) (by rfl) ?y39 ?r39
              case y39 => (intro w9q hSwq; clear hSwq; go_simp; with_reducible rfl)
              try simp only [Act.put, List.setIfInBounds_toArray, List.set_cons_zero, List.set_cons_succ]
              refine rest_got (i := 14) (v := ?v40) rfl (by kernel_rfl) (by kernel_rfl) (by kernel_rfl) (fun _ _ _ h => h) (by rfl) ?y40 ?r40
              case y40 => (intro w9q hSwq; clear hSwq; go_simp; with_reducible rfl)
              try simp only [Act.put, List.setIfInBounds_toArray, List.set_cons_zero, List.set_cons_succ]
              refine rest_got (i := 15) (v := ?v41) rfl (by kernel_rfl) (by kernel_rfl) (by kernel_rfl) (fun _ _ _ h => h) (by rfl) ?y41 ?r41
              case y41 => (intro w9q hSwq; clear hSwq; go_simp; with_reducible rfl)
              try simp only [Act.put, List.setIfInBounds_toArray, List.set_cons_zero, List.set_cons_succ]
              refine rest_got (i := 16) (v := ?v42) rfl (by kernel_rfl) (by kernel_rfl) (by kernel_rfl) (fun _ _ _ h => h) (by rfl) ?y42 ?r42
              case y42 => ((intro w9' hm9'; have hc9' := Mod.cell hm9' U8.out (by first | exact List.not_mem_nil | assumption | (simp; done) | (simp; omega)); clear hm9'; go_simp; with_reducible rfl))
              try simp only [Act.put, List.setIfInBounds_toArray, List.set_cons_zero, List.set_cons_succ]
              refine rest_got (i := 17) (v := ?v43) rfl (by kernel_rfl) (by kernel_rfl) (by kernel_rfl) (fun _ _ _ h => h) (by rfl) ?y43 ?r43
              case y43 => (intro w9q hSwq; clear hSwq; go_simp; with_reducible rfl)
              try simp only [Act.put, List.setIfInBounds_toArray, List.set_cons_zero, List.set_cons_succ]
              refine rest_got (i := 18) (v := ?v44) rfl (by kernel_rfl) (by kernel_rfl) (by kernel_rfl) (fun _ _ _ h => h) (by rfl) ?y44 ?r44
              case y44 => (intro w9q hSwq; clear hSwq; go_simp; with_reducible rfl)
              try simp only [Act.put, List.setIfInBounds_toArray, List.set_cons_zero, List.set_cons_succ]
              refine rest_got (i := 19) (v := ?v45) rfl (by kernel_rfl) (by kernel_rfl) (by kernel_rfl) (fun _ _ _ h => h) (by rfl) ?y45 ?r45
              case y45 => (intro w9q hSwq; clear hSwq; go_simp; with_reducible rfl)
              try simp only [Act.put, List.setIfInBounds_toArray, List.set_cons_zero, List.set_cons_succ]
              refine rest_got (i := 20) (v := ?v46) rfl (by kernel_rfl) (by kernel_rfl) (by kernel_rfl) (fun _ _ _ h => h) (by rfl) ?y46 ?r46
              case y46 => ((intro w9' hm9'; have hc9' := Mod.cell hm9' V8.out (by first | exact List.not_mem_nil | assumption | (simp; done) | (simp; omega)); clear hm9'; go_simp; with_reducible rfl))
              try simp only [Act.put, List.setIfInBounds_toArray, List.set_cons_zero, List.set_cons_succ]
              refine rest_got (i := 21) (v := ?v47) rfl (by kernel_rfl) (by kernel_rfl) (by kernel_rfl) (fun _ _ _ h => h) (by rfl) ?y47 ?r47
              case y47 => (intro w9q hSwq; clear hSwq; go_simp; with_reducible rfl)
              try simp only [Act.put, List.setIfInBounds_toArray, List.set_cons_zero, List.set_cons_succ]
              refine rest_got (i := 22) (v := ?v48) rfl (by kernel_rfl) (by kernel_rfl) (by kernel_rfl) (fun _ _ _ h => h) (by rfl) ?y48 ?r48
              case y48 => (intro w9q hSwq; clear hSwq; go_simp; with_reducible rfl)
              try simp only [Act.put, List.setIfInBounds_toArray, List.set_cons_zero, List.set_cons_succ]
              refine rest_got (i := 23) (v := ?v49) rfl (by kernel_rfl) (by kernel_rfl) (by kernel_rfl) (fun _ _ _ h => h) (by rfl) ?y49 ?r49
              case y49 => (intro w9q hSwq; clear hSwq; go_simp; with_reducible rfl)
              try simp only [Act.put, List.setIfInBounds_toArray, List.set_cons_zero, List.set_cons_succ]
              refine rest_got (i := 24) (v := ?v50) rfl (by kernel_rfl) (by kernel_rfl) (by kernel_rfl) (fun _ _ _ h => h) (by rfl) ?y50 ?r50
              case y50 => (intro w9q hSwq; clear hSwq; go_simp; with_reducible rfl)
              try simp only [Act.put, List.setIfInBounds_toArray, List.set_cons_zero, List.set_cons_succ]
              refine rest_got (i := 25) (v := ?v51) rfl (by kernel_rfl) (by kernel_rfl) (by kernel_rfl) (fun _ _ _ h => h) (by rfl) ?y51 ?r51
              case y51 => (intro w9q hSwq; clear hSwq; go_simp; with_reducible rfl)
              try simp only [Act.put, List.setIfInBounds_toArray, List.set_cons_zero, List.set_cons_succ]
              refine rest_got (i := 26) (v := ?v52) rfl (by kernel_rfl) (by kernel_rfl) (by kernel_rfl) (fun _ _ _ h => h) (by rfl) ?y52 ?r52
              case y52 => ((intro w9' hm9'; obtain ⟨hc0', hc1', hc2', hc3', hc4', hc5', hc6'⟩ := XK8.out w9' hm9'; clear hm9'; go_simp; with_reducible rfl))
              try simp only [Act.put, List.setIfInBounds_toArray, List.set_cons_zero, List.set_cons_succ]
              refine rest_one (i := 27) (by kernel_rfl) rfl (by rfl) ?_
              go_wp2_with fail
              refine HLK8.out.mono ?_
              rintro e w9 ⟨rfl, m9⟩
              have M9 := Lib.hid (M8.out.trans' m9)
              have HLP9 := Lib.hid (HLP.out w9 M9.out)
              have XP9 := Lib.hid (fun w' (m : Mod [] w9 w') => XP8.out w' (m9.trans' m))
              have XK9 := Lib.hid (fun w' (m : Mod [] w9 w') => XK8.out w' (m9.trans' m))
              go_wp2_with fail
              refine back_to (K1 := []) m9 (by simp) ?_
              clear m9 XP8 XK8 M8 HLK8 U8 V8
              refine rest_got (i := 28) (v := ?v53) rfl (by kernel_rfl) (by kernel_rfl) (by kernel_rfl) (fun _ _ _ h => h) (by rfl) ?y53 ?r53
              case y53 => (intro w9q hSwq; clear hSwq; go_simp; with_reducible rfl)
              try simp only [Act.put, List.setIfInBounds_toArray, List.set_cons_zero, List.set_cons_succ]
              refine rest_got (i := 29) (v := ?v54) rfl (by kernel_rfl) (by kernel_rfl) (by kernel_rfl) (fun _ _ _ h => h) (by rfl) ?y54 ?r54
              case y54 => (intro w9q hSwq; clear hSwq; go_simp; with_reducible rfl)
              try simp only [Act.put, List.setIfInBounds_toArray, List.set_cons_zero, List.set_cons_succ]
              refine rest_got (i := 30) (v := ?v55) rfl (by kernel_rfl) (by kernel_rfl) (by kernel_rfl) (fun _ _ _ h => h) (by rfl) ?y55 ?r55
              case y55 => (intro w9q hSwq; clear hSwq; go_simp; with_reducible rfl)
              try simp only [Act.put, List.setIfInBounds_toArray, List.set_cons_zero, List.set_cons_succ]
              refine rest_got (i := 31) (v := ?v56) rfl (by kernel_rfl) (by kernel_rfl) (by kernel_rfl) (fun _ _ _ h => h) (by rfl) ?y56 ?r56
              case y56 => (intro w9q hSwq; clear hSwq; go_simp; with_reducible rfl)
              try simp only [Act.put, List.setIfInBounds_toArray, List.set_cons_zero, List.set_cons_succ]
              refine rest_got (i := 32) (v := ?v57) rfl (by kernel_rfl) (by kernel_rfl) (by kernel_rfl) (fun _ _ _ h => h) (by rfl) ?y57 ?r57
              case y57 => ((intro w9' hm9'; obtain ⟨hc0', hc1', hc2', hc3', hc4', hc5', hc6'⟩ := XP9.out w9' hm9'; clear hm9'; go_simp; with_reducible rfl))
              try simp only [Act.put, List.setIfInBounds_toArray, List.set_cons_zero, List.set_cons_succ]
              refine rest_one (i := 33) (by kernel_rfl) rfl (by rfl) ?_
              go_wp2_with fail
              refine HLP9.out.mono ?_
              rintro e w10 ⟨rfl, m10⟩
              have M8 := Lib.hid (M9.out.trans' m10)
              go_wp2_with fail
              refine back_to (K1 := []) m10 (by simp) ?_
              clear m10 XP9 XK9 M9 HLP9
              refine rest_got (i := 34) (v := ?v58) rfl (by kernel_rfl) (by kernel_rfl) (by kernel_rfl) (fun _ _ _ h => h) (by rfl) ?y58 ?r58
              case y58 => (intro w9q hSwq; clear hSwq; go_simp; with_reducible rfl)
              try simp only [Act.put, List.setIfInBounds_toArray, List.set_cons_zero, List.set_cons_succ]
              refine rest_got (i := 35) (v := ?v59) rfl (by kernel_rfl) (by kernel_rfl) (by kernel_rfl) (fun _ _ _ h => h) (by rfl) ?y59 ?r59
              case y59 => (intro w9q hSwq; clear hSwq; go_simp; with_reducible rfl)
              try simp only [Act.put, List.setIfInBounds_toArray, List.set_cons_zero, List.set_cons_succ]
              refine rest_got (i := 36) (v := ?v60) rfl (by kernel_rfl) (by kernel_rfl) (by kernel_rfl) (fun _ _ _ h => h) (by rfl) ?y60 ?r60
              case y60 => (intro w9q hSwq; clear hSwq; go_simp; with_reducible rfl)
              try simp only [Act.put, List.setIfInBounds_toArray, List.set_cons_zero, List.set_cons_succ]
              refine rest_done (by kernel_rfl) ?_ _
              go_wp2
              go_roundw
              case rel => exact ⟨p + 1, by omega, by go_num, HMq.out.trans' M8.out⟩
              case measure => simp [intOf]; omega
            · have DE : ((u : Int) == (v : Int)) = false := by rw [beq_eq_false_iff_ne]; omega
              go_upto_region 17 with (fail)
              refine rest_start [] 37 #[false, false, false, false, false, false, false, false, false, false, false, false, false, false, false, false, false, false, false, false, false, false, false, false, false, false, false, false, false, false, false, false, false, false, false, false, false] rfl (by kernel_rfl) (by kernel_rfl) ?_
              intro w8 m8
              have U8 := Lib.hid (m8.cell (M7.out.cell UP.out List.not_mem_nil) List.not_mem_nil)
              have V8 := Lib.hid (m8.cell (M7.out.cell UK.out List.not_mem_nil) List.not_mem_nil)
              have M8 := Lib.hid (M7.out.trans' m8)
              clear m8
              refine rest_got (i := 0) (v := ?v61) rfl (by kernel_rfl) (by kernel_rfl) (by kernel_rfl) (fun _ _ _ h => h) (by rfl) ?y61 ?r61
              case y61 => (intro w9q hSwq; clear hSwq; go_simp; with_reducible rfl)
              try simp only [Act.put, List.setIfInBounds_toArray, List.set_cons_zero, List.set_cons_succ]
              refine rest_got (i := 1) (v := ?v62) rfl (by kernel_rfl) (by kernel_rfl) (by kernel_rfl) (fun _ _ _ h => h) (by rfl) ?y62 ?r62
              case y62 => (intro w9q hSwq; clear hSwq; go_simp; with_reducible rfl)
              try simp only [Act.put, List.setIfInBounds_toArray, List.set_cons_zero, List.set_cons_succ]
              refine rest_skip (i := 2) rfl (by kernel_rfl) (by kernel_rfl) (by kernel_rfl) (fun _ _ _ h => h) (by rfl) ?_
              try simp only [Act.put, List.setIfInBounds_toArray, List.set_cons_zero, List.set_cons_succ]
              refine rest_skip (i := 3) rfl (by kernel_rfl) (by kernel_rfl) (by kernel_rfl) (fun _ _ _ h => h) (by rfl) ?_
              try simp only [Act.put, List.setIfInBounds_toArray, List.set_cons_zero, List.set_cons_succ]
              refine rest_skip (i := 4) rfl (by kernel_rfl) (by kernel_rfl) (by kernel_rfl) (fun _ _ _ h => h) (by rfl) ?_
              try simp only [Act.put, List.setIfInBounds_toArray, List.set_cons_zero, List.set_cons_succ]
              refine rest_skip (i := 5) rfl (by kernel_rfl) (by kernel_rfl) (by kernel_rfl) (fun _ _ _ h => h) (by rfl) ?_
              try simp only [Act.put, List.setIfInBounds_toArray, List.set_cons_zero, List.set_cons_succ]
              refine rest_skip (i := 6) rfl (by kernel_rfl) (by kernel_rfl) (by kernel_rfl) (fun _ _ _ h => h) (by rfl) ?_
              try simp only [Act.put, List.setIfInBounds_toArray, List.set_cons_zero, List.set_cons_succ]
              refine rest_skip (i := 7) rfl (by kernel_rfl) (by kernel_rfl) (by kernel_rfl) (fun _ _ _ h => h) (by rfl) ?_
              try simp only [Act.put, List.setIfInBounds_toArray, List.set_cons_zero, List.set_cons_succ]
              refine rest_skip (i := 8) rfl (by kernel_rfl) (by kernel_rfl) (by kernel_rfl) (fun _ _ _ h => h) (by rfl) ?_
              try simp only [Act.put, List.setIfInBounds_toArray, List.set_cons_zero, List.set_cons_succ]
              refine rest_skip (i := 9) rfl (by kernel_rfl) (by kernel_rfl) (by kernel_rfl) (fun _ _ _ h => h) (by rfl) ?_
              try simp only [Act.put, List.setIfInBounds_toArray, List.set_cons_zero, List.set_cons_succ]
              refine rest_skip (i := 10) rfl (by kernel_rfl) (by kernel_rfl) (by kernel_rfl) (fun _ _ _ h => h) (by rfl) ?_
              try simp only [Act.put, List.setIfInBounds_toArray, List.set_cons_zero, List.set_cons_succ]
              refine rest_got (i := 11) (v := ?v63) rfl (by kernel_rfl) (by kernel_rfl) (by kernel_rfl) (fun _ _ _ h => h) (by rfl) ?y63 ?r63
              case y63 => (intro w9q hSwq; clear hSwq; go_simp; with_reducible rfl)
              try simp only [Act.put, List.setIfInBounds_toArray, List.set_cons_zero, List.set_cons_succ]
              refine rest_got (i := 12) (v := ?v64) rfl (by kernel_rfl) (by kernel_rfl) (by kernel_rfl) (fun _ _ _ h => h) (by rfl) ?y64 ?r64
              case y64 => (intro w9q hSwq; clear hSwq; go_simp; with_reducible rfl)
              try simp only [Act.put, List.setIfInBounds_toArray, List.set_cons_zero, List.set_cons_succ]
              refine rest_got (i := 13) (v := ?v65) rfl (by kernel_rfl) (by kernel_rfl) (by kernel_rfl) (fun _ _ _ h => h) (by rfl) ?y65 ?r65
              case y65 => (intro w9q hSwq; clear hSwq; go_simp; with_reducible rfl)
              try simp only [Act.put, List.setIfInBounds_toArray, List.set_cons_zero, List.set_cons_succ]
              refine rest_got (i := 14) (v := ?v66) rfl (by kernel_rfl) (by kernel_rfl) (by kernel_rfl) (fun _ _ _ h => h) (by rfl) ?y66 ?r66
              case y66 => (intro w9q hSwq; clear hSwq; go_simp; with_reducible rfl)
              try simp only [Act.put, List.setIfInBounds_toArray, List.set_cons_zero, List.set_cons_succ]
              refine rest_got (i := 15) (v := ?v67) rfl (by kernel_rfl) (by kernel_rfl) (by kernel_rfl) (fun _ _ _ h => h) (by rfl) ?y67 ?r67
              case y67 => (intro w9q hSwq; clear hSwq; go_simp; with_reducible rfl)
              try simp only [Act.put, List.setIfInBounds_toArray, List.set_cons_zero, List.set_cons_succ]
              refine rest_got (i := 16) (v := ?v68) rfl (by kernel_rfl) (by kernel_rfl) (by kernel_rfl) (fun _ _ _ h => h) (by rfl) ?y68 ?r68
              case y68 => ((intro w9' hm9'; have hc9' := Mod.cell hm9' U8.out (by first | exact List.not_mem_nil | assumption | (simp; done) | (simp; omega)); clear hm9'; go_simp; with_reducible rfl))
              try simp only [Act.put, List.setIfInBounds_toArray, List.set_cons_zero, List.set_cons_succ]
              refine rest_got (i := 17) (v := ?v69) rfl (by kernel_rfl) (by kernel_rfl) (by kernel_rfl) (fun _ _ _ h => h) (by rfl) ?y69 ?r69
              case y69 => (intro w9q hSwq; clear hSwq; go_simp; with_reducible rfl)
              try simp only [Act.put, List.setIfInBounds_toArray, List.set_cons_zero, List.set_cons_succ]
              refine rest_got (i := 18) (v := ?v70) rfl (by kernel_rfl) (by kernel_rfl) (by kernel_rfl) (fun _ _ _ h => h) (by rfl) ?y70 ?r70
              case y70 => (intro w9q hSwq; clear hSwq; go_simp; with_reducible rfl)
              try simp only [Act.put, List.setIfInBounds_toArray, List.set_cons_zero, List.set_cons_succ]
              refine rest_got (i := 19) (v := ?v71) rfl (by kernel_rfl) (by kernel_rfl) (by kernel_rfl) (fun _ _ _ h => h) (by rfl) ?y71 ?r71
              case y71 => (intro w9q hSwq; clear hSwq; go_simp; with_reducible rfl)
              try simp only [Act.put, List.setIfInBounds_toArray, List.set_cons_zero, List.set_cons_succ]
              refine rest_got (i := 20) (v := ?v72) rfl (by kernel_rfl) (by kernel_rfl) (by kernel_rfl) (fun _ _ _ h => h) (by rfl) ?y72 ?r72
              case y72 => ((intro w9' hm9'; have hc9' := Mod.cell hm9' V8.out (by first | exact List.not_mem_nil | assumption | (simp; done) | (simp; omega)); clear hm9'; go_simp; with_reducible rfl))
              try simp only [Act.put, List.setIfInBounds_toArray, List.set_cons_zero, List.set_cons_succ]
              refine rest_got (i := 21) (v := ?v73) rfl (by kernel_rfl) (by kernel_rfl) (by kernel_rfl) (fun _ _ _ h => h) (by rfl) ?y73 ?r73
              case y73 => (intro w9q hSwq; clear hSwq; go_simp; with_reducible rfl)
              try simp only [Act.put, List.setIfInBounds_toArray, List.set_cons_zero, List.set_cons_succ]
              refine rest_got (i := 22) (v := ?v74) rfl (by kernel_rfl) (by kernel_rfl) (by kernel_rfl) (fun _ _ _ h => h) (by rfl) ?y74 ?r74
              case y74 => (intro w9q hSwq; clear hSwq; go_simp; with_reducible rfl)
              try simp only [Act.put, List.setIfInBounds_toArray, List.set_cons_zero, List.set_cons_succ]
              refine rest_skip (i := 23) rfl (by kernel_rfl) (by kernel_rfl) (by kernel_rfl) (fun _ _ _ h => h) (by rfl) ?_
              try simp only [Act.put, List.setIfInBounds_toArray, List.set_cons_zero, List.set_cons_succ]
              refine rest_skip (i := 24) rfl (by kernel_rfl) (by kernel_rfl) (by kernel_rfl) (fun _ _ _ h => h) (by rfl) ?_
              try simp only [Act.put, List.setIfInBounds_toArray, List.set_cons_zero, List.set_cons_succ]
              refine rest_skip (i := 25) rfl (by kernel_rfl) (by kernel_rfl) (by kernel_rfl) (fun _ _ _ h => h) (by rfl) ?_
              try simp only [Act.put, List.setIfInBounds_toArray, List.set_cons_zero, List.set_cons_succ]
              refine rest_skip (i := 26) rfl (by kernel_rfl) (by kernel_rfl) (by kernel_rfl) (fun _ _ _ h => h) (by rfl) ?_
              try simp only [Act.put, List.setIfInBounds_toArray, List.set_cons_zero, List.set_cons_succ]
              refine rest_skip (i := 27) rfl (by kernel_rfl) (by kernel_rfl) (by kernel_rfl) (fun _ _ _ h => h) (by rfl) ?_
              try simp only [Act.put, List.setIfInBounds_toArray, List.set_cons_zero, List.set_cons_succ]
              refine rest_skip (i := 28) rfl (by kernel_rfl) (by kernel_rfl) (by kernel_rfl) (fun _ _ _ h => h) (by rfl) ?_
              try simp only [Act.put, List.setIfInBounds_toArray, List.set_cons_zero, List.set_cons_succ]
              refine rest_skip (i := 29) rfl (by kernel_rfl) (by kernel_rfl) (by kernel_rfl) (fun _ _ _ h => h) (by rfl) ?_
              try simp only [Act.put, List.setIfInBounds_toArray, List.set_cons_zero, List.set_cons_succ]
              refine rest_skip (i := 30) rfl (by kernel_rfl) (by kernel_rfl) (by kernel_rfl) (fun _ _ _ h => h) (by rfl) ?_
              try simp only [Act.put, List.setIfInBounds_toArray, List.set_cons_zero, List.set_cons_succ]
              refine rest_skip (i := 31) rfl (by kernel_rfl) (by kernel_rfl) (by kernel_rfl) (fun _ _ _ h => h) (by rfl) ?_
              try simp only [Act.put, List.setIfInBounds_toArray, List.set_cons_zero, List.set_cons_succ]
              refine rest_skip (i := 32) rfl (by kernel_rfl) (by kernel_rfl) (by kernel_rfl) (fun _ _ _ h => h) (by rfl) ?_
              try simp only [Act.put, List.setIfInBounds_toArray, List.set_cons_zero, List.set_cons_succ]
              refine rest_skip (i := 33) rfl (by kernel_rfl) (by kernel_rfl) (by kernel_rfl) (fun _ _ _ h => h) (by rfl) ?_
              try simp only [Act.put, List.setIfInBounds_toArray, List.set_cons_zero, List.set_cons_succ]
              refine rest_skip (i := 34) rfl (by kernel_rfl) (by kernel_rfl) (by kernel_rfl) (fun _ _ _ h => h) (by rfl) ?_
              try simp only [Act.put, List.setIfInBounds_toArray, List.set_cons_zero, List.set_cons_succ]
              refine rest_got (i := 35) (v := ?v75) rfl (by kernel_rfl) (by kernel_rfl) (by kernel_rfl) (fun _ _ _ h => h) (by rfl) ?y75 ?r75
              case y75 => (intro w9q hSwq; clear hSwq; go_simp; with_reducible rfl)
              try simp only [Act.put, List.setIfInBounds_toArray, List.set_cons_zero, List.set_cons_succ]
              refine rest_got (i := 36) (v := ?v76) rfl (by kernel_rfl) (by kernel_rfl) (by kernel_rfl) (fun _ _ _ h => h) (by rfl) ?y76 ?r76
              case y76 => (intro w9q hSwq; clear hSwq; go_simp; with_reducible rfl)
              try simp only [Act.put, List.setIfInBounds_toArray, List.set_cons_zero, List.set_cons_succ]
              refine rest_done (by kernel_rfl) ?_ _
              go_wp2
              go_roundw
              case rel => exact ⟨p + 1, by omega, by go_num, HMq.out.trans' M8.out⟩
              case measure => simp [intOf]; omega
        · have hpe : p = k := by omega
          subst hpe
          have hFm := HF5.out.mod0 HMq.out
          go_wp2
          go_roundw
          case rel => exact ⟨p + 1, n', _, by omega, by go_num, rfl, hnk', hFm, HS1.out, HM5.out.trans0 HMq.out⟩
          case measure => simp [intOf]; omega
    · have hke : k = len := by omega
      subst hke
      have e2 : (n : Int) - 1 + 1 = (n : Int) := by omega
      go_wp2_with (first | (at_len; refine wpl_lenmap (dst := some 89) _ _ HFk.out Try.underlying27 rfl ?_) | fail)
      refine (wakes12_any wr).mono ?_
      rintro e wz ⟨rfl, mz⟩
      go_wp2
      go_ret
      exact ⟨rfl, HMr.out.trans' mz⟩
end Go.Proofs.Ytkkjbeakmimmmaa
