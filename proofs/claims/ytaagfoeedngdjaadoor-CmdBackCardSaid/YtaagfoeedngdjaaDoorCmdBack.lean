/- The walk of the law CmdBack. -/
import Derived.Test.YtaagfoeedngdjaaDoorCmdTakes
namespace Go.Proofs.YtaagfoeedngdjaaDoor
open Go Go.RowKit Go.Lib

theorem small_of_may {c : Cd} (h : May c) : Small c := by
  have h1 : c.keys.length ≤ most c.kind := h.2.2.2.2.1
  have h2 : most c.kind ≤ 16 := by unfold most; split <;> (try split) <;> omega
  have h3 : c.old.size ≤ 64 := h.2.2.2.2.2.1
  have h4 : c.fresh.size ≤ 64 := h.2.2.2.2.2.2.1
  exact ⟨by omega, fun k hk => by have := (h.2.1 k hk).2; omega, by omega, by omega⟩
theorem batchB_map (l : List Cm) : batchB l = enc7 (l.map Prod.fst).length ++ (l.map Prod.fst).flatMap oneB := by
  unfold batchB
  rw [List.length_map, List.flatMap_map]
theorem batch_back (l : List Cm) (b : List UInt8) (h : (parseR b).2 = 0) (hl : l.map Prod.fst = (parseR b).1) : batchR l = (b, 0) ∧ l.length ≤ 8 ∧ ∀ c ∈ l, May c.1 := by
  obtain ⟨h1, h2, h3⟩ := parseR_back b h
  rw [← hl] at h1 h2 h3
  rw [List.length_map] at h1
  have hm : ∀ c ∈ l, May c.1 := fun c hc => h2 _ (List.mem_map.2 ⟨c, hc, rfl⟩)
  refine ⟨?_, h1, hm⟩
  rw [show batchR l = (batchB l, 0) from if_pos ⟨h1, hm⟩, batchB_map, ← h3]

theorem batchB_len (l : List Cm) (h : BatchOk l) (hs : ∀ c ∈ l, Small c.1) : (batchB l).length ≤ 500000 := by
  have h1 : ∀ m : List Cm, (∀ c ∈ m, Small c.1) → (m.flatMap (fun c => oneB c.1)).length ≤ 60000 * m.length := by
    intro m
    induction m with
    | nil => intro _; simp
    | cons c m ih =>
      intro hm
      rw [List.flatMap_cons, List.length_append, List.length_cons]
      have a := oneB_len c.1 (hm c (by simp))
      have b := ih (fun c hc => hm c (by simp [hc]))
      omega
  have h2 := h1 l hs
  have h3 := (enc7_length l.length).2
  have h4 := h.1
  unfold batchB
  rw [List.length_append]
  omega
set_option maxRecDepth 100000 in
set_option maxHeartbeats 8000000 in
theorem cmdBack_any (ao : Option Addr) (len cap : Nat) (l : List Cm) (bo : Option Addr) (bl bc : Nat) (b : List UInt8) (w : World) (hl : l.length = len) (hlen : len ≤ 9223372036854775807) (hs : SeesC w ao l)
    (hbl : b.length = bl) (hbc : bl ≤ bc) (hbm : bc ≤ 9223372036854775807) (hb : Sees w bo b) (ht : Cnt w) :
    Calls Tryd.prog 3 #[.slice ao len cap, .slice bo bl bc] w fun e w' => e = .returned (.bool true) ∧ Mod [] w w' := by
  have HG := Lib.hid (great_any ao len cap l w hl hs hlen)
  subst hl hbl
  have HS := Lib.hid hs
  have HB := Lib.hid hb
  have HT := Lib.hid ht
  clear hs hb ht
  go_enter Tryd.func3, Tryd.ntmps3
  go_wp2_with fail
  refine HG.out.mono ?_
  rintro e w1 ⟨gb, rfl, m1, hgr⟩
  have M1 := Lib.hid m1
  have HWK := Lib.hid (wakes08_any w1 (HT.out.mod0 m1))
  clear m1 HG
  cases gb
  case true =>
    clear hgr
    go_wp2_with fail
    refine HWK.out.mono ?_
    rintro e w2 ⟨rfl, m2⟩
    have M2 := Lib.hid (M1.out.trans' m2)
    clear m2
    go_wp2_with fail
    go_ret
    exact ⟨rfl, M2.out⟩
  obtain ⟨h100, hsm⟩ := hgr rfl
  have HZ := Lib.hid hsm
  clear hgr hsm
  by_cases hm : 4000 < b.length
  · have D : decide ((4000 : Int) < (b.length : Int)) = true := decide_eq_true (by omega)
    go_wp2_with fail
    refine HWK.out.mono ?_
    rintro e w2 ⟨rfl, m2⟩
    have M2 := Lib.hid (M1.out.trans' m2)
    clear m2
    go_wp2_with fail
    go_ret
    exact ⟨rfl, M2.out⟩
  have D : decide ((4000 : Int) < (b.length : Int)) = false := decide_eq_false (by omega)
  have HBT := Lib.hid (batch_any ao _ cap l w1 rfl (HS.out.mod0 M1.out) h100 HZ.out (HT.out.mod0 M1.out))
  clear HWK
  go_wp2_with fail
  refine HBT.out.mono ?_
  rintro e w2 ⟨a2, k2, c2, rfl, hk2, o2, m2, n2⟩
  have M2 := Lib.hid (M1.out.trans' m2)
  by_cases hok : BatchOk l
  · have hr : batchR l = (batchB l, 0) := if_pos hok
    rw [hr] at hk2 o2
    rw [hr]
    dsimp only at hk2 o2 ⊢
    have hwf : ∀ c ∈ l, Wf c.1 := fun c hc => by
      obtain ⟨j, hj, rfl⟩ := List.getElem_of_mem hc
      obtain ⟨_, _, _, _, _, _, _, _, _, _, _, hf⟩ := HS.out j hj
      exact hf
    have q1 := batchB_write l hok hwf []
    rw [List.append_nil, if_pos rfl] at q1
    have q2 := batchB_write l hok hwf [0]
    rw [if_neg (by simp)] at q2
    have q3 := batchB_short l hok hwf
    have Q1 := Lib.hid q1
    have Q2 := Lib.hid q2
    have Q3 := Lib.hid q3
    obtain ⟨x, hx⟩ : ∃ x, batchB l = x := ⟨_, rfl⟩
    rw [hx] at Q1 Q2 Q3 hk2 o2
    have HX := Lib.hid hx
    have O2 := Lib.hid o2
    have HK2 := Lib.hid hk2
    have hcp : k2 ≤ c2 := by rw [← hk2]; exact Own.le o2
    have hcm : c2 ≤ 9223372036854775807 := by have := Own.cap_le o2; unfold maxLen at this; omega
    have HPA := Lib.hid (parse_any a2 k2 c2 x w2 hk2 hcp hcm o2.sees (HT.out.mod0 M2.out))
    clear q1 q2 q3 o2 hk2 m2 n2 HBT hx hr
    go_wp2_with fail
    refine HPA.out.mono ?_
    rintro e w3 ⟨a3, c3, out, he, ho, hs3, m3⟩
    rw [Q1.out] at he ho
    dsimp only at he ho
    subst he
    have M3 := Lib.hid (M2.out.trans' m3)
    have O3 := Lib.hid (O2.out.mod0 m3)
    have HS3 := Lib.hid hs3
    have HO := Lib.hid ho
    have hlo : out.length = l.length := by have := congrArg List.length ho; simpa using this
    have hk2 : k2 ≤ 500000 := by rw [← HK2.out, ← HX.out]; exact batchB_len l hok HZ.out
    rw [List.length_map]
    clear ho hs3 m3 HPA O2 hcp hcm hok
    go_wp2_with (first
      | (at_builtin; refine wpl_app8 (dst := some 39) _ _ none 0 0 [] rfl rfl (OwnB.nil _) a2 k2 c2 x rfl HK2.out O3.out.sees (by omega) ?_; intro a4 c4 w4 o4 m4 n4; have O4 := Lib.hid o4; have M4 := Lib.hid m4; have N4 := Lib.hid n4; rw [List.nil_append] at O4; have M4 : Hid (Mod [] w3 w4) := M4; have M4' := Lib.hid (M3.out.trans' M4.out); have O4' := Lib.hid (O4.out.mod0 (Mod.alloc [] w4 (.cells #[.int .u8 0] 5))); have B4 := Lib.hid (Sees.one w4 0 (.int .u8 0) 5 rfl); clear o4 m4 n4)
      | (at_builtin; refine wpl_app8 (dst := some 41) _ _ a4 k2 c4 x rfl HK2.out O4'.out _ 1 1 [0] rfl rfl B4.out (by omega) ?_; intro a5 c5 w5 o5 m5 n5; have O5 := Lib.hid o5; have M5 := Lib.hid m5; clear o5 m5 n5)
      | fail)
    have M5' : Hid (Mod [] w w5) := Lib.hid ((M4'.out.trans' (Mod.alloc [] w4 (.cells #[.int .u8 0] 5))).trans M5.out (fun j hj hl => by
      rcases N4.out.blk j hj with h | h
      · exact absurd h List.not_mem_nil
      · have := M3.out.size; omega))
    have hl5 : (x ++ [(0 : UInt8)]).length = k2 + 1 := by rw [List.length_append, HK2.out]; rfl
    have HPB := Lib.hid (parse_any a5 (k2 + 1) c5 (x ++ [0]) w5 hl5 (by rw [← hl5]; exact Own.le O5.out) (by have := Own.cap_le O5.out; unfold maxLen at this; omega) O5.out.sees (HT.out.mod0 M5'.out))
    have hk0 : 1 ≤ k2 := by rw [← HK2.out, ← HX.out]; unfold batchB; rw [List.length_append]; have := (enc7_length l.length).1; omega
    have W35 : Hid (Mod [] w3 w5) := Lib.hid ((M4.out.trans' (Mod.alloc [] w4 (.cells #[.int .u8 0] 5))).trans M5.out (fun j hj hl => by
      rcases N4.out.blk j hj with h | h
      · exact absurd h List.not_mem_nil
      · omega))
    refine HPB.out.mono ?_
    rintro e w6 ⟨a6, c6, out6, he, ho6, -, m6⟩
    rw [Q2.out] at he
    dsimp only at he
    subst he
    have W36 := Lib.hid (W35.out.trans' m6)
    have M6 := Lib.hid (M3.out.trans' W36.out)
    have O6 := Lib.hid (O3.out.mod0 W36.out)
    have HAL := Lib.hid (all_any a3 _ c3 out ao _ cap l w6 hlo rfl (by omega) hlen (HS3.out.mod0 W36.out) (HS.out.mod0 M6.out))
    rw [decide_eq_true HO.out] at HAL
    clear ho6 m6 HPB W35 W36 M5 M5' M4 M4' O4 O4' B4 N4 O5 hl5 HO HS3 hlo O3
    go_wp2_with fail
    refine HAL.out.mono ?_
    rintro e w7 ⟨rfl, m7⟩
    have M7 := Lib.hid (M6.out.trans' m7)
    have O7 := Lib.hid (O6.out.mod0 m7)
    have hd : x.dropLast.length = k2 - 1 := by rw [List.length_dropLast, HK2.out]
    have HPC := Lib.hid (parse_any a2 (k2 - 1) c2 x.dropLast w7 hd (by have := Own.le O7.out; have := HK2.out; omega) (by have := Own.cap_le O7.out; unfold maxLen at this; omega) (by rw [List.dropLast_eq_take]; exact O7.out.sees.take _) (HT.out.mod0 M7.out))
    have hkc2 : k2 ≤ c2 := by have := Own.le O7.out; have := HK2.out; omega
    clear m7 HAL O6 hd
    go_wp2_with fail
    refine HPC.out.mono ?_
    rintro e w8 ⟨a8, c8, out8, he, ho8, -, m8⟩
    rw [Q3.out] at he
    dsimp only at he
    subst he
    have M8 := Lib.hid (M7.out.trans' m8)
    clear ho8 m8 HPC O7 Q1 Q2 Q3 HX HK2 hk0 hk2 hkc2
    have HP := Lib.hid (parse_any bo _ bc b w8 rfl hbc hbm (HB.out.mod0 M8.out) (HT.out.mod0 M8.out))
    go_wp2_with fail
    refine HP.out.mono ?_
    rintro e v1 ⟨a9, c9, out, rfl, ho, hs9, p1⟩
    have V1 := Lib.hid (M8.out.trans' p1)
    have HWK := Lib.hid (wakes08_any v1 (HT.out.mod0 V1.out))
    have HER := Lib.hid (parseR_err b)
    by_cases h0 : (parseR b).2 = 0
    · have HBK := Lib.hid (batch_back out b h0 ho)
      have hln : out.length = (parseR b).1.length := by rw [← ho, List.length_map]
      have h8 := HBK.out.2.1
      have HB2 := Lib.hid (batch_any a9 _ c9 out v1 hln hs9 (by omega) (fun c hc => small_of_may (HBK.out.2.2 c hc)) (HT.out.mod0 V1.out))
      rw [h0]
      obtain ⟨ol, hol⟩ : ∃ x, (parseR b).1.length = x := ⟨_, rfl⟩
      rw [hol] at HB2 ⊢
      clear HP HWK HER p1 ho hs9 h0 hln h8 hol
      go_wp2_with fail
      refine HB2.out.mono ?_
      rintro e v2 ⟨x2, y2, z2, he, hy2, q2, p2, -⟩
      rw [HBK.out.1] at he hy2 q2
      dsimp only at he hy2 q2
      subst he
      subst hy2
      have V2 := Lib.hid (V1.out.trans' p2)
      have HWK := Lib.hid (wakes08_any v2 (HT.out.mod0 V2.out))
      have Q2 := Lib.hid (OwnB.sees q2)
      have HB3 := Lib.hid (HB.out.mod0 V2.out)
      have cv1 := run_string_of (P := Tryd.prog) (w := v2) 23 9 5 Tryd.underlying23 Tryd.underlying5 Tryd.underlying9 x2 z2 b Q2.out
      have cv2 := run_string_of (P := Tryd.prog) (w := v2) 23 9 5 Tryd.underlying23 Tryd.underlying5 Tryd.underlying9 bo bc b HB3.out
      clear q2 p2 HB2
      go_wp2_with fail
      refine HWK.out.mono ?_
      rintro e v3 ⟨rfl, p3⟩
      have V3 := Lib.hid (V2.out.trans' p3)
      clear p3
      go_wp2_with fail
      go_ret
      exact ⟨rfl, V3.out⟩
    · obtain ⟨he1, he2⟩ := HER.out.resolve_left h0
      obtain ⟨er, her⟩ : ∃ x, (parseR b).2 = x := ⟨_, rfl⟩
      rw [he1, her]
      rw [her] at he2
      clear HP HER p1 ho hs9 h0 her he1
      rcases he2 with rfl | rfl
      · go_wp2_with fail
        refine HWK.out.mono ?_
        rintro e v2 ⟨rfl, p2⟩
        have V2 := Lib.hid (V1.out.trans' p2)
        clear p2
        go_wp2_with fail
        go_ret
        exact ⟨rfl, V2.out⟩
      · go_wp2_with fail
        refine HWK.out.mono ?_
        rintro e v2 ⟨rfl, p2⟩
        have V2 := Lib.hid (V1.out.trans' p2)
        clear p2
        go_wp2_with fail
        go_ret
        exact ⟨rfl, V2.out⟩
  have hr : batchR l = ([], 1) := if_neg hok
  rw [hr] at hk2 o2
  rw [hr]
  dsimp only at hk2 o2 ⊢
  clear o2 m2 n2 HBT hok
  subst hk2
  have HP := Lib.hid (parse_any bo _ bc b w2 rfl hbc hbm (HB.out.mod0 M2.out) (HT.out.mod0 M2.out))
  go_wp2_with fail
  refine HP.out.mono ?_
  rintro e v1 ⟨a9, c9, out, rfl, ho, hs9, p1⟩
  have V1 := Lib.hid (M2.out.trans' p1)
  have HWK := Lib.hid (wakes08_any v1 (HT.out.mod0 V1.out))
  have HER := Lib.hid (parseR_err b)
  by_cases h0 : (parseR b).2 = 0
  · have HBK := Lib.hid (batch_back out b h0 ho)
    have hln : out.length = (parseR b).1.length := by rw [← ho, List.length_map]
    have h8 := HBK.out.2.1
    have HB2 := Lib.hid (batch_any a9 _ c9 out v1 hln hs9 (by omega) (fun c hc => small_of_may (HBK.out.2.2 c hc)) (HT.out.mod0 V1.out))
    rw [h0]
    obtain ⟨ol, hol⟩ : ∃ x, (parseR b).1.length = x := ⟨_, rfl⟩
    rw [hol] at HB2 ⊢
    clear HP HWK HER p1 ho hs9 h0 hln h8 hol
    go_wp2_with fail
    refine HB2.out.mono ?_
    rintro e v2 ⟨x2, y2, z2, he, hy2, q2, p2, -⟩
    rw [HBK.out.1] at he hy2 q2
    dsimp only at he hy2 q2
    subst he
    subst hy2
    have V2 := Lib.hid (V1.out.trans' p2)
    have HWK := Lib.hid (wakes08_any v2 (HT.out.mod0 V2.out))
    have Q2 := Lib.hid (OwnB.sees q2)
    have HB3 := Lib.hid (HB.out.mod0 V2.out)
    have cv1 := run_string_of (P := Tryd.prog) (w := v2) 23 9 5 Tryd.underlying23 Tryd.underlying5 Tryd.underlying9 x2 z2 b Q2.out
    have cv2 := run_string_of (P := Tryd.prog) (w := v2) 23 9 5 Tryd.underlying23 Tryd.underlying5 Tryd.underlying9 bo bc b HB3.out
    clear q2 p2 HB2
    go_wp2_with fail
    refine HWK.out.mono ?_
    rintro e v3 ⟨rfl, p3⟩
    have V3 := Lib.hid (V2.out.trans' p3)
    clear p3
    go_wp2_with fail
    go_ret
    exact ⟨rfl, V3.out⟩
  · obtain ⟨he1, he2⟩ := HER.out.resolve_left h0
    obtain ⟨er, her⟩ : ∃ x, (parseR b).2 = x := ⟨_, rfl⟩
    rw [he1, her]
    rw [her] at he2
    clear HP HER p1 ho hs9 h0 her he1
    rcases he2 with rfl | rfl
    · go_wp2_with fail
      refine HWK.out.mono ?_
      rintro e v2 ⟨rfl, p2⟩
      have V2 := Lib.hid (V1.out.trans' p2)
      clear p2
      go_wp2_with fail
      go_ret
      exact ⟨rfl, V2.out⟩
    · go_wp2_with fail
      refine HWK.out.mono ?_
      rintro e v2 ⟨rfl, p2⟩
      have V2 := Lib.hid (V1.out.trans' p2)
      clear p2
      go_wp2_with fail
      go_ret
      exact ⟨rfl, V2.out⟩
end Go.Proofs.YtaagfoeedngdjaaDoor
