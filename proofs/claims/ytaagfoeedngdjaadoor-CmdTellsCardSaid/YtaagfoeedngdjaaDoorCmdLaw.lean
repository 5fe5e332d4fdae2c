/- The plain laws of commands as bytes: what is written is read, what is read was written so. No walk. -/
import Derived.Test.YtaagfoeedngdjaaDoorCmd12
import Derived.Test.YtaagfoeedngdjaaDoorVarLaw
namespace Go.Proofs.YtaagfoeedngdjaaDoor
open Go Go.RowKit Go.Lib

theorem zig_zag (n : Nat) : zig (zag n) = n := by
  unfold zig zag
  split <;> split <;> omega
theorem txt_eta (t : ByteArray) : (⟨t.data.toList.toArray⟩ : ByteArray) = t := (str_eta t).symm
theorem txB_write (t : ByteArray) (rest : List UInt8) (h : t.size ≤ 64) : textR 64 0 (txB t ++ rest) = (t.data.toList, 0, rest) := by
  have h1 := textR_write 64 t.data.toList rest (by rw [size_data]; omega) (by rw [size_data]; omega)
  rw [size_data] at h1
  exact h1
theorem keysB_cons (t : ByteArray) (l : List ByteArray) : keysB (t :: l) = txB t ++ keysB l := rfl
theorem keysR_write (ks : List ByteArray) (rest : List UInt8) (h : ∀ t ∈ ks, t.size ≤ 64) : ∀ k, k ≤ ks.length → keysR k 0 (keysB ks ++ rest) = (ks.take k, 0, keysB (ks.drop k) ++ rest) := by
  intro k
  induction k with
  | zero => intro _; rfl
  | succ k ih =>
    intro hk
    have ih := ih (by omega)
    have hd : ks.drop k = ks[k] :: ks.drop (k + 1) := (List.drop_eq_getElem_cons (by omega))
    show ((keysR k 0 (keysB ks ++ rest)).1 ++ [(⟨(textR 64 (keysR k 0 (keysB ks ++ rest)).2.1 (keysR k 0 (keysB ks ++ rest)).2.2).1.toArray⟩ : ByteArray)], (textR 64 (keysR k 0 (keysB ks ++ rest)).2.1 (keysR k 0 (keysB ks ++ rest)).2.2).2.1, (textR 64 (keysR k 0 (keysB ks ++ rest)).2.1 (keysR k 0 (keysB ks ++ rest)).2.2).2.2) = _
    rw [ih]
    dsimp only
    rw [hd, keysB_cons, List.append_assoc, txB_write _ _ (h _ (List.getElem_mem (by omega)))]
    dsimp only
    rw [txt_eta, ← take_snoc ks k (by omega)]
/-- What is written is read. -/
theorem takeR_write' (c : Cd) (hm : May c) (hw : Wf c) (tail : List UInt8) (n8 : Nat) (e8 : Int) (l8 : List UInt8) (h8 : uintE 10 0 0 0 tail = (n8, e8, l8)) :
    takeR 0 (enc7 c.client ++ enc7 c.seq ++ enc7 c.kind ++ enc7 c.keys.length ++ keysB c.keys ++ txB c.old ++ txB c.fresh ++ tail) = ((⟨c.client, c.seq, c.kind, c.keys, c.old, c.fresh, zag n8⟩, true), e8, l8) := by
  have k1 : c.client ≤ 4294967295 := by have := hw.client; omega
  have k2 : c.seq ≤ 4294967295 := by have := hw.seq; omega
  have k3 : c.kind ≤ 255 := by have := hw.kind; omega
  have k4 : c.keys.length ≤ 16 := by
    have h1 : c.keys.length ≤ most c.kind := hm.2.2.2.2.1
    have h2 : most c.kind ≤ 16 := by unfold most; split <;> (try split) <;> omega
    omega
  have k5 : ∀ t ∈ c.keys, t.size ≤ 64 := fun t ht => by have := (hm.2.1 t ht).2; omega
  have k6 : c.old.size ≤ 64 := hm.2.2.2.2.2.1
  have k7 : c.fresh.size ≤ 64 := hm.2.2.2.2.2.2.1
  have hk := keysR_write c.keys (txB c.old ++ (txB c.fresh ++ tail)) k5 c.keys.length (Nat.le_refl _)
  rw [List.take_length, List.drop_length] at hk
  have hk' : keysR c.keys.length 0 (keysB c.keys ++ (txB c.old ++ (txB c.fresh ++ tail))) = (c.keys, 0, txB c.old ++ (txB c.fresh ++ tail)) := hk
  simp only [List.append_assoc]
  unfold takeR
  dsimp only
  rw [uintE_write c.client _ (by omega)]
  dsimp only
  rw [uintE_write c.seq _ (by omega)]
  dsimp only
  rw [uintE_write c.kind _ (by omega)]
  dsimp only
  rw [uintE_write c.keys.length _ (by omega)]
  dsimp only
  rw [if_pos ⟨k1, k2, k3, k4⟩, hk']
  dsimp only
  rw [txB_write _ _ k6]
  dsimp only
  rw [txB_write _ _ k7]
  dsimp only
  rw [h8]
theorem takeR_write (c : Cd) (hm : May c) (hw : Wf c) (rest : List UInt8) : takeR 0 (oneB c ++ rest) = ((c, true), 0, rest) := by
  have h := takeR_write' c hm hw (enc7 (zig c.n) ++ rest) (zig c.n) 0 rest (uintE_write _ _ (zig_lt _ hw.lo hw.hi))
  rw [zag_zig] at h
  unfold oneB
  rw [List.append_assoc _ (enc7 (zig c.n)) rest]
  exact h
theorem uintR_short (k : Nat) : ∀ (i n m : Nat) (l : List UInt8), i + k = 10 → l ≠ [] → uintR k i n l = (m, 0, []) → (uintR k i n l.dropLast).2.1 = 10 := by
  induction k with
  | zero =>
    intro i n m l _ hl h
    have : (0, 0, l) = (m, (0 : Int), ([] : List UInt8)) := h
    exact absurd (by injection this with _ h2; injection h2) hl
  | succ k ih =>
    intro i n m l hi hl h
    cases l with
    | nil => exact absurd rfl hl
    | cons c r =>
      have e : uintR (k + 1) i n (c :: r) = if (i = 9 ∧ 1 < c.toNat) ∨ (0 < i ∧ c.toNat = 0) then (0, 11, r) else if c.toNat < 128 then (n + c.toNat % 128 * 2 ^ (7 * i), 0, r) else uintR k (i + 1) (n + c.toNat % 128 * 2 ^ (7 * i)) r := rfl
      rw [e] at h
      by_cases h1 : (i = 9 ∧ 1 < c.toNat) ∨ (0 < i ∧ c.toNat = 0)
      · rw [if_pos h1] at h
        injection h with _ h2; injection h2 with h3; exact absurd h3 (by decide)
      · rw [if_neg h1] at h
        by_cases h2 : c.toNat < 128
        · rw [if_pos h2] at h
          injection h with _ h3; injection h3 with _ h4
          subst h4
          rfl
        · rw [if_neg h2] at h
          have hr : r ≠ [] := by
            intro hr
            subst hr
            cases k with
            | zero => exact h1 (.inl ⟨by omega, by omega⟩)
            | succ k =>
              have : (0, (10 : Int), ([] : List UInt8)) = (m, 0, []) := h
              injection this with _ h3; injection h3 with h4; exact absurd h4 (by decide)
          rw [List.dropLast_cons_of_ne_nil hr]
          have e2 : uintR (k + 1) i n (c :: r.dropLast) = if (i = 9 ∧ 1 < c.toNat) ∨ (0 < i ∧ c.toNat = 0) then (0, 11, r.dropLast) else if c.toNat < 128 then (n + c.toNat % 128 * 2 ^ (7 * i), 0, r.dropLast) else uintR k (i + 1) (n + c.toNat % 128 * 2 ^ (7 * i)) r.dropLast := rfl
          rw [e2, if_neg h1, if_neg h2]
          exact ih (i + 1) _ m r (by omega) hr h
theorem uintE_short (v : Nat) (h : v < 18446744073709551616) : (uintE 10 0 0 0 (enc7 v).dropLast).2.1 = 10 := by
  have h1 := uintE_write v [] h
  rw [List.append_nil] at h1
  have h2 : uintE 10 0 0 0 (enc7 v) = uintR 10 0 0 (enc7 v) := if_pos rfl
  rw [h2] at h1
  have h3 : uintE 10 0 0 0 (enc7 v).dropLast = uintR 10 0 0 (enc7 v).dropLast := if_pos rfl
  rw [h3]
  exact uintR_short 10 0 0 v _ rfl (fun he => by have := (enc7_length v).1; rw [he] at this; simp at this) h1

/-- A batch that is written, read. -/
theorem parseL_write (l : List Cm) (hm : ∀ c ∈ l, May c.1) (hw : ∀ c ∈ l, Wf c.1) (rest : List UInt8) : parseL l.length 0 (l.flatMap (fun c => oneB c.1) ++ rest) = some (l.map Prod.fst, 0, rest) := by
  induction l with
  | nil => rfl
  | cons c l ih =>
    have e : (c :: l).flatMap (fun c => oneB c.1) ++ rest = oneB c.1 ++ (l.flatMap (fun c => oneB c.1) ++ rest) := by rw [List.flatMap_cons, List.append_assoc]
    have h1 := takeR_write c.1 (hm c (by simp)) (hw c (by simp)) (l.flatMap (fun c => oneB c.1) ++ rest)
    have h2 := parseL_more l.length (oneB c.1 ++ (l.flatMap (fun c => oneB c.1) ++ rest)) (by rw [h1]; exact fun h => h.2 ⟨rfl, hm c (by simp)⟩)
    rw [e, List.length_cons, h2, h1]
    dsimp only
    rw [ih (fun c hc => hm c (by simp [hc])) (fun c hc => hw c (by simp [hc]))]
    rfl
theorem batchB_write (l : List Cm) (hb : BatchOk l) (hw : ∀ c ∈ l, Wf c.1) (rest : List UInt8) : parseR (batchB l ++ rest) = if rest = [] then (l.map Prod.fst, 0) else ([], 11) := by
  unfold parseR batchB
  have h8 := hb.1
  rw [List.append_assoc, uintE_write _ _ (by omega)]
  dsimp only
  rw [if_pos h8, parseL_write l hb.2 hw rest]
  rfl
theorem takeR_short (c : Cd) (hm : May c) (hw : Wf c) : (takeR 0 (oneB c).dropLast).2.1 = 10 := by
  have hz := zig_lt _ hw.lo hw.hi
  have h0 : enc7 (zig c.n) ≠ [] := fun he => by have := (enc7_length (zig c.n)).1; rw [he] at this; simp at this
  unfold oneB
  rw [List.dropLast_append_of_ne_nil h0]
  obtain ⟨⟨n8, e8, l8⟩, h8⟩ : ∃ x, uintE 10 0 0 0 (enc7 (zig c.n)).dropLast = x := ⟨_, rfl⟩
  rw [takeR_write' c hm hw _ n8 e8 l8 h8]
  have := uintE_short (zig c.n) hz
  rw [h8] at this
  exact this
theorem oneB_ne (c : Cd) : oneB c ≠ [] := fun h => by
  have h2 := congrArg List.length h
  unfold oneB at h2
  simp only [List.length_append, List.length_nil] at h2
  have := (enc7_length c.client).1
  omega
/-- Without its last byte a batch ends too soon. -/
theorem parseL_short (l : List Cm) (h0 : l ≠ []) (hm : ∀ c ∈ l, May c.1) (hw : ∀ c ∈ l, Wf c.1) : ∃ cs r, parseL l.length 0 (l.flatMap (fun c => oneB c.1)).dropLast = some (cs, 10, r) := by
  induction l with
  | nil => exact absurd rfl h0
  | cons c l ih =>
    by_cases hl : l = []
    · subst hl
      have e : ([c] : List Cm).flatMap (fun c => oneB c.1) = oneB c.1 := by simp
      rw [e]
      have h1 := takeR_short c.1 (hm c (by simp)) (hw c (by simp))
      have h2 := parseL_more 0 (oneB c.1).dropLast (by rw [h1]; exact fun h => absurd h.1 (by decide))
      rw [List.length_singleton, h2, h1]
      exact ⟨_, _, rfl⟩
    · have hne : l.flatMap (fun c => oneB c.1) ≠ [] := by
        cases l with
        | nil => exact absurd rfl hl
        | cons d l => rw [List.flatMap_cons]; intro h; exact oneB_ne d.1 (List.append_eq_nil_iff.1 h).1
      have e : ((c :: l).flatMap (fun c => oneB c.1)).dropLast = oneB c.1 ++ (l.flatMap (fun c => oneB c.1)).dropLast := by rw [List.flatMap_cons, List.dropLast_append_of_ne_nil hne]
      have h1 := takeR_write c.1 (hm c (by simp)) (hw c (by simp)) (l.flatMap (fun c => oneB c.1)).dropLast
      have h2 := parseL_more l.length (oneB c.1 ++ (l.flatMap (fun c => oneB c.1)).dropLast) (by rw [h1]; exact fun h => h.2 ⟨rfl, hm c (by simp)⟩)
      obtain ⟨cs, r, h3⟩ := ih hl (fun c hc => hm c (by simp [hc])) (fun c hc => hw c (by simp [hc]))
      rw [e, List.length_cons, h2, h1]
      dsimp only
      rw [h3]
      exact ⟨_, _, rfl⟩
theorem batchB_short (l : List Cm) (hb : BatchOk l) (hw : ∀ c ∈ l, Wf c.1) : parseR (batchB l).dropLast = ([], 10) := by
  have h8 := hb.1
  by_cases hl : l = []
  · subst hl
    have : (batchB []).dropLast = [] := by decide
    rw [this]
    rfl
  · have hne : l.flatMap (fun c => oneB c.1) ≠ [] := by
      cases l with
      | nil => exact absurd rfl hl
      | cons d l => rw [List.flatMap_cons]; intro h; exact oneB_ne d.1 (List.append_eq_nil_iff.1 h).1
    obtain ⟨cs, r, h3⟩ := parseL_short l hl hb.2 hw
    unfold parseR batchB
    rw [List.dropLast_append_of_ne_nil hne, uintE_write _ _ (by omega)]
    dsimp only
    rw [if_pos h8, h3]
    rfl
end Go.Proofs.YtaagfoeedngdjaaDoor
