/- Strings and bytes: conversions, and a string appended to bytes of the call's own. -/
import Derived.Test.YtekdnljincbghaaDoorBytes
import Derived.Lib.AppendStr
import Derived.Laws.IdiomStrings
import Derived.Laws.BytesArg
namespace Go.Proofs.YtekdnljincbghaaDoor
open Go Go.RowKit Go.Lib

/-- The string of these bytes. -/
abbrev strV (l : List UInt8) : Value := .string ⟨l.toArray⟩
theorem str_eta (s : ByteArray) : s = ⟨s.data.toList.toArray⟩ := by cases s; simp
theorem strCells_eq (s : ByteArray) : strCells s = s.data.toList.map u8v := rfl
theorem size_data (s : ByteArray) : s.data.toList.length = s.size := by rw [Array.length_toList]; rfl

section
variable {P : Program} (w : World)
theorem run_append_room_string_fz (t u ty e : TypeId) (i : TypeInfo) (ht : P.underlying t = some (.slice e)) (hu : P.underlying u = some .string) (hi : P.info? e = some i) (hs1 : i.size = 1)
    (g sLen sCap : Nat) (cur : Array Value) (fz : Nat × Nat) (hg : w.heap[g]? = some (.cells cur e fz)) (hz : fz = (0, 0) ∨ cur.size ≤ fz.1) (s : ByteArray)
    (hroom : sLen + s.size ≤ sCap) (hfit : sLen + s.size ≤ cur.size) :
    (Builtin.append_ #[t, u] ty #[.slice (some ⟨g, 0, none⟩) sLen sCap, .string s]).run P w =
      .ok (.slice (some ⟨g, 0, none⟩) (sLen + s.size) sCap) (w.setRow g (cur.toList.take sLen ++ strCells s ++ cur.toList.drop (sLen + s.size)).toArray) := by
  have hf := run_firstCells_string (P := P) w 1 s
  have hst := run_storeCells_fz (P := P) g sLen e fz (strCells s) 0 cur w hg hz (by simpa [strCells_length] using hfit) (strCells_oneCell s)
  simp only [Nat.add_zero, strCells_length] at hst
  simp [Builtin.append_, run_underlying ht, run_underlying hu, sizeOf, typeInfo, hi, hs1, Builtin.lenOf, hroom, hf, Addr.add_lit, hst]

theorem run_append_str (t u ty e : TypeId) (i : TypeInfo) (ht : P.underlying t = some (.slice e)) (hu : P.underlying u = some .string) (hi : P.info? e = some i) (hz : i.zero = some (.int .u8 0))
    (hsize : i.size = 1) (hby : i.bytes = 1)
    (ao : Option Addr) (n cap : Nat) (xs : List Value) (hown : Own w e 1 ao n cap xs) (s : ByteArray) (hbytes : n + s.size ≤ 140737488355328) :
    ∃ ao' cap' w', (Builtin.append_ #[t, u] ty #[.slice ao n cap, .string s]).run P w = .ok (.slice ao' (n + s.size) cap') w' ∧ Own w' e 1 ao' (n + s.size) cap' (xs ++ strCells s) ∧ Mod (blk ao) w w' ∧ SameOrNew w w' ao ao' := by
  have hxl : xs.length = n := by simpa using hown.1
  have hlen : (xs ++ strCells s).length = (n + s.size) * 1 := by rw [List.length_append, hxl, strCells_length]; omega
  have hmod : ∀ o : Obj, Mod (blk ao) w (w.drew.alloc o) := fun o => (Mod.drew _ w).trans' (Mod.alloc _ _ o)
  have hsn : ∀ o : Obj, SameOrNew w (w.drew.alloc o) ao (some ⟨w.heap.size, 0, none⟩) := fun o => .inr ⟨w.heap.size, rfl, Nat.le_refl _, by simp⟩
  have grown : ∀ (old : Nat) (rowCells : Array Value), old < n + s.size → rowCells.toList = xs ++ strCells s →
      Own (w.drew.alloc (.cells (rowCells ++ Builtin.zeroCells (Value.cells (.int .u8 0)) (grownCap w (n + s.size) old e - (n + s.size))) e)) e 1 (some ⟨w.heap.size, 0, none⟩) (n + s.size) (grownCap w (n + s.size) old e) (xs ++ strCells s) := by
    intro old row ho hrow
    have hge := grownCap_ge w (n + s.size) old e
    have hrs : row.size = n + s.size := by rw [← Array.length_toList, hrow]; omega
    refine ⟨hlen, .inr ⟨w.heap.size, _, (0, 0), rfl, heap_alloc_new w.drew _, .inl rfl, hge, grownCap_le_maxLen w (n + s.size) old e (by unfold maxLen; omega), ?_, ?_⟩⟩
    · simp only [Array.size_append, size_zeroCells, hrs]
      show _ ≤ n + s.size + (grownCap w (n + s.size) old e - (n + s.size)) * 1
      omega
    · simp only [Array.toList_append, hrow]
      rw [← hlen]
      exact List.take_left
  rcases hown.2 with ⟨rfl, rfl, rfl⟩ | ⟨g, cur, fz, rfl, hg, hfz, hnc, hcm, hcs, htake⟩
  · have hx : xs = [] := List.eq_nil_of_length_eq_zero hxl
    subst hx
    by_cases h0 : s.size = 0
    · have hs0 : strCells s = [] := List.eq_nil_of_length_eq_zero (by rw [strCells_length]; exact h0)
      refine ⟨none, 0, w, ?_, by rw [hs0, h0]; simpa using Own.nil0 w e 1, Mod.refl _ _, .inl rfl⟩
      simp [Builtin.append_, run_underlying ht, run_underlying hu, sizeOf, typeInfo, hi, Builtin.lenOf, h0, Builtin.firstCells]
    · have hr := run_append_nil_string (P := P) w t u ty e i _ ht hu hi hz s (by omega) (by omega) (by rw [hby]; omega)
      have hgr := grown 0 (s.data.map (fun b => Value.int .u8 b.toNat)) (by omega) (by simp [strCells])
      simp only [Nat.zero_add, List.nil_append] at hgr ⊢
      exact ⟨_, _, _, hr, hgr, hmod _, hsn _⟩
  · by_cases hroom : n + s.size ≤ cap
    · have hr := run_append_room_string_fz (P := P) w t u ty e i ht hu hi hsize g n cap cur fz hg hfz s hroom (by omega)
      refine ⟨_, _, _, hr, ⟨hlen, .inr ⟨g, _, fz, rfl, setRow_heap w g cur _ e _ hg, hfz.imp id (fun h => by simp [strCells_length]; omega), hroom, hcm, ?_, ?_⟩⟩, ⟨rfl, rfl, rfl, by simp, fun k _ hk => setRow_other w g k _ (fun e => hk (by simp [blk, e]))⟩, .inl rfl⟩
      · simp only [List.size_toArray, List.length_append, List.length_take, List.length_drop, Array.length_toList, strCells_length]
        omega
      · rw [Nat.mul_one] at htake
        rw [htake, ← hlen]
        exact List.take_left
    · have holds : ∀ j v, xs[j]? = some v → w.cell? ((⟨g, 0, none⟩ : Addr).add j) = some v := fun j v hj => by
        obtain ⟨g', h1, h2, _⟩ := hown.cell hj
        cases h1; rw [Addr.add_lit]; simpa using h2
      have hr := run_append_grow_string (P := P) w t u ty e i _ ht hu hi hz ⟨g, 0, none⟩ n cap xs (by rw [hsize]; exact hown.1) holds s (by omega) (by omega) (growslice_fits (by omega) (by rw [hby]; omega))
      exact ⟨_, _, _, hr, grown cap _ (by omega) (by simp), hmod _, hsn _⟩

theorem run_string_of (src dst e : TypeId) (hs : P.underlying src = some (.slice e)) (he : P.underlying e = some (.int .u8)) (hd : P.underlying dst = some .string)
    (ao : Option Addr) (cap : Nat) (l : List UInt8) (h : Sees w ao l) : (convert src dst (.slice ao l.length cap)).run P w = .ok (strV l) w := by
  cases l with
  | nil =>
    cases ao with
    | none => exact run_convert_bytes_nil w src e hs he 0 cap dst hd
    | some a => exact run_convert_bytes_back w src dst e a cap [] hs he hd (by intro j hj; simp at hj)
  | cons x l =>
    obtain ⟨b, off, rfl, _⟩ := h 0 (by simp)
    refine run_convert_bytes_back w src dst e ⟨b, off, none⟩ cap (x :: l) hs he hd ?_
    intro j hj
    obtain ⟨b', off', h1, h2⟩ := h j hj
    cases h1
    rw [Addr.add_lit]; exact h2
end

/-- string(b). -/
theorem wpl_str {w : World} {ops : Array Oper} {rest : List Oper} {a : Act} {Q : Exit → Act → World → Prop} {dst : Option Tmp} {ty : TypeId} {pos : String} {after : Array Edge} {gd : Option (Nat × Bool)} (x : Operand)
    (so : Option Addr) (m c : Nat) (l : List UInt8) (hx : a.eval x = .slice so m c) (hl : l.length = m) (hsees : Sees w so l)
    (hw : Region.wanted ⟨dst, .convert 27 9 x, ty, pos, after, gd⟩ (yielded ops a.tmps) = true)
    (h : wpList Tryd.prog ops Q rest (a.put dst (strV l)) w) :
    wpList Tryd.prog ops Q (⟨dst, .convert 27 9 x, ty, pos, after, gd⟩ :: rest) a w := by
  subst hl
  refine wpList_step fun K hK => ?_
  rw [if_pos hw]
  have hr := run_string_of (P := Tryd.prog) w 27 9 5 Tryd.underlying27 Tryd.underlying5 Tryd.underlying9 so c l hsees
  unfold Oper.wp execOp
  simp [hx, hr]
  exact hK _ _ h

theorem bytesRow_take (s : ByteArray) (cap : Nat) (h : s.size ≤ cap) : (bytesRow s cap).toList.take (s.size * 1) = s.data.toList.map u8v ∧ (bytesRow s cap).size = cap := by
  have hs : s.data.size = s.size := rfl
  constructor
  · unfold bytesRow
    rw [Nat.mul_one, Array.toList_append, List.take_left' (by simp [hs])]
    simp [u8v]
  · unfold bytesRow; simp [hs]; omega
/-- []byte(s). -/
theorem wpl_bytes {w : World} {ops : Array Oper} {rest : List Oper} {a : Act} {Q : Exit → Act → World → Prop} {dst : Option Tmp} {ty : TypeId} {pos : String} {after : Array Edge} {gd : Option (Nat × Bool)} (x : Operand)
    (s : ByteArray) (hx : a.eval x = .string s) (hm : s.size ≤ 9223372036854775807)
    (hw : Region.wanted ⟨dst, .convert 9 27 x, ty, pos, after, gd⟩ (yielded ops a.tmps) = true)
    (h : ∀ g cap w', OwnB w' (some ⟨g, 0, none⟩) cap s.data.toList → Mod [] w w' → w.heap.size ≤ g → wpList Tryd.prog ops Q rest (a.put dst (.slice (some ⟨g, 0, none⟩) s.size cap)) w') :
    wpList Tryd.prog ops Q (⟨dst, .convert 9 27 x, ty, pos, after, gd⟩ :: rest) a w := by
  refine wpList_step fun K hK => ?_
  rw [if_pos hw]
  have hr := run_bytes_of_string (P := Tryd.prog) w 9 27 5 s Tryd.underlying9 Tryd.underlying27 Tryd.underlying5
  unfold Oper.wp execOp
  simp [hx, hr]
  have hge := grownCap_ge w s.size 0 5
  obtain ⟨h1, h2⟩ := bytesRow_take s _ hge
  refine hK _ _ (h _ _ _ ?_ ((Mod.drew _ w).trans' (Mod.alloc _ _ _)) (Nat.le_refl _))
  refine ⟨by simp, .inr ⟨w.heap.size, _, _, rfl, heap_alloc_new w.drew _, .inr (Nat.le_refl _), ?_, grownCap_le_maxLen w s.size 0 5 (by unfold maxLen; omega), by rw [h2, Nat.mul_one]; exact Nat.le_refl _, ?_⟩⟩
  · rw [size_data]; exact hge
  · rw [size_data]; exact h1
/-- append(b, s...). -/
theorem wpl_app8s {w : World} {ops : Array Oper} {rest : List Oper} {a : Act} {Q : Exit → Act → World → Prop} {dst : Option Tmp} {ty : TypeId} {pos : String} {after : Array Edge} (s x : Operand)
    (ao : Option Addr) (n cap : Nat) (xs : List UInt8) (hs : a.eval s = .slice ao n cap) (hn : xs.length = n) (hown : OwnB w ao cap xs)
    (t : ByteArray) (hx : a.eval x = .string t) (hb : n + t.size ≤ 140737488355328)
    (h : ∀ ao' cap' w', OwnB w' ao' cap' (xs ++ t.data.toList) → Mod (blk ao) w w' → SameOrNew w w' ao ao' → wpList Tryd.prog ops Q rest (a.put dst (.slice ao' (n + t.size) cap')) w') :
    wpList Tryd.prog ops Q (⟨dst, .call { callee := .builtin .append, args := #[s, x], argTypes := #[27, 9] }, ty, pos, after, none⟩ :: rest) a w := by
  obtain ⟨i0, hi, hz0, hz1, hz2⟩ := info_parts infoU8
  subst hn
  obtain ⟨ao', cap', w', hr, h2, h3, h4⟩ := run_append_str (P := Tryd.prog) w 27 9 ty 5 i0 Tryd.underlying27 Tryd.underlying9 hi hz0 hz1 hz2 ao xs.length cap _ hown t hb
  refine wpList_plain rfl fun K hK => ?_
  unfold Oper.wp execOp
  simp only [resolve, invoke, builtin, Sem.run_bind, Sem.run_pure, Result.andThen_ok, List.map_toArray, List.map_cons, List.map_nil, hs, hx, hr]
  refine hK _ _ (h ao' cap' w' ?_ h3 h4)
  unfold OwnB
  rw [List.length_append, List.map_append, size_data]
  exact h2
end Go.Proofs.YtekdnljincbghaaDoor
