/- Maps whose keys are plain (integers, strings): what a lookup finds, what a store leaves. Over any program. -/
import Derived.Test.YtgneigdcgfiooaaOwn
import Derived.MapKept
namespace Go.Proofs.Ytgneigdcgfiooaa
open Go Go.RowKit Go.MapKept

/-- Block b is a map of n entries; under the key k it holds f k. -/
def MapF (w : World) (b : Nat) (d : TypeDesc) (n : Nat) (f : Value → Option Value) : Prop :=
  ∃ es clock, w.heap[b]? = some (.map es clock) ∧ es.size = n ∧ Stamped es clock ∧ (∀ x ∈ es.toList, IsKey d x.key) ∧
    ∀ k v, f k = some v ↔ ∃ e ∈ es.toList, e.key = k ∧ e.val = v

theorem MapF.mod {S : List Nat} {w w' : World} {b : Nat} {d : TypeDesc} {n : Nat} {f : Value → Option Value} (h : MapF w b d n f) (hm : Mod S w w') (hn : b ∉ S) : MapF w' b d n f := by
  obtain ⟨es, clock, h1, h2⟩ := h
  exact ⟨es, clock, hm.get h1 hn, h2⟩
theorem MapF.mod0 {w w' : World} {b : Nat} {d : TypeDesc} {n : Nat} {f : Value → Option Value} (h : MapF w b d n f) (hm : Mod [] w w') : MapF w' b d n f := h.mod hm (by simp)
theorem MapF.lt {w : World} {b : Nat} {d : TypeDesc} {n : Nat} {f : Value → Option Value} (h : MapF w b d n f) : b < w.heap.size := by
  obtain ⟨es, clock, h1, h2⟩ := h
  exact lt_of_block h1
theorem MapF.made (w : World) (d : TypeDesc) : MapF (w.alloc (.map #[] 0)) w.heap.size d 0 (fun _ => none) :=
  ⟨#[], 0, heap_alloc_new w _, rfl, stamped_empty 0, by simp, by simp⟩
theorem MapF.zero {w : World} {b : Nat} {d : TypeDesc} {f : Value → Option Value} (h : MapF w b d 0 f) (k : Value) : f k = none := by
  obtain ⟨es, clock, h1, h2, _, _, h5⟩ := h
  cases hf : f k with
  | none => rfl
  | some v =>
    obtain ⟨e, he, _⟩ := (h5 k v).1 hf
    have : es = #[] := Array.eq_empty_of_size_eq_zero h2
    subst this
    simp at he
theorem MapF.pos {w : World} {b : Nat} {d : TypeDesc} {n : Nat} {f : Value → Option Value} (h : MapF w b d n f) {k v : Value} (hf : f k = some v) : 0 < n := by
  rcases Nat.eq_zero_or_pos n with h0 | h0
  · subst h0; rw [h.zero k] at hf; cases hf
  · exact h0

section
variable {P : Program}
theorem run_lookup_f {w : World} {b n : Nat} {d : TypeDesc} {f : Value → Option Value} {t kt et : TypeId} {k z : Value} (h : MapF w b d n f) (ht : P.underlying t = some (.map kt et)) (hd : P.underlying kt = some d) (hk : IsKey d k) (hz : (zeroValue et).run P w = .ok z w) :
    (Instr.lookup t (.map (some b)) k true).run P w = .ok (.tuple #[(f k).getD z, .bool (f k).isSome]) w := by
  obtain ⟨es, clock, h1, h2, h3, h4, h5⟩ := h
  rcases findNow_spec hk es.toList 0 h4 with ⟨g1, g2⟩ | ⟨j, e, g1, g2, g3⟩
  · have hf : f k = none := by
      cases hf : f k with
      | none => rfl
      | some v =>
        obtain ⟨e, he, hk2, _⟩ := (h5 k v).1 hf
        exact absurd hk2 (g2 e he)
    simp [Instr.lookup, run_underlying ht, MapKept.run_getObj_map h1, run_checkKey hd hk, run_findKey hd g1, hz, Result.andThen, hf]
  · have hf : f k = some e.val := (h5 k e.val).2 ⟨e, List.mem_of_getElem? g2, g3, rfl⟩
    simp [Instr.lookup, run_underlying ht, MapKept.run_getObj_map h1, run_checkKey hd hk, run_findKey hd g1, Result.andThen, hf]

theorem run_update_f {w : World} {b n : Nat} {d : TypeDesc} {f : Value → Option Value} {t kt et : TypeId} {k v : Value} (h : MapF w b d n f) (ht : P.underlying t = some (.map kt et)) (hd : P.underlying kt = some d) (hk : IsKey d k) (f' : Value → Option Value) (hf1 : f' k = some v) (hf2 : ∀ k', k' ≠ k → f' k' = f k') :
    ∃ w', (Instr.mapUpdate t (.map (some b)) k v).run P w = .ok () w' ∧ Mod [b] w w' ∧ MapF w' b d (if (f k).isSome then n else n + 1) f' := by
  obtain ⟨es, clock, h1, h2, h3, h4, h5⟩ := h
  have hmod : ∀ o : Obj, Mod [b] w { w with heap := w.heap.setIfInBounds b o } := fun o =>
    ⟨rfl, rfl, rfl, by simp, fun i _ hi => (heap_set h1).2 i (fun e => hi (by simp [e]))⟩
  rcases findNow_spec hk es.toList 0 h4 with ⟨g1, g2⟩ | ⟨j, e, g1, g2, g3⟩
  · have hf : f k = none := by
      cases hf : f k with
      | none => rfl
      | some v =>
        obtain ⟨e, he, hk2, _⟩ := (h5 k v).1 hf
        exact absurd hk2 (g2 e he)
    refine ⟨{ w with heap := w.heap.setIfInBounds b (.map (es.push { key := k, val := v, born := clock }) (clock + 1)) }, by simp [Instr.mapUpdate, run_underlying ht, MapKept.run_getObj_map h1, run_checkKey hd hk, run_findKey hd g1, run_setObj_map _ h1, Result.andThen], hmod _, _, _, (heap_set h1).1, ?_, stamped_push h3 g2, ?_, ?_⟩
    · simp [hf, h2]
    · intro x hx
      simp only [Array.toList_push, List.mem_append, List.mem_singleton] at hx
      rcases hx with hx | rfl
      · exact h4 x hx
      · exact hk
    · intro k' v'
      simp only [Array.toList_push, List.mem_append, List.mem_singleton]
      by_cases hkk : k' = k
      · subst hkk
        rw [hf1]
        constructor
        · intro h; cases h; exact ⟨_, .inr rfl, rfl, rfl⟩
        · rintro ⟨x, hx | rfl, hx1, hx2⟩
          · exact absurd hx1 (g2 x hx)
          · rw [← hx2]
      · rw [hf2 _ hkk, h5]
        constructor
        · rintro ⟨x, hx, hx1⟩; exact ⟨x, .inl hx, hx1⟩
        · rintro ⟨x, hx | rfl, hx1, hx2⟩
          · exact ⟨x, hx, hx1, hx2⟩
          · exact absurd hx1.symm hkk
  · have hj : es[j]? = some e := by simpa using g2
    have hf : f k = some e.val := (h5 k e.val).2 ⟨e, List.mem_of_getElem? g2, g3, rfl⟩
    have hkey : ∀ e', es[j]? = some e' → ({ e' with key := k, val := v } : MapEntry).key = e'.key := fun e' he' => by rw [hj] at he'; cases he'; exact g3.symm
    refine ⟨{ w with heap := w.heap.setIfInBounds b (.map (es.modify j fun e => { e with key := k, val := v }) clock) }, by simp [Instr.mapUpdate, run_underlying ht, MapKept.run_getObj_map h1, run_checkKey hd hk, run_findKey hd g1, hj, g3, run_keyThatStays hk, run_setObj_map _ h1, Result.andThen], hmod _, _, _, (heap_set h1).1, ?_, stamped_modify h3 _ _ (fun _ _ => rfl) (fun e' _ he' => hkey e' he'), isKey_modify h4 _ _ hkey, ?_⟩
    · simp [hf, h2]
    · have hnd : (es.toList.map (·.key)).Nodup := h3.2.2
      have hget : ∀ i, (es.modify j fun e => { e with key := k, val := v }).toList[i]? = if i = j then es.toList[i]?.map (fun e => { e with key := k, val := v }) else es.toList[i]? := by
        intro i
        simp only [Array.getElem?_toList]
        rw [Array.getElem?_modify]
        by_cases hij : j = i
        · subst hij; simp
        · rw [if_neg hij, if_neg (Ne.symm hij)]
      have huniq : ∀ i x, es.toList[i]? = some x → x.key = k → i = j := by
        intro i x hi hx
        have e1 : (es.toList.map (·.key))[i]? = some k := by rw [List.getElem?_map, hi]; simp [hx]
        have e2 : (es.toList.map (·.key))[j]? = some k := by rw [List.getElem?_map, g2]; simp [g3]
        obtain ⟨l1, l2⟩ := List.getElem?_eq_some_iff.1 e1
        obtain ⟨l3, l4⟩ := List.getElem?_eq_some_iff.1 e2
        rcases Nat.lt_trichotomy i j with hlt | he | hlt
        · exact absurd (l2.trans l4.symm) (List.pairwise_iff_getElem.1 hnd i j l1 l3 hlt)
        · exact he
        · exact absurd (l4.trans l2.symm) (List.pairwise_iff_getElem.1 hnd j i l3 l1 hlt)
      intro k' v'
      by_cases hkk : k' = k
      · subst hkk
        rw [hf1]
        constructor
        · intro h; cases h
          refine ⟨{ e with key := k', val := v }, List.mem_of_getElem? (i := j) ?_, rfl, rfl⟩
          rw [hget, if_pos rfl, g2]; rfl
        · rintro ⟨x, hx, hx1, hx2⟩
          obtain ⟨i, hi⟩ := List.getElem?_of_mem hx
          rw [hget] at hi
          by_cases hij : i = j
          · rw [if_pos hij, hij, g2] at hi
            cases hi
            rw [← hx2]
          · rw [if_neg hij] at hi
            exact absurd (huniq i x hi hx1) hij
      · rw [hf2 _ hkk, h5]
        constructor
        · rintro ⟨x, hx, hx1, hx2⟩
          obtain ⟨i, hi⟩ := List.getElem?_of_mem hx
          have hij : i ≠ j := by rintro rfl; rw [g2] at hi; cases hi; exact hkk (hx1.symm.trans g3)
          exact ⟨x, List.mem_of_getElem? (i := i) (by rw [hget, if_neg hij]; exact hi), hx1, hx2⟩
        · rintro ⟨x, hx, hx1, hx2⟩
          obtain ⟨i, hi⟩ := List.getElem?_of_mem hx
          rw [hget] at hi
          by_cases hij : i = j
          · rw [if_pos hij, hij, g2] at hi
            cases hi
            exact absurd hx1.symm hkk
          · rw [if_neg hij] at hi
            exact ⟨x, List.mem_of_getElem? hi, hx1, hx2⟩

/-- m[k], with 'ok', one operation of a list of operations. -/
theorem wpl_lookup {w : World} {ops : Array Oper} {rest : List Oper} {a : Act} {Q : Exit → Act → World → Prop} {dst : Option Tmp} {ty : TypeId} {pos : String} {after : Array Edge} (t : TypeId) (x ix : Operand)
    {b n : Nat} {d : TypeDesc} {f : Value → Option Value} {kt et : TypeId} {k z : Value} (h : MapF w b d n f) (ht : P.underlying t = some (.map kt et)) (hd : P.underlying kt = some d) (hx : a.eval x = .map (some b)) (hi : a.eval ix = k) (hk : IsKey d k) (hz : (zeroValue et).run P w = .ok z w)
    (hr : wpList P ops Q rest (a.put dst (.tuple #[(f k).getD z, .bool (f k).isSome])) w) :
    wpList P ops Q (⟨dst, .lookup t x ix true, ty, pos, after, none⟩ :: rest) a w := by
  refine wpList_plain rfl fun K hK => ?_
  unfold Oper.wp
  simp [execOp, hx, hi, run_lookup_f h ht hd hk hz, Result.andThen]
  exact hK _ _ hr
theorem wpl_lookup_some {w : World} {ops : Array Oper} {rest : List Oper} {a : Act} {Q : Exit → Act → World → Prop} {dst : Option Tmp} {ty : TypeId} {pos : String} {after : Array Edge} (t : TypeId) (x ix : Operand)
    {b n : Nat} {d : TypeDesc} {f : Value → Option Value} {kt et : TypeId} {k z v : Value} (h : MapF w b d n f) (ht : P.underlying t = some (.map kt et)) (hd : P.underlying kt = some d) (hx : a.eval x = .map (some b)) (hi : a.eval ix = k) (hk : IsKey d k) (hz : (zeroValue et).run P w = .ok z w) (hv : f k = some v)
    (hr : wpList P ops Q rest (a.put dst (.tuple #[v, .bool true])) w) :
    wpList P ops Q (⟨dst, .lookup t x ix true, ty, pos, after, none⟩ :: rest) a w :=
  wpl_lookup t x ix h ht hd hx hi hk hz (by rw [hv]; exact hr)
theorem wpl_lookup_none {w : World} {ops : Array Oper} {rest : List Oper} {a : Act} {Q : Exit → Act → World → Prop} {dst : Option Tmp} {ty : TypeId} {pos : String} {after : Array Edge} (t : TypeId) (x ix : Operand)
    {b n : Nat} {d : TypeDesc} {f : Value → Option Value} {kt et : TypeId} {k z : Value} (h : MapF w b d n f) (ht : P.underlying t = some (.map kt et)) (hd : P.underlying kt = some d) (hx : a.eval x = .map (some b)) (hi : a.eval ix = k) (hk : IsKey d k) (hz : (zeroValue et).run P w = .ok z w) (hv : f k = none)
    (hr : wpList P ops Q rest (a.put dst (.tuple #[z, .bool false])) w) :
    wpList P ops Q (⟨dst, .lookup t x ix true, ty, pos, after, none⟩ :: rest) a w :=
  wpl_lookup t x ix h ht hd hx hi hk hz (by rw [hv]; exact hr)
/-- m[k] = v. -/
theorem wpl_update {w : World} {ops : Array Oper} {rest : List Oper} {a : Act} {Q : Exit → Act → World → Prop} {ty : TypeId} {pos : String} {after : Array Edge} (t : TypeId) (x ix vx : Operand)
    {b n : Nat} {d : TypeDesc} {f : Value → Option Value} {kt et : TypeId} {k v : Value} (h : MapF w b d n f) (ht : P.underlying t = some (.map kt et)) (hd : P.underlying kt = some d) (hx : a.eval x = .map (some b)) (hi : a.eval ix = k) (hv : a.eval vx = v) (hk : IsKey d k) (f' : Value → Option Value) (hf1 : f' k = some v) (hf2 : ∀ k', k' ≠ k → f' k' = f k')
    (n' : Nat) (hn' : (if (f k).isSome then n else n + 1) = n')
    (hr : ∀ w', Mod [b] w w' → Hid (MapF w' b d n' f') → wpList P ops Q rest a w') :
    wpList P ops Q (⟨none, .mapUpdate t x ix vx, ty, pos, after, none⟩ :: rest) a w := by
  refine wpList_plain rfl fun K hK => ?_
  obtain ⟨w', h1, h2, h3⟩ := run_update_f (v := v) h ht hd hk f' hf1 hf2
  rw [hn'] at h3
  unfold Oper.wp
  simp [execOp, hx, hi, hv, h1, Result.andThen]
  exact hK _ _ (hr w' h2 (Lib.hid h3))
/-- make of a map. -/
theorem wpl_makemap {w : World} {ops : Array Oper} {rest : List Oper} {a : Act} {Q : Exit → Act → World → Prop} {dst : Option Tmp} {ty : TypeId} {pos : String} {after : Array Edge} (t : TypeId)
    (hr : wpList P ops Q rest (a.put dst (.map (some w.heap.size))) (w.alloc (.map #[] 0))) :
    wpList P ops Q (⟨dst, .makeMap t none, ty, pos, after, none⟩ :: rest) a w := by
  refine wpList_plain rfl fun K hK => ?_
  have h1 : (Instr.makeMap t none).run P w = .ok (.map (some w.heap.size)) (w.alloc (.map #[] 0)) := by simp [Instr.makeMap, Result.andThen]
  unfold Oper.wp
  simp [execOp, h1, Result.andThen]
  exact hK _ _ hr
/-- len of a map. -/
theorem wpl_lenmap {w : World} {ops : Array Oper} {rest : List Oper} {a : Act} {Q : Exit → Act → World → Prop} {dst : Option Tmp} {ty : TypeId} {pos : String} {after : Array Edge} (t : TypeId) (x : Operand)
    {b n : Nat} {d : TypeDesc} {f : Value → Option Value} {kt et : TypeId} (h : MapF w b d n f) (ht : P.underlying t = some (.map kt et)) (hx : a.eval x = .map (some b))
    (hr : wpList P ops Q rest (a.put dst (.int .i64 (n : Int))) w) :
    wpList P ops Q (⟨dst, .call { callee := .builtin .len, args := #[x], argTypes := #[t] }, ty, pos, after, none⟩ :: rest) a w := by
  obtain ⟨es, clock, h1, h2, -⟩ := h
  subst h2
  refine wpList_plain rfl fun K hK => ?_
  have h2 : (Builtin.len_ #[t] ty #[.map (some b)]).run P w = .ok (.int .i64 (es.size : Int)) w := by simp [Builtin.len_, run_underlying ht, MapKept.run_getObj_map h1, Result.andThen, goInt]
  unfold Oper.wp execOp
  simp only [resolve, invoke, builtin, Sem.run_bind, Sem.run_pure, Result.andThen_ok, List.map_toArray, List.map_cons, List.map_nil, hx, h2]
  exact hK _ _ hr
end
end Go.Proofs.Ytgneigdcgfiooaa
