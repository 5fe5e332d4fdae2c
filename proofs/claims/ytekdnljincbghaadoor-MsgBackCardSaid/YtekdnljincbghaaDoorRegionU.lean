/- Regions that draw their order, in two phases: till one operation comes up fewer blocks are written than behind it. So a load of a cell that the region itself writes later is taken first. Over any program. -/
import Derived.Test.YtekdnljincbghaaDoorRegion
namespace Go.Proofs.YtekdnljincbghaaDoor
open Go Go.RowKit Go.Lib

section
variable {P : Program} {ops : Array Oper} {Q : Exit → Act → World → Prop} {md : Region.Mode}

/-- Whatever order is picked from here on, and S holds, of what has come up and the world, behind each operation. -/
def wpAnyL (P : Program) (md : Region.Mode) (ops : Array Oper) (Q : Exit → Act → World → Prop) (S : Array Bool → World → Prop) : Nat → Array Bool → Act → World → Prop
  | 0, listed, a, w => Region.ready md ops listed = [] ∧ Q .normal a w
  | fuel + 1, listed, a, w =>
    (Region.ready md ops listed = [] → Q .normal a w) ∧
    ∀ i ∈ Region.ready md ops listed, wpOp P ops Q i (fun a' w' => S (listed.setIfInBounds i true) w' ∧ wpAnyL P md ops Q S fuel (listed.setIfInBounds i true) a' w') a w

theorem wpAny_of_L {S : Array Bool → World → Prop} : ∀ (fuel : Nat) (listed : Array Bool) (a : Act) (w : World), wpAnyL P md ops Q S fuel listed a w → wpAny P md ops Q fuel listed a w
  | 0, _, _, _, h => h
  | fuel + 1, _, _, _, h => ⟨h.1, fun i hi => wpOp_mono (fun a' w' h' => wpAny_of_L fuel _ a' w' h'.2) (h.2 i hi)⟩

theorem wpAnyL_weaken {S S' : Array Bool → World → Prop} (hs : ∀ ls w, S' ls w → S ls w) : ∀ (fuel : Nat) (listed : Array Bool) (a : Act) (w : World), wpAnyL P md ops Q S' fuel listed a w → wpAnyL P md ops Q S fuel listed a w
  | 0, _, _, _, h => h
  | fuel + 1, _, _, _, h => ⟨h.1, fun i hi => wpOp_mono (fun a' w' h' => ⟨hs _ _ h'.1, wpAnyL_weaken hs fuel _ a' w' h'.2⟩) (h.2 i hi)⟩

theorem wpAnyL_of_H {m : Nat} {S : Array Bool → World → Prop} {S' : World → Prop} (hs : ∀ ls w, ls.getD m true = true → S' w → S ls w) :
    ∀ (fuel : Nat) (listed : Array Bool) (a : Act) (w : World), listed.getD m true = true → wpAnyH P md ops Q S' fuel listed a w → wpAnyL P md ops Q S fuel listed a w
  | 0, _, _, _, _, h => h
  | fuel + 1, listed, _, _, hl, h => ⟨h.1, fun i hi => wpOp_mono (fun a' w' h' => by
      have hl' : (listed.setIfInBounds i true).getD m true = true := by
        by_cases hij : i = m
        · subst hij
          rcases Nat.lt_or_ge i listed.size with h | h
          · simp [h]
          · simp [h]
        · rw [getD_set_ne true hij]; exact hl
      exact ⟨hs _ _ hl' h'.1, wpAnyL_of_H hs fuel _ a' w' hl' h'.2⟩) (h.2 i hi)⟩

theorem wpAnyL_first {S : Array Bool → World → Prop} {T : World → Prop} {inv : Array Bool → Prop} {i : Nat} {oi : Oper} {v : Value} (hi : ops[i]? = some oi) (hsel : ∀ (j : Nat) (o : Oper) cs b, ops[j]? = some o → o.op ≠ .select cs b)
    (hQ : ∀ c a w, Q (.panic c) (a.put oi.dst v) w → Q (.panic c) a w)
    (hinv : ∀ ls j, inv ls → i ∈ Region.ready md ops ls → j ∈ Region.ready md ops ls → j ≠ i → inv (ls.setIfInBounds j true))
    (hSi : ∀ ls w, S (ls.setIfInBounds i true) w → S ls w) (hSo : ∀ ls w, S ls w → S (ls.setIfInBounds i true) w) (hT : ∀ ls w, inv ls → S ls w → T w) :
    ∀ (fuel : Nat) (listed : Array Bool) (a : Act) (w : World),
      (∀ j oj, ops[j]? = some oj → j ≠ i → listed.getD j true = false → (∀ e ∈ oj.after, Region.binds md e = true → e.on ≠ i) → oi.apart ops oj = true) →
      i ∈ Region.ready md ops listed → YieldsIf P ops T oi v a → inv listed → S listed w →
      wpAnyL P md ops Q S fuel (listed.setIfInBounds i true) (a.put oi.dst v) w → wpAnyL P md ops Q S (fuel + 1) listed a w := by
  intro fuel
  induction fuel with
  | zero =>
    intro listed a w _ hr hy hn hS H
    refine ⟨fun h => (by rw [h] at hr; cases hr), fun j hj => ?_⟩
    by_cases hji : j = i
    · subst hji; exact hy.wpOp hi (hT _ _ hn hS) ⟨hSo _ _ hS, H⟩
    · have := ready_mono hj hji
      rw [H.1] at this
      cases this
  | succ fuel ih =>
    intro listed a w hfree hr hy hn hS H
    refine ⟨fun h => (by rw [h] at hr; cases hr), fun j hj => ?_⟩
    by_cases hji : j = i
    · subst hji; exact hy.wpOp hi (hT _ _ hn hS) ⟨hSo _ _ hS, H⟩
    · have h1 := H.2 j (ready_mono hj hji)
      obtain ⟨hjun, oj, hoj, hall⟩ := mem_ready.1 hj
      have hnot : ∀ e ∈ oj.after, Region.binds md e = true → e.on ≠ i := fun e he hb heq => by
        have h1 := hall e he hb
        have h0 := (mem_ready.1 hr).1
        rw [heq] at h1
        rcases Nat.lt_or_ge i listed.size with h' | h'
        · simp [h'] at h0 h1; rw [h0] at h1; cases h1
        · simp [Array.getElem?_eq_none h'] at h1
      have h2 := wpOp_putIf hoj (hfree j oj hoj hji hjun hnot) (fun cs b => hsel i oi cs b hi) (fun cs b => hsel j oj cs b hoj) hQ hy h1
      have hfree' : ∀ k ok, ops[k]? = some ok → k ≠ i → (listed.setIfInBounds j true).getD k true = false →
          (∀ e ∈ ok.after, Region.binds md e = true → e.on ≠ i) → oi.apart ops ok = true := fun k ok hk hki hun hno => by
        refine hfree k ok hk hki ?_ hno
        by_cases hjk : j = k
        · subst hjk; exact hjun
        · rw [getD_set_ne true hjk] at hun; exact hun
      refine wpOp_mono (fun a' w' h3 => ?_) h2
      obtain ⟨h3, h4, h5⟩ := h3
      rw [← Array.setIfInBounds_comm _ _ hji] at h4 h5
      exact ⟨hSi _ _ h4, ih (listed.setIfInBounds j true) a' w' hfree' (ready_mono hr (Ne.symm hji)) h3 (hinv _ _ hn hr hj hji) (hSi _ _ h4) h5⟩

/-- Till number m comes up at most the blocks K are written, behind it at most K2. -/
def Phase (m : Nat) (K K2 : List Nat) (w : World) (ls : Array Bool) (w' : World) : Prop := Mod K2 w w' ∧ (ls.getD m true = false → Mod K w w')
def RestU (P : Program) (md : Region.Mode) (ops : Array Oper) (Q : Exit → Act → World → Prop) (m : Nat) (K K2 : List Nat) (fuel : Nat) (listed : Array Bool) (a : Act) (w : World) : Prop :=
  wpAnyL P md ops Q (Phase m K K2 w) fuel listed a w

theorem restu_start {id : Nat} {a : Act} {w : World} (m : Nat) (K K2 : List Nat) (n : Nat) (L : Array Bool) (hn : ops.size = n) (hL : Array.replicate n false = L) (hm : P.follows .mixedOrders = true)
    (h : ∀ w1, Mod [] w w1 → RestU P .any ops Q m K K2 n L a w1) : (Code.region id ops true).wp P Q a w := by
  subst hn hL
  exact wp_region_any hm (wpAny_of_L _ _ _ _ (h w.drew (Mod.drew _ _)))

theorem phase_set {m i : Nat} {K K2 : List Nat} {w : World} (hne : (i == m) = false) (ls : Array Bool) (w' : World) : Phase m K K2 w (ls.setIfInBounds i true) w' ↔ Phase m K K2 w ls w' := by
  unfold Phase
  rw [getD_set_ne true (by simpa using hne)]

/-- Number m waits for number i. -/
def waits (md : Region.Mode) (ops : Array Oper) (m i : Nat) : Bool := match ops[m]? with
  | some o => o.after.any fun e => Region.binds md e && e.on == i
  | none => false

/-- Each of the numbers D waits for number i, or for another one of D. -/
def chain (md : Region.Mode) (ops : Array Oper) (i : Nat) (D : List Nat) : Bool := D.all fun d => waits md ops d i || D.any fun d' => waits md ops d d'
/-- All that wait for number i, in one step or in more. -/
def descs (md : Region.Mode) (ops : Array Oper) (i : Nat) : List Nat := (List.range ops.size).foldl (fun acc d => if waits md ops d i || acc.any (fun d' => waits md ops d d') then acc ++ [d] else acc) []

theorem waits_not {j d : Nat} {ls : Array Bool} (hw : waits md ops j d = true) (hd : ls.getD d true = false) : j ∉ Region.ready md ops ls := by
  intro hj
  unfold waits at hw
  obtain ⟨_, oj, hoj, hall⟩ := mem_ready.1 hj
  rw [hoj] at hw
  obtain ⟨e, he, hb⟩ := Array.any_eq_true'.1 hw
  simp only [Bool.and_eq_true, beq_iff_eq] at hb
  have h1 := hall e he hb.1
  rw [hb.2] at h1
  rcases Nat.lt_or_ge d ls.size with h' | h'
  · simp [h'] at hd h1; rw [hd] at h1; cases h1
  · simp [Array.getElem?_eq_none h'] at h1

theorem restu_earlytake {m : Nat} {K K2 : List Nat} {i : Nat} (D : List Nat) {oi : Oper} {v : Value} {fuel : Nat} {listed : Array Bool} {a : Act} {w : World} (hi : ops[i]? = some oi)
    (hs : Region.noSelect ops = true) (hf : Region.free md ops listed i = true) (hr : (Region.ready md ops listed).contains i = true) (hne : (i == m) = false) (hD : chain md ops i D = true) (hmD : D.contains m = true) (hun : D.all (fun d => !listed.getD d true) = true)
    (hQ : ∀ c a w, Q (.panic c) (a.put oi.dst v) w → Q (.panic c) a w) (hy : YieldsIf P ops (Mod K w) oi v a)
    (h : RestU P md ops Q m K K2 fuel (listed.setIfInBounds i true) (a.put oi.dst v) w) : RestU P md ops Q m K K2 (fuel + 1) listed a w := by
  refine wpAnyL_first (T := Mod K w) (inv := fun ls => ∀ d ∈ D, ls.getD d true = false) hi (Region.noSelect_spec hs) hQ ?_ (fun ls w' => (phase_set hne ls w').1) (fun ls w' => (phase_set hne ls w').2) (fun ls w' h1 h2 => h2.2 (h1 m (by simpa using hmD)))
    fuel listed a w (Region.free_spec hi hf) (by simpa using hr) hy (by simpa using hun) ⟨Mod.refl _ _, fun _ => Mod.refl _ _⟩ h
  intro ls j hn hir hj hji d hd
  by_cases hjd : j = d
  · subst hjd
    have h1 := List.all_eq_true.1 hD j hd
    rw [Bool.or_eq_true] at h1
    rcases h1 with h1 | h1
    · exact absurd hj (waits_not h1 (mem_ready.1 hir).1)
    · obtain ⟨d', hd', hw⟩ := List.any_eq_true.1 h1
      exact absurd hj (waits_not hw (hn d' hd'))
  · rw [getD_set_ne true hjd]
    exact hn d hd
theorem restu_early {m : Nat} {K K2 : List Nat} {i : Nat} (D : List Nat) {dst : Option Tmp} {op : Op} {ty : TypeId} {pos : String} {after : Array Edge} {gd : Option (Nat × Bool)} {v : Value} {fuel : Nat} {listed : Array Bool} {a : Act} {w : World} (hi : ops[i]? = some ⟨dst, op, ty, pos, after, gd⟩)
    (hs : Region.noSelect ops = true) (hf : Region.free md ops listed i = true) (hr : (Region.ready md ops listed).contains i = true) (hne : (i == m) = false) (hD : chain md ops i D = true) (hmD : D.contains m = true) (hun : D.all (fun d => !listed.getD d true) = true)
    (hQ : ∀ c a w, Q (.panic c) (a.put dst v) w → Q (.panic c) a w) (hw : Region.wanted ⟨dst, op, ty, pos, after, gd⟩ (yielded ops a.tmps) = true)
    (hy : ∀ w', Mod K w w' → (execOp a.eval ⟨dst, op, ty, pos, after, gd⟩).run P w' = .ok (.value v) w')
    (h : RestU P md ops Q m K K2 fuel (listed.setIfInBounds i true) (a.put dst v) w) : RestU P md ops Q m K K2 (fuel + 1) listed a w :=
  restu_earlytake D hi hs hf hr hne hD hmD hun hQ (Or.inl ⟨hw, hy⟩) h
theorem restu_take {m : Nat} {K K2 : List Nat} {i : Nat} {oi : Oper} {v : Value} {fuel : Nat} {listed : Array Bool} {a : Act} {w : World} (hi : ops[i]? = some oi)
    (hs : Region.noSelect ops = true) (hf : Region.free md ops listed i = true) (hr : (Region.ready md ops listed).contains i = true) (hne : (i == m) = false)
    (hQ : ∀ c a w, Q (.panic c) (a.put oi.dst v) w → Q (.panic c) a w) (hy : YieldsIf P ops (Mod K2 w) oi v a)
    (h : RestU P md ops Q m K K2 fuel (listed.setIfInBounds i true) (a.put oi.dst v) w) : RestU P md ops Q m K K2 (fuel + 1) listed a w :=
  wpAnyL_first (T := Mod K2 w) (inv := fun _ => True) hi (Region.noSelect_spec hs) hQ (fun _ _ _ _ _ _ => trivial) (fun ls w' => (phase_set hne ls w').1) (fun ls w' => (phase_set hne ls w').2) (fun ls w' _ h2 => h2.1)
    fuel listed a w (Region.free_spec hi hf) (by simpa using hr) hy trivial ⟨Mod.refl _ _, fun _ => Mod.refl _ _⟩ h
theorem restu_got {m : Nat} {K K2 : List Nat} {i : Nat} {dst : Option Tmp} {op : Op} {ty : TypeId} {pos : String} {after : Array Edge} {gd : Option (Nat × Bool)} {v : Value} {fuel : Nat} {listed : Array Bool} {a : Act} {w : World} (hi : ops[i]? = some ⟨dst, op, ty, pos, after, gd⟩)
    (hs : Region.noSelect ops = true) (hf : Region.free md ops listed i = true) (hr : (Region.ready md ops listed).contains i = true) (hne : (i == m) = false)
    (hQ : ∀ c a w, Q (.panic c) (a.put dst v) w → Q (.panic c) a w) (hw : Region.wanted ⟨dst, op, ty, pos, after, gd⟩ (yielded ops a.tmps) = true)
    (hy : ∀ w', Mod K2 w w' → (execOp a.eval ⟨dst, op, ty, pos, after, gd⟩).run P w' = .ok (.value v) w')
    (h : RestU P md ops Q m K K2 fuel (listed.setIfInBounds i true) (a.put dst v) w) : RestU P md ops Q m K K2 (fuel + 1) listed a w :=
  restu_take hi hs hf hr hne hQ (Or.inl ⟨hw, hy⟩) h
theorem restu_skip {m : Nat} {K K2 : List Nat} {i : Nat} {dst : Option Tmp} {op : Op} {ty : TypeId} {pos : String} {after : Array Edge} {gd : Option (Nat × Bool)} {fuel : Nat} {listed : Array Bool} {a : Act} {w : World} (hi : ops[i]? = some ⟨dst, op, ty, pos, after, gd⟩)
    (hs : Region.noSelect ops = true) (hf : Region.free md ops listed i = true) (hr : (Region.ready md ops listed).contains i = true) (hne : (i == m) = false)
    (hQ : ∀ c a w, Q (.panic c) (a.put dst undef) w → Q (.panic c) a w) (hw : Region.wanted ⟨dst, op, ty, pos, after, gd⟩ (yielded ops a.tmps) = false)
    (h : RestU P md ops Q m K K2 fuel (listed.setIfInBounds i true) (a.put dst undef) w) : RestU P md ops Q m K K2 (fuel + 1) listed a w :=
  restu_take hi hs hf hr hne hQ (Or.inr ⟨hw, rfl⟩) h

/-- The way back into the region behind an operation that is not number m; behind number m. -/
def BackU (P : Program) (md : Region.Mode) (ops : Array Oper) (Q : Exit → Act → World → Prop) (m : Nat) (K K2 : List Nat) (w : World) (fuel : Nat) (listed : Array Bool) : Exit → Act → World → Prop := fun e a1 w1 =>
  match e with
  | .normal => Phase m K K2 w listed w1 ∧ wpAnyL P md ops Q (Phase m K K2 w) fuel listed a1 w1
  | e => Q e a1 w1
theorem backu_to {m : Nat} {K K2 K' K2' : List Nat} {w w1 : World} {a1 : Act} {fuel : Nat} {listed : Array Bool} (hm : Mod K w w1) (hkk : ∀ k, k ∈ K → k ∈ K2) (hk : ∀ k, k ∈ K' → k < w.heap.size → k ∈ K) (hk2 : ∀ k, k ∈ K2' → k < w.heap.size → k ∈ K2)
    (h : RestU P md ops Q m K' K2' fuel listed a1 w1) : BackU P md ops Q m K K2 w fuel listed .normal a1 w1 :=
  ⟨⟨hm.weaken hkk, fun _ => hm⟩, wpAnyL_weaken (fun _ _ hw => ⟨(hm.weaken hkk).trans hw.1 hk2, fun hl => hm.trans (hw.2 hl) hk⟩) _ _ _ _ h⟩
theorem backm_to {m : Nat} {K K2 K1 : List Nat} {w w1 : World} {a1 : Act} {fuel : Nat} {listed : Array Bool} (hl : listed.getD m true = true) (hm : Mod K2 w w1) (hk : ∀ k, k ∈ K1 → k < w.heap.size → k ∈ K2)
    (h : Rest P md ops Q K1 fuel listed a1 w1) : BackU P md ops Q m K K2 w fuel listed .normal a1 w1 :=
  ⟨⟨hm, fun h => by rw [hl] at h; cases h⟩, wpAnyL_of_H (fun ls w' h1 h2 => ⟨hm.trans h2 hk, fun h => by rw [h1] at h; cases h⟩) _ _ _ _ hl h⟩

theorem oneu_op {m : Nat} {K K2 : List Nat} {i : Nat} {dst : Option Tmp} {op : Op} {ty : TypeId} {pos : String} {after : Array Edge} {gd : Option (Nat × Bool)} {fuel : Nat} {listed : Array Bool} {a : Act} {w : World} (ho : ops[i]? = some ⟨dst, op, ty, pos, after, gd⟩)
    (hw : Region.wanted ⟨dst, op, ty, pos, after, gd⟩ (yielded ops a.tmps) = true)
    (h : wpList P ops (BackU P md ops Q m K K2 w fuel (listed.setIfInBounds i true)) [⟨dst, op, ty, pos, after, none⟩] a w) :
    wpOp P ops Q i (fun a' w' => Phase m K K2 w (listed.setIfInBounds i true) w' ∧ wpAnyL P md ops Q (Phase m K K2 w) fuel (listed.setIfInBounds i true) a' w') a w := by
  unfold wpOp
  simp only [ho]
  rw [if_pos hw]
  have hwn : Region.wanted ⟨dst, op, ty, pos, after, none⟩ (yielded ops a.tmps) = true := rfl
  unfold wpList at h
  rw [if_pos hwn] at h
  refine h.imp (fun h => ?_) id
  have h : Oper.upon P ⟨dst, op, ty, pos, after, gd⟩ a (wpList P ops (BackU P md ops Q m K K2 w fuel (listed.setIfInBounds i true)) []) (BackU P md ops Q m K K2 w fuel (listed.setIfInBounds i true)) ((execOp a.eval ⟨dst, op, ty, pos, after, gd⟩).run P w) := h
  unfold Oper.wp
  generalize (execOp a.eval ⟨dst, op, ty, pos, after, gd⟩).run P w = r at *
  cases r with
  | ok n w' =>
    cases n <;> simp only [Oper.upon] at h ⊢ <;>
      first
        | exact Calls.mono h (fun e w'' he => by cases e <;> exact he)
        | exact Rows.mono h (fun _ _ he => he)
        | exact h
  | halt x w' => cases x <;> simp only [Oper.upon] at h ⊢ <;> exact h

theorem restu_one {m : Nat} {K K2 : List Nat} {i : Nat} {dst : Option Tmp} {op : Op} {ty : TypeId} {pos : String} {after : Array Edge} {gd : Option (Nat × Bool)} {fuel : Nat} {listed : Array Bool} {a : Act} {w : World} (hr : Region.ready md ops listed = [i]) (ho : ops[i]? = some ⟨dst, op, ty, pos, after, gd⟩)
    (hw : Region.wanted ⟨dst, op, ty, pos, after, gd⟩ (yielded ops a.tmps) = true)
    (h : wpList P ops (BackU P md ops Q m K K2 w fuel (listed.setIfInBounds i true)) [⟨dst, op, ty, pos, after, none⟩] a w) : RestU P md ops Q m K K2 (fuel + 1) listed a w := by
  refine ⟨fun h0 => (by rw [hr] at h0; cases h0), ?_⟩
  intro j hj
  rw [hr] at hj
  simp only [List.mem_singleton] at hj
  subst hj
  exact oneu_op ho hw h
end
end Go.Proofs.YtekdnljincbghaaDoor
