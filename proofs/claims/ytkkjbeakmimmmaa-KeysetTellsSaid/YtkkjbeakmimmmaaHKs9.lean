/- The plain law: a command's wave is the least behind those ahead that are in its way. -/
import Derived.Test.YtkkjbeakmimmmaaZ3
namespace Go.Proofs.Ytkkjbeakmimmmaa
open Go Go.RowKit Go.Lib

theorem snoc_some {α : Type} (l : List α) (x : α) (k : Nat) (y : α) (h : (l ++ [x])[k]? = some y) : l[k]? = some y ∨ (k = l.length ∧ y = x) := by
  rcases Nat.lt_trichotomy k l.length with h1 | h1 | h1
  · rw [List.getElem?_append_left h1] at h; exact .inl h
  · subst h1
    rw [List.getElem?_concat_length] at h
    cases h
    exact .inr ⟨rfl, rfl⟩
  · rw [List.getElem?_eq_none (by simp; omega)] at h
    cases h
theorem some_snoc {α : Type} (l : List α) (x : α) (k : Nat) (y : α) (h : l[k]? = some y) : (l ++ [x])[k]? = some y := by
  have hk : k < l.length := (List.getElem?_eq_some_iff.1 h).1
  rw [List.getElem?_append_left hk]
  exact h
theorem some_lt {α : Type} {l : List α} {k : Nat} {y : α} (h : l[k]? = some y) : k < l.length := (List.getElem?_eq_some_iff.1 h).1
/-- These are the waves. -/
def IsW (cs : List Cd) (w : List Nat) : Prop := w.length = cs.length ∧ ∀ (i : Nat) (c : Cd) (v : Nat), cs[i]? = some c → w[i]? = some v →
  (∀ (k : Nat) (d : Cd) (u : Nat), k < i → cs[k]? = some d → w[k]? = some u → way d c = true → u + 1 ≤ v) ∧ (v = 0 ∨ ∃ (k : Nat) (d : Cd) (u : Nat), k < i ∧ cs[k]? = some d ∧ w[k]? = some u ∧ way d c = true ∧ v = u + 1)
theorem IsW.nil : IsW [] [] := ⟨rfl, fun i c v h => by simp at h⟩
theorem IsW.snoc {cs : List Cd} {w : List Nat} (h : IsW cs w) (c : Cd) (v : Nat) (h1 : ∀ (k : Nat) (d : Cd) (u : Nat), cs[k]? = some d → w[k]? = some u → way d c = true → u + 1 ≤ v)
    (h2 : v = 0 ∨ ∃ (k : Nat) (d : Cd) (u : Nat), cs[k]? = some d ∧ w[k]? = some u ∧ way d c = true ∧ v = u + 1) : IsW (cs ++ [c]) (w ++ [v]) := by
  obtain ⟨hl, h⟩ := h
  refine ⟨by simp [hl], fun i c' v' hc hv => ?_⟩
  rcases snoc_some _ _ _ _ hc with hc | ⟨hi, rfl⟩
  · have hi := some_lt hc
    rcases snoc_some _ _ _ _ hv with hv | ⟨hi2, _⟩
    · obtain ⟨g1, g2⟩ := h i c' v' hc hv
      refine ⟨fun k d u hk hd hu => ?_, ?_⟩
      · rcases snoc_some _ _ _ _ hd with hd | ⟨hk2, _⟩
        · rcases snoc_some _ _ _ _ hu with hu | ⟨hk2, _⟩
          · exact g1 k d u hk hd hu
          · omega
        · omega
      · rcases g2 with g2 | ⟨k, d, u, g3, g4, g5, g6⟩
        · exact .inl g2
        · exact .inr ⟨k, d, u, g3, some_snoc _ _ _ _ g4, some_snoc _ _ _ _ g5, g6⟩
    · omega
  · rcases snoc_some _ _ _ _ hv with hv | ⟨hi2, rfl⟩
    · have := some_lt hv; omega
    · refine ⟨fun k d u hk hd hu => ?_, ?_⟩
      · rcases snoc_some _ _ _ _ hd with hd | ⟨hk2, _⟩
        · rcases snoc_some _ _ _ _ hu with hu | ⟨hk2, _⟩
          · exact h1 k d u hd hu
          · omega
        · omega
      · rcases h2 with h2 | ⟨k, d, u, g4, g5, g6⟩
        · exact .inl h2
        · exact .inr ⟨k, d, u, by have := some_lt g4; omega, some_snoc _ _ _ _ g4, some_snoc _ _ _ _ g5, g6⟩
theorem IsW.unique {cs : List Cd} {w w' : List Nat} (h : IsW cs w) (h' : IsW cs w') : w = w' := by
  obtain ⟨hl, h⟩ := h
  obtain ⟨hl', h'⟩ := h'
  have key : ∀ n i, i < n → i < cs.length → w[i]? = w'[i]? := by
    intro n
    induction n with
    | zero => intro i hi; omega
    | succ n ih =>
      intro i hi hc
      by_cases hn : i < n
      · exact ih i hn hc
      · obtain ⟨c, hcs⟩ : ∃ c, cs[i]? = some c := ⟨_, List.getElem?_eq_getElem hc⟩
        obtain ⟨v, hv⟩ : ∃ v, w[i]? = some v := ⟨_, List.getElem?_eq_getElem (by omega)⟩
        obtain ⟨v', hv'⟩ : ∃ v, w'[i]? = some v := ⟨_, List.getElem?_eq_getElem (by omega)⟩
        obtain ⟨a1, a2⟩ := h i c v hcs hv
        obtain ⟨b1, b2⟩ := h' i c v' hcs hv'
        have le1 : v ≤ v' := by
          rcases a2 with a2 | ⟨k, d, u, a3, a4, a5, a6, a7⟩
          · omega
          · have := b1 k d u a3 a4 (by rw [← ih k (by omega) (by omega)]; exact a5) a6
            omega
        have le2 : v' ≤ v := by
          rcases b2 with b2 | ⟨k, d, u, b3, b4, b5, b6, b7⟩
          · omega
          · have := a1 k d u b3 b4 (by rw [ih k (by omega) (by omega)]; exact b5) b6
            omega
        rw [hv, hv', show v = v' by omega]
  apply List.ext_getElem?
  intro i
  by_cases hi : i < cs.length
  · exact key (i + 1) i (by omega) hi
  · rw [List.getElem?_eq_none (by omega), List.getElem?_eq_none (by omega)]
theorem mx_ge (K : ByteArray → Nat) : ∀ (l : List ByteArray) (a : Nat), a ≤ mx K l a ∧ ∀ x ∈ l, K x ≤ mx K l a
  | [], a => ⟨Nat.le_refl _, fun x h => by simp at h⟩
  | y :: l, a => by
    obtain ⟨h1, h2⟩ := mx_ge K l (max a (K y))
    refine ⟨Nat.le_trans (Nat.le_max_left _ _) h1, fun x hx => ?_⟩
    rcases List.mem_cons.1 hx with rfl | hx
    · exact Nat.le_trans (Nat.le_max_right _ _) h1
    · exact h2 x hx
theorem mx_at (K : ByteArray → Nat) : ∀ (l : List ByteArray) (a : Nat), mx K l a = a ∨ ∃ x ∈ l, mx K l a = K x
  | [], a => .inl rfl
  | y :: l, a => by
    rcases mx_at K l (max a (K y)) with h | ⟨x, hx, h⟩
    · by_cases hy : K y ≤ a
      · exact .inl (h.trans (Nat.max_eq_left hy))
      · exact .inr ⟨y, List.mem_cons_self, h.trans (Nat.max_eq_right (by omega))⟩
    · exact .inr ⟨x, List.mem_cons_of_mem _ hx, h⟩
theorem share_iff (c d : Cd) : share c d = true ↔ ∃ x, x ∈ tk c.keys ∧ x ∈ tk d.keys := by
  unfold share
  rw [List.any_eq_true]
  constructor
  · rintro ⟨x, h1, h2⟩; exact ⟨x, (Lib.containsS_iff _ _).1 h2, h1⟩
  · rintro ⟨x, h1, h2⟩; exact ⟨x, h2, (Lib.containsS_iff _ _).2 h1⟩
theorem way_iff (c d : Cd) : way c d = true ↔ lone c = true ∨ lone d = true ∨ c.client = d.client ∨ ∃ x, x ∈ tk c.keys ∧ x ∈ tk d.keys := by
  unfold way
  rw [Bool.or_eq_true, Bool.or_eq_true, Bool.or_eq_true, beq_iff_eq, share_iff]
  constructor
  · rintro (((h | h) | h) | h)
    · exact .inl h
    · exact .inr (.inl h)
    · exact .inr (.inr (.inl h))
    · exact .inr (.inr (.inr h))
  · rintro (h | h | h | h)
    · exact .inl (.inl (.inl h))
    · exact .inl (.inl (.inr h))
    · exact .inl (.inr h)
    · exact .inr h
/-- What the front knows of those that came. -/
structure Inv (cs : List Cd) (s : Fs) (w : List Nat) : Prop where
  up : ∀ (k : Nat) c v, cs[k]? = some c → w[k]? = some v → (∀ x ∈ tk c.keys, v + 1 ≤ s.keys x) ∧ v + 1 ≤ s.clients c.client ∧ v + 1 ≤ s.top ∧ (lone c = true → v + 1 ≤ s.lone)
  keys : ∀ x, s.keys x = 0 ∨ ∃ (k : Nat) (c : Cd) (v : Nat), cs[k]? = some c ∧ w[k]? = some v ∧ x ∈ tk c.keys ∧ s.keys x = v + 1
  clients : ∀ x, s.clients x = 0 ∨ ∃ (k : Nat) (c : Cd) (v : Nat), cs[k]? = some c ∧ w[k]? = some v ∧ c.client = x ∧ s.clients x = v + 1
  lon : s.lone = 0 ∨ ∃ (k : Nat) (c : Cd) (v : Nat), cs[k]? = some c ∧ w[k]? = some v ∧ lone c = true ∧ s.lone = v + 1
  top : s.top = 0 ∨ ∃ (k : Nat) (c : Cd) (v : Nat), cs[k]? = some c ∧ w[k]? = some v ∧ s.top = v + 1
  isW : IsW cs w
theorem Inv.nil : Inv [] s0 [] := ⟨fun k c v h => by simp at h, fun _ => .inl rfl, fun _ => .inl rfl, .inl rfl, .inl rfl, IsW.nil⟩
/-- Nothing is above the top. -/
theorem Inv.le {cs : List Cd} {s : Fs} {w : List Nat} (h : Inv cs s w) : (∀ x, s.keys x ≤ s.top) ∧ (∀ x, s.clients x ≤ s.top) ∧ s.lone ≤ s.top := by
  refine ⟨fun x => ?_, fun x => ?_, ?_⟩
  · rcases h.keys x with h1 | ⟨k, c, v, h1, h2, _, h3⟩
    · omega
    · have := (h.up k c v h1 h2).2.2.1; omega
  · rcases h.clients x with h1 | ⟨k, c, v, h1, h2, _, h3⟩
    · omega
    · have := (h.up k c v h1 h2).2.2.1; omega
  · rcases h.lon with h1 | ⟨k, c, v, h1, h2, _, h3⟩
    · omega
    · have := (h.up k c v h1 h2).2.2.1; omega
theorem wave_ge {s : Fs} {c : Cd} (h : (∀ x, s.keys x ≤ s.top) ∧ (∀ x, s.clients x ≤ s.top) ∧ s.lone ≤ s.top) : (∀ x ∈ tk c.keys, s.keys x ≤ waveOf s c) ∧ s.clients c.client ≤ waveOf s c ∧ s.lone ≤ waveOf s c ∧ (lone c = true → waveOf s c = s.top) := by
  unfold waveOf
  by_cases hl : lone c = true
  · rw [if_pos hl]
    exact ⟨fun x _ => h.1 x, h.2.1 _, h.2.2, fun _ => rfl⟩
  · rw [if_neg hl]
    obtain ⟨h1, h2⟩ := mx_ge s.keys (tk c.keys) (max s.lone (s.clients c.client))
    exact ⟨h2, by omega, by omega, fun h => absurd h hl⟩
theorem Inv.snoc {cs : List Cd} {s : Fs} {w : List Nat} (h : Inv cs s w) (c : Cd) : Inv (cs ++ [c]) (putS s c) (w ++ [waveOf s c]) := by
  have hle := h.le
  obtain ⟨g1, g2, g3, g4⟩ := wave_ge (c := c) hle
  have hlen := h.isW.1
  have hat : waveOf s c = 0 ∨ ∃ (k : Nat) (d : Cd) (u : Nat), cs[k]? = some d ∧ w[k]? = some u ∧ way d c = true ∧ waveOf s c = u + 1 := by
    by_cases hl : lone c = true
    · rw [g4 hl]
      rcases h.top with h1 | ⟨k, d, u, h1, h2, h3⟩
      · exact .inl h1
      · exact .inr ⟨k, d, u, h1, h2, (way_iff _ _).2 (.inr (.inl hl)), h3⟩
    · have e : waveOf s c = mx s.keys (tk c.keys) (max s.lone (s.clients c.client)) := by unfold waveOf; rw [if_neg hl]
      rw [e]
      rcases mx_at s.keys (tk c.keys) (max s.lone (s.clients c.client)) with h1 | ⟨x, hx, h1⟩
      · rw [h1]
        by_cases hm : s.clients c.client ≤ s.lone
        · rw [Nat.max_eq_left hm]
          rcases h.lon with h2 | ⟨k, d, u, h2, h3, h4, h5⟩
          · exact .inl h2
          · exact .inr ⟨k, d, u, h2, h3, (way_iff _ _).2 (.inl h4), h5⟩
        · rw [Nat.max_eq_right (by omega)]
          rcases h.clients c.client with h2 | ⟨k, d, u, h2, h3, h4, h5⟩
          · exact .inl h2
          · exact .inr ⟨k, d, u, h2, h3, (way_iff _ _).2 (.inr (.inr (.inl h4))), h5⟩
      · rw [h1]
        rcases h.keys x with h2 | ⟨k, d, u, h2, h3, h4, h5⟩
        · exact .inl h2
        · exact .inr ⟨k, d, u, h2, h3, (way_iff _ _).2 (.inr (.inr (.inr ⟨x, h4, hx⟩))), h5⟩
  have hup : ∀ (k : Nat) (d : Cd) (u : Nat), cs[k]? = some d → w[k]? = some u → way d c = true → u + 1 ≤ waveOf s c := by
    intro k d u hd hu hw
    obtain ⟨a1, a2, a3, a4⟩ := h.up k d u hd hu
    rcases (way_iff _ _).1 hw with h1 | h1 | h1 | ⟨x, h1, h2⟩
    · have := a4 h1; omega
    · have := g4 h1; omega
    · rw [h1] at a2; omega
    · have := a1 x h1; have := g1 x h2; omega
  have hnc : (cs ++ [c])[cs.length]? = some c := List.getElem?_concat_length
  have hnw : (w ++ [waveOf s c])[cs.length]? = some (waveOf s c) := by rw [← hlen]; exact List.getElem?_concat_length
  have kx : ∀ x, (x ∈ tk c.keys → (putS s c).keys x = waveOf s c + 1) ∧ (x ∉ tk c.keys → (putS s c).keys x = s.keys x) := fun x => by
    constructor
    · intro hx; show upd _ _ _ x = _; unfold upd; rw [if_pos hx]
    · intro hx; show upd _ _ _ x = _; unfold upd; rw [if_neg hx]
  have cx : ∀ x, (x = c.client → (putS s c).clients x = waveOf s c + 1) ∧ (x ≠ c.client → (putS s c).clients x = s.clients x) := fun x => by
    constructor
    · intro hx; show upd _ _ _ x = _; unfold upd; rw [if_pos (by simp [hx])]
    · intro hx; show upd _ _ _ x = _; unfold upd; rw [if_neg (by simp [hx])]
  have tx : (putS s c).top = max s.top (waveOf s c + 1) := rfl
  have lx : (lone c = true → (putS s c).lone = waveOf s c + 1) ∧ (¬ lone c = true → (putS s c).lone = s.lone) := by
    constructor
    · intro hx; show (if _ then _ else _) = _; rw [if_pos hx]
    · intro hx; show (if _ then _ else _) = _; rw [if_neg hx]
  refine ⟨?_, ?_, ?_, ?_, ?_, h.isW.snoc c _ hup hat⟩
  · intro k d v hd hv
    rcases snoc_some _ _ _ _ hd with hd | ⟨hk, rfl⟩
    · have hk := some_lt hd
      rcases snoc_some _ _ _ _ hv with hv | ⟨hk2, _⟩
      · obtain ⟨a1, a2, a3, a4⟩ := h.up k d v hd hv
        refine ⟨fun x hx => ?_, ?_, by rw [tx]; omega, fun hl => ?_⟩
        · by_cases hxc : x ∈ tk c.keys
          · rw [(kx x).1 hxc]; have := a1 x hx; have := g1 x hxc; omega
          · rw [(kx x).2 hxc]; exact a1 x hx
        · by_cases hxc : d.client = c.client
          · rw [(cx _).1 hxc]; rw [hxc] at a2; omega
          · rw [(cx _).2 hxc]; exact a2
        · by_cases hxc : lone c = true
          · rw [lx.1 hxc]; have := a4 hl; omega
          · rw [lx.2 hxc]; exact a4 hl
      · omega
    · rcases snoc_some _ _ _ _ hv with hv | ⟨hk2, rfl⟩
      · have := some_lt hv; omega
      · exact ⟨fun x hx => by rw [(kx x).1 hx]; omega, by rw [(cx _).1 rfl]; omega, by rw [tx]; omega, fun hl => by rw [lx.1 hl]; omega⟩
  · intro x
    by_cases hxc : x ∈ tk c.keys
    · exact .inr ⟨_, c, _, hnc, hnw, hxc, (kx x).1 hxc⟩
    · rw [(kx x).2 hxc]
      rcases h.keys x with h1 | ⟨k, d, v, h1, h2, h3⟩
      · exact .inl h1
      · exact .inr ⟨k, d, v, some_snoc _ _ _ _ h1, some_snoc _ _ _ _ h2, h3⟩
  · intro x
    by_cases hxc : x = c.client
    · exact .inr ⟨_, c, _, hnc, hnw, hxc.symm, (cx x).1 hxc⟩
    · rw [(cx x).2 hxc]
      rcases h.clients x with h1 | ⟨k, d, v, h1, h2, h3⟩
      · exact .inl h1
      · exact .inr ⟨k, d, v, some_snoc _ _ _ _ h1, some_snoc _ _ _ _ h2, h3⟩
  · by_cases hxc : lone c = true
    · exact .inr ⟨_, c, _, hnc, hnw, hxc, lx.1 hxc⟩
    · rw [lx.2 hxc]
      rcases h.lon with h1 | ⟨k, d, v, h1, h2, h3⟩
      · exact .inl h1
      · exact .inr ⟨k, d, v, some_snoc _ _ _ _ h1, some_snoc _ _ _ _ h2, h3⟩
  · rw [tx]
    by_cases hm : s.top ≤ waveOf s c + 1
    · rw [Nat.max_eq_right hm]
      exact .inr ⟨_, c, _, hnc, hnw, rfl⟩
    · rw [Nat.max_eq_left (by omega)]
      rcases h.top with h1 | ⟨k, d, v, h1, h2, h3⟩
      · exact .inl h1
      · exact .inr ⟨k, d, v, some_snoc _ _ _ _ h1, some_snoc _ _ _ _ h2, h3⟩
theorem fold_inv : ∀ (l cs : List Cd) (s : Fs) (w : List Nat), Inv cs s w → Inv (cs ++ l) (l.foldl (fun p c => (putS p.1 c, p.2 ++ [waveOf p.1 c])) (s, w)).1 (l.foldl (fun p c => (putS p.1 c, p.2 ++ [waveOf p.1 c])) (s, w)).2
  | [], cs, s, w, h => by rw [List.append_nil]; exact h
  | c :: l, cs, s, w, h => by
    have := fold_inv l (cs ++ [c]) (putS s c) (w ++ [waveOf s c]) (h.snoc c)
    rw [List.append_assoc] at this
    exact this
theorem runF_isW (cs : List Cd) : IsW cs (runF cs).2 := (fold_inv cs [] s0 [] Inv.nil).isW
/-- No number between is left out. -/
theorem IsW.down {cs : List Cd} {w : List Nat} (h : IsW cs w) {i v : Nat} (hv : w[i]? = some v) : v = 0 ∨ v - 1 ∈ w.take i := by
  have hi := some_lt hv
  obtain ⟨c, hc⟩ : ∃ c, cs[i]? = some c := ⟨_, List.getElem?_eq_getElem (by rw [← h.1]; exact hi)⟩
  rcases (h.2 i c v hc hv).2 with h1 | ⟨k, d, u, h1, h2, h3, h4, h5⟩
  · exact .inl h1
  · refine .inr (List.mem_of_getElem? (i := k) ?_)
    rw [List.getElem?_take_of_lt h1, h3, h5]
    rfl
end Go.Proofs.Ytkkjbeakmimmmaa
