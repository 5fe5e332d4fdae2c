/- Regions that draw their order, in abstract worlds: what reads cells that nobody writes from here on is taken first; the calls come up one by one, each by its contract. Over any program. -/
import Derived.Test.YtekdnljincbghaaDoorStr
import Derived.Deep.RegionHeld
import Derived.Deep.Cut
namespace Go.Proofs.YtekdnljincbghaaDoor
open Go Go.RowKit Go.Lib

section
variable {P : Program} {ops : Array Oper} {Q : Exit → Act → World → Prop} {md : Region.Mode}

theorem wpAnyH_weaken {S S' : World → Prop} (hs : ∀ w, S' w → S w) : ∀ (fuel : Nat) (listed : Array Bool) (a : Act) (w : World), wpAnyH P md ops Q S' fuel listed a w → wpAnyH P md ops Q S fuel listed a w
  | 0, _, _, _, h => h
  | fuel + 1, _, _, _, h => ⟨h.1, fun i hi => wpOp_mono (fun a' w' h' => ⟨hs _ h'.1, wpAnyH_weaken hs fuel _ a' w' h'.2⟩) (h.2 i hi)⟩

/-- From here on at most the blocks K are written, of those that are there. -/
def Rest (P : Program) (md : Region.Mode) (ops : Array Oper) (Q : Exit → Act → World → Prop) (K : List Nat) (fuel : Nat) (listed : Array Bool) (a : Act) (w : World) : Prop :=
  wpAnyH P md ops Q (Mod K w) fuel listed a w

theorem rest_start {id : Nat} {a : Act} {w : World} (K : List Nat) (n : Nat) (L : Array Bool) (hn : ops.size = n) (hL : Array.replicate n false = L) (hm : P.follows .mixedOrders = true)
    (h : ∀ w1, Mod [] w w1 → Rest P .any ops Q K n L a w1) : (Code.region id ops true).wp P Q a w := by
  subst hn hL
  exact wp_region_held hm (h w.drew (Mod.drew _ _))

theorem rest_take {K : List Nat} {i : Nat} {oi : Oper} {v : Value} {fuel : Nat} {listed : Array Bool} {a : Act} {w : World} (hi : ops[i]? = some oi)
    (hs : Region.noSelect ops = true) (hf : Region.free md ops listed i = true) (hr : (Region.ready md ops listed).contains i = true)
    (hQ : ∀ c a w, Q (.panic c) (a.put oi.dst v) w → Q (.panic c) a w) (hy : YieldsIf P ops (Mod K w) oi v a)
    (h : Rest P md ops Q K fuel (listed.setIfInBounds i true) (a.put oi.dst v) w) : Rest P md ops Q K (fuel + 1) listed a w :=
  wpAnyH_take hi hs hf hr hQ hy (Mod.refl _ _) h

/-- One operation that is taken first, written out. -/
theorem rest_got {K : List Nat} {i : Nat} {dst : Option Tmp} {op : Op} {ty : TypeId} {pos : String} {after : Array Edge} {gd : Option (Nat × Bool)} {v : Value} {fuel : Nat} {listed : Array Bool} {a : Act} {w : World} (hi : ops[i]? = some ⟨dst, op, ty, pos, after, gd⟩)
    (hs : Region.noSelect ops = true) (hf : Region.free md ops listed i = true) (hr : (Region.ready md ops listed).contains i = true)
    (hQ : ∀ c a w, Q (.panic c) (a.put dst v) w → Q (.panic c) a w) (hw : Region.wanted ⟨dst, op, ty, pos, after, gd⟩ (yielded ops a.tmps) = true)
    (hy : ∀ w', Mod K w w' → (execOp a.eval ⟨dst, op, ty, pos, after, gd⟩).run P w' = .ok (.value v) w')
    (h : Rest P md ops Q K fuel (listed.setIfInBounds i true) (a.put dst v) w) : Rest P md ops Q K (fuel + 1) listed a w :=
  rest_take hi hs hf hr hQ (Or.inl ⟨hw, hy⟩) h
/-- One that is not wanted. -/
theorem rest_skip {K : List Nat} {i : Nat} {dst : Option Tmp} {op : Op} {ty : TypeId} {pos : String} {after : Array Edge} {gd : Option (Nat × Bool)} {fuel : Nat} {listed : Array Bool} {a : Act} {w : World} (hi : ops[i]? = some ⟨dst, op, ty, pos, after, gd⟩)
    (hs : Region.noSelect ops = true) (hf : Region.free md ops listed i = true) (hr : (Region.ready md ops listed).contains i = true)
    (hQ : ∀ c a w, Q (.panic c) (a.put dst undef) w → Q (.panic c) a w) (hw : Region.wanted ⟨dst, op, ty, pos, after, gd⟩ (yielded ops a.tmps) = false)
    (h : Rest P md ops Q K fuel (listed.setIfInBounds i true) (a.put dst undef) w) : Rest P md ops Q K (fuel + 1) listed a w :=
  rest_take hi hs hf hr hQ (Or.inr ⟨hw, rfl⟩) h

theorem rest_done {K : List Nat} {listed : Array Bool} {a : Act} {w : World} (hr : Region.ready md ops listed = []) (h : Q .normal a w) (fuel : Nat) :
    Rest P md ops Q K fuel listed a w := wpAnyH_done hr h fuel

/-- The way back into the region behind one operation; no tactic looks into it. -/
def Back (P : Program) (md : Region.Mode) (ops : Array Oper) (Q : Exit → Act → World → Prop) (K : List Nat) (w : World) (fuel : Nat) (listed : Array Bool) : Exit → Act → World → Prop := fun e a1 w1 =>
  match e with
  | .normal => Mod K w w1 ∧ wpAnyH P md ops Q (Mod K w) fuel listed a1 w1
  | e => Q e a1 w1

theorem back_to {K K1 : List Nat} {w w1 : World} {a1 : Act} {fuel : Nat} {listed : Array Bool} (hm : Mod K w w1) (hk : ∀ k, k ∈ K1 → k < w.heap.size → k ∈ K)
    (h : Rest P md ops Q K1 fuel listed a1 w1) : Back P md ops Q K w fuel listed .normal a1 w1 :=
  ⟨hm, wpAnyH_weaken (fun _ hw => hm.trans hw hk) _ _ _ _ h⟩

/-- One operation that may come up, by itself. -/
theorem one_op {K : List Nat} {i : Nat} {dst : Option Tmp} {op : Op} {ty : TypeId} {pos : String} {after : Array Edge} {gd : Option (Nat × Bool)} {fuel : Nat} {listed : Array Bool} {a : Act} {w : World} (ho : ops[i]? = some ⟨dst, op, ty, pos, after, gd⟩)
    (hw : Region.wanted ⟨dst, op, ty, pos, after, gd⟩ (yielded ops a.tmps) = true)
    (h : wpList P ops (Back P md ops Q K w fuel (listed.setIfInBounds i true)) [⟨dst, op, ty, pos, after, none⟩] a w) :
    wpOp P ops Q i (fun a' w' => Mod K w w' ∧ wpAnyH P md ops Q (Mod K w) fuel (listed.setIfInBounds i true) a' w') a w := by
  unfold wpOp
  simp only [ho]
  rw [if_pos hw]
  have hwn : Region.wanted ⟨dst, op, ty, pos, after, none⟩ (yielded ops a.tmps) = true := rfl
  unfold wpList at h
  rw [if_pos hwn] at h
  refine h.imp (fun h => ?_) id
  have h : Oper.upon P ⟨dst, op, ty, pos, after, gd⟩ a (wpList P ops (Back P md ops Q K w fuel (listed.setIfInBounds i true)) []) (Back P md ops Q K w fuel (listed.setIfInBounds i true)) ((execOp a.eval ⟨dst, op, ty, pos, after, gd⟩).run P w) := h
  unfold Oper.wp
  generalize (execOp a.eval ⟨dst, op, ty, pos, after, gd⟩).run P w = r at *
  cases r with
  | ok n w' =>
    cases n <;> simp only [Oper.upon] at h ⊢ <;>
      first
        | exact Calls.mono h (fun e w'' he => by cases e <;> exact he)
        | exact Rows.mono h (fun _ _ he => he)
        | exact h
  | halt x w' => cases x <;> simp only [Oper.upon] at h ⊢ <;> exact h

theorem rest_one {K : List Nat} {i : Nat} {dst : Option Tmp} {op : Op} {ty : TypeId} {pos : String} {after : Array Edge} {gd : Option (Nat × Bool)} {fuel : Nat} {listed : Array Bool} {a : Act} {w : World} (hr : Region.ready md ops listed = [i]) (ho : ops[i]? = some ⟨dst, op, ty, pos, after, gd⟩)
    (hw : Region.wanted ⟨dst, op, ty, pos, after, gd⟩ (yielded ops a.tmps) = true)
    (h : wpList P ops (Back P md ops Q K w fuel (listed.setIfInBounds i true)) [⟨dst, op, ty, pos, after, none⟩] a w) : Rest P md ops Q K (fuel + 1) listed a w := by
  refine wpAnyH_all hr (by simp) ?_
  intro j hj
  simp only [List.mem_singleton] at hj
  subst hj
  exact one_op ho hw h

/-- Two operations may come up: either one. -/
theorem rest_two {K : List Nat} {i j : Nat} {dst dst' : Option Tmp} {op op' : Op} {ty ty' : TypeId} {pos pos' : String} {after after' : Array Edge} {gd gd' : Option (Nat × Bool)} {fuel : Nat} {listed : Array Bool} {a : Act} {w : World} (hr : Region.ready md ops listed = [i, j])
    (ho : ops[i]? = some ⟨dst, op, ty, pos, after, gd⟩) (hw : Region.wanted ⟨dst, op, ty, pos, after, gd⟩ (yielded ops a.tmps) = true)
    (ho' : ops[j]? = some ⟨dst', op', ty', pos', after', gd'⟩) (hw' : Region.wanted ⟨dst', op', ty', pos', after', gd'⟩ (yielded ops a.tmps) = true)
    (h : wpList P ops (Back P md ops Q K w fuel (listed.setIfInBounds i true)) [⟨dst, op, ty, pos, after, none⟩] a w)
    (h' : wpList P ops (Back P md ops Q K w fuel (listed.setIfInBounds j true)) [⟨dst', op', ty', pos', after', none⟩] a w) : Rest P md ops Q K (fuel + 1) listed a w := by
  refine wpAnyH_all hr (by simp) ?_
  intro k hk
  simp only [List.mem_cons, List.not_mem_nil, or_false] at hk
  rcases hk with rfl | rfl
  · exact one_op ho hw h
  · exact one_op ho' hw' h'

theorem fresh_of {w w' : World} {a' : Option Addr} (n : SameOrNew w w' none a') {K : List Nat} : ∀ k, k ∈ blk a' → k < w.heap.size → k ∈ K := by
  intro k hk hl
  rcases n.blk k hk with h | h
  · simp [blk] at h
  · omega

/-- string(b), taken first. -/
theorem reads_str {K : List Nat} {w : World} {dst : Option Tmp} {ty : TypeId} {pos : String} {after : Array Edge} {gd : Option (Nat × Bool)} (ev : Operand → Value) (x : Operand) (src d e : TypeId)
    (hs : P.underlying src = some (.slice e)) (he : P.underlying e = some (.int .u8)) (hd : P.underlying d = some .string)
    (so : Option Addr) (m c : Nat) (l : List UInt8) (hx : ev x = .slice so m c) (hl : l.length = m) (hsees : Sees w so l) (hk : ∀ k, k ∈ blk so → k ∉ K) :
    ∀ w', Mod K w w' → (execOp ev ⟨dst, .convert src d x, ty, pos, after, gd⟩).run P w' = .ok (.value (strV l)) w' := by
  subst hl
  intro w' hm
  have hr := run_string_of (P := P) w' src d e hs he hd so c l (hsees.mod hm (by intro b off h; subst h; exact hk b (by simp [blk])))
  unfold execOp
  simp [hx, hr]
end

/-- s + t, s == t and s != t of strings that are known. -/
theorem reads_cat (w : World) {dst : Option Tmp} {ty t2 : TypeId} {pos : String} {after : Array Edge} {gd : Option (Nat × Bool)} (ev : Operand → Value) (x y : Operand) (l1 l2 : List UInt8)
    (hx : ev x = strV l1) (hy : ev y = strV l2) (hl : l1.length + l2.length ≤ 9223372036854775807) :
    (execOp ev ⟨dst, .binOp .add 9 x y t2, ty, pos, after, gd⟩).run Tryd.prog w = .ok (.value (strV (l1 ++ l2))) w := by
  have h1 : ({ data := l1.toArray } : ByteArray) ++ { data := l2.toArray } = ⟨(l1 ++ l2).toArray⟩ := by
    apply ByteArray.ext
    simp
  have h2 : ¬ 9223372036854775807 < l1.length + l2.length := by omega
  have h4 : (Op.stringOp .add ⟨l1.toArray⟩ ⟨l2.toArray⟩).run Tryd.prog w = .ok (strV (l1 ++ l2)) w := by
    rw [run_string_add_sum _ _ _ (by simpa [ByteArray.size] using hl), h1]
  have h5 : (binOp .add 9 (strV l1) (strV l2)).run Tryd.prog w = .ok (strV (l1 ++ l2)) w := by rw [binOp_string_add]; exact h4
  simp [execOp, hx, hy, eqGuard, h5]
theorem reads_eqs (w : World) {dst : Option Tmp} {ty t2 : TypeId} {pos : String} {after : Array Edge} {gd : Option (Nat × Bool)} (ev : Operand → Value) (x y : Operand) (l1 l2 : List UInt8)
    (hx : ev x = strV l1) (hy : ev y = strV l2) :
    (execOp ev ⟨dst, .binOp .eql 9 x y t2, ty, pos, after, gd⟩).run Tryd.prog w = .ok (.value (.bool (decide (l1 = l2)))) w := by
  have h4 : ((⟨l1.toArray⟩ : ByteArray).toList == (⟨l2.toArray⟩ : ByteArray).toList) = decide (l1 = l2) := by
    rw [ByteArray.toList_eq, ByteArray.toList_eq]
    by_cases h : l1 = l2
    · subst h; simp
    · simp [h]
  have h5 : (binOp .eql 9 (strV l1) (strV l2)).run Tryd.prog w = .ok (.bool (decide (l1 = l2))) w := by rw [binOp_string_eql, h4]; rfl
  simp [execOp, hx, hy, eqGuard, h5]
theorem reads_nes (w : World) {dst : Option Tmp} {ty t2 : TypeId} {pos : String} {after : Array Edge} {gd : Option (Nat × Bool)} (ev : Operand → Value) (x y : Operand) (l1 l2 : List UInt8)
    (hx : ev x = strV l1) (hy : ev y = strV l2) :
    (execOp ev ⟨dst, .binOp .neq 9 x y t2, ty, pos, after, gd⟩).run Tryd.prog w = .ok (.value (.bool (!(decide (l1 = l2))))) w := by
  have h4 : ((⟨l1.toArray⟩ : ByteArray).toList == (⟨l2.toArray⟩ : ByteArray).toList) = decide (l1 = l2) := by
    rw [ByteArray.toList_eq, ByteArray.toList_eq]
    by_cases h : l1 = l2
    · subst h; simp
    · simp [h]
  have h5 : (binOp .neq 9 (strV l1) (strV l2)).run Tryd.prog w = .ok (.bool (!(decide (l1 = l2)))) w := by rw [binOp_string_neq, h4]; rfl
  simp [execOp, hx, hy, eqGuard, h5]
end Go.Proofs.YtekdnljincbghaaDoor
