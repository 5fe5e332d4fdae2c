/- What the law BatcherAges keeps: commands that were put, since when, and what was told of them. No program in sight but for append. -/
import Derived.Test.YtigamomoegpefaaDoorZ7
import Derived.Test.YtigamomoegpefaaDoorHBatGreat
namespace Go.Proofs.YtigamomoegpefaaDoor
open Go Go.RowKit Go.Lib

theorem wpl_appCs {w : World} {ops : Array Oper} {rest : List Oper} {a : Act} {Q : Exit → Act → World → Prop} {dst : Option Tmp} {ty : TypeId} {pos : String} {after : Array Edge} (s x : Operand)
    (ao : Option Addr) (n cap : Nat) (xs : List Cm) (hs : a.eval s = .slice ao n cap) (hn : xs.length = n) (hown : OwnC w ao cap xs)
    (so : Option Addr) (m c : Nat) (ys : List Cm) (hx : a.eval x = .slice so m c) (hm : ys.length = m) (hsh : Shows w so (cellsC ys)) (hb : n + m ≤ 1000000)
    (h : ∀ ao' cap' w', OwnC w' ao' cap' (xs ++ ys) → Mod (blk ao) w w' → SameOrNew w w' ao ao' → wpList Tryd.prog ops Q rest (a.put dst (.slice ao' (n + m) cap')) w') :
    wpList Tryd.prog ops Q (⟨dst, .call { callee := .builtin .append, args := #[s, x], argTypes := #[31, 31] }, ty, pos, after, none⟩ :: rest) a w := by
  obtain ⟨i0, hi, hz0, hz1, hz2⟩ := info_parts infoCmd
  subst hn hm
  refine wpl_append w rfl s x 31 rfl 36 i0 _ 7 80 Tryd.underlying31 hi hz0 hz1 hz2 rfl (by decide) ao _ cap _ hs hown so _ c (cellsC ys) hx (cellsC_length ys) hsh ?_ (by unfold maxLen; omega) (by omega) ?_
  · intro u hu
    obtain ⟨x, hx, hu⟩ := List.mem_flatMap.1 hu
    simp only [cmdC, List.mem_cons, List.not_mem_nil, or_false] at hu
    rcases hu with rfl | rfl | rfl | rfl | rfl | rfl | rfl <;> rfl
  · intro ao' cap' w' h1 h2 h3
    refine h ao' cap' w' ?_ h2 h3
    unfold OwnC cellsC
    rw [List.length_append, List.flatMap_append]
    exact h1

/-- What waits, by what was put and since when. -/
def rZ (an : Nat) (Z : List (Cm × Nat)) : List (Cd × Int) := Z.map fun z => (z.1.1, (z.2 : Int) + (an : Int))
theorem rZ_length (an : Nat) (Z : List (Cm × Nat)) : (rZ an Z).length = Z.length := by simp [rZ]
structure AgL (an nw : Nat) (Z : List (Cm × Nat)) (out : List Cm) (R : List (Cd × Int)) : Prop where
  rest : R = (rZ an Z).drop out.length
  told : out.map Prod.fst = ((rZ an Z).take out.length).map Prod.fst
  ole : out.length ≤ Z.length
  srt : Z.Pairwise fun a b => a.2 ≤ b.2
  top : ∀ z ∈ Z, z.2 ≤ nw
theorem AgL.nil (an : Nat) : AgL an 0 [] [] [] := ⟨rfl, rfl, Nat.le_refl _, List.Pairwise.nil, fun z hz => absurd hz (by simp)⟩
theorem AgL.tick {an nw : Nat} {Z : List (Cm × Nat)} {out : List Cm} {R : List (Cd × Int)} (h : AgL an nw Z out R) : AgL an (nw + 1) Z out R :=
  ⟨h.rest, h.told, h.ole, h.srt, fun z hz => by have := h.top z hz; omega⟩
theorem AgL.len {an nw : Nat} {Z : List (Cm × Nat)} {out : List Cm} {R : List (Cd × Int)} (h : AgL an nw Z out R) : R.length = Z.length - out.length := by
  rw [h.rest, List.length_drop, rZ_length]
theorem AgL.rsrt {an nw : Nat} {Z : List (Cm × Nat)} {out : List Cm} {R : List (Cd × Int)} (h : AgL an nw Z out R) : R.Pairwise fun a b => a.2 ≤ b.2 := by
  rw [h.rest]
  refine List.Pairwise.drop ?_
  unfold rZ
  rw [List.pairwise_map]
  exact h.srt.imp (fun hab => by dsimp only; omega)
theorem AgL.put {an nw : Nat} {Z : List (Cm × Nat)} {out : List Cm} {R : List (Cd × Int)} (h : AgL an nw Z out R) (c : Cm) : AgL an nw (Z ++ [(c, nw)]) out (R ++ [(c.1, (nw : Int) + (an : Int) - 0)]) := by
  have e : rZ an (Z ++ [(c, nw)]) = rZ an Z ++ [(c.1, (nw : Int) + (an : Int))] := by simp [rZ]
  have hl : out.length ≤ (rZ an Z).length := by rw [rZ_length]; exact h.ole
  refine ⟨?_, ?_, ?_, ?_, ?_⟩
  · rw [e, List.drop_append_of_le_length hl, h.rest, Int.sub_zero]
  · rw [e, List.take_append_of_le_length hl]
    exact h.told
  · have := h.ole
    rw [List.length_append]
    omega
  · rw [List.pairwise_append]
    refine ⟨h.srt, List.pairwise_singleton _ _, fun a ha b hb => ?_⟩
    simp only [List.mem_singleton] at hb
    subst hb
    exact h.top a ha
  · intro z hz
    rcases List.mem_append.1 hz with hz | hz
    · exact h.top z hz
    · simp only [List.mem_singleton] at hz
      subst hz
      exact Nat.le_refl _
theorem AgL.next {an nw : Nat} {Z : List (Cm × Nat)} {out ms : List Cm} {R : List (Cd × Int)} (h : AgL an nw Z out R) (n : Nat) (hm : ms.map Prod.fst = (takeN n R).1) : AgL an nw Z (out ++ ms) (takeN n R).2 ∧ ms.length = min n R.length := by
  have hf := takeN_fifo n R h.rsrt
  have hml : ms.length = min n R.length := by
    have := congrArg List.length hm
    rw [List.length_map, (takeN_len n R).1] at this
    exact this
  rw [hf] at hm ⊢
  dsimp only at hm ⊢
  have hL := h.len
  have ho := h.ole
  refine ⟨⟨?_, ?_, ?_, h.srt, h.top⟩, hml⟩
  · rw [h.rest, List.drop_drop, List.length_append]
    by_cases hn : n ≤ R.length
    · rw [hml, Nat.min_eq_left hn]
    · rw [List.drop_of_length_le (by rw [rZ_length]; omega), List.drop_of_length_le (by rw [rZ_length]; omega)]
  · rw [List.map_append, h.told, hm, List.length_append, h.rest, List.take_add, List.map_append]
    congr 2
    by_cases hn : n ≤ R.length
    · rw [hml, Nat.min_eq_left hn]
    · rw [List.take_of_length_le (by rw [List.length_drop, rZ_length]; omega), List.take_of_length_le (by rw [List.length_drop, rZ_length]; omega)]
  · rw [List.length_append]
    omega
theorem AgL.due {an nw : Nat} {Z : List (Cm × Nat)} {out : List Cm} {R : List (Cd × Int)} (h : AgL an nw Z out R) (hl : out.length < Z.length) : 0 < R.length ∧ dueOf R (eldI R) = (Z[out.length].2 : Int) + (an : Int) := by
  have hL := h.len
  have h0 : 0 < R.length := by omega
  have hk : eldI R = 0 := by
    refine eldI_unique R 0 h0 (fun j hj => ?_) (fun j hj => by omega)
    rw [dueOf_get _ 0 h0, dueOf_get _ j hj]
    cases j with
    | zero => exact Int.le_refl _
    | succ j => exact List.pairwise_iff_getElem.1 h.rsrt 0 (j + 1) h0 hj (by omega)
  refine ⟨h0, ?_⟩
  rw [hk, dueOf_get _ 0 h0]
  have e : R[0]? = some (Z[out.length].1.1, (Z[out.length].2 : Int) + (an : Int)) := by
    rw [h.rest, List.getElem?_drop, Nat.add_zero]
    unfold rZ
    rw [List.getElem?_map, List.getElem?_eq_getElem hl]
    rfl
  rw [List.getElem?_eq_getElem h0] at e
  rw [Option.some.inj e]
theorem AgL.ready {ba : Int} {an nw : Nat} {Z : List (Cm × Nat)} {out : List Cm} {R : List (Cd × Int)} (h : AgL an nw Z out R) (hr : readyB ba nw R = true) : out.length < Z.length := by
  have h1 := (decide_eq_true_iff.1 hr).1
  have := h.len
  omega
theorem AgL.late {ba : Int} {an nw : Nat} {Z : List (Cm × Nat)} {out : List Cm} {R : List (Cd × Int)} (h : AgL an nw Z out R) (hr : readyB ba nw R = false) (hl : out.length < Z.length) : (nw : Int) - (Z[out.length].2 : Int) < (an : Int) := by
  obtain ⟨h0, hd⟩ := h.due hl
  have h1 := decide_eq_false_iff_not.1 hr
  have h2 : ¬ (dueOf R (eldI R) ≤ (nw : Int)) := fun hc => h1 ⟨h0, .inr hc⟩
  rw [hd] at h2
  omega
theorem AgL.done {ba : Int} {an nw n0 : Nat} {Z : List (Cm × Nat)} {out : List Cm} {R : List (Cd × Int)} (h : AgL an nw Z out R) (hr : readyB ba nw R = false) (h0 : ∀ z ∈ Z, z.2 ≤ n0) (ha : n0 + an ≤ nw) : out.length = Z.length := by
  by_cases hl : out.length < Z.length
  · have h1 := h.late hr hl
    have h2 := h0 _ (List.getElem_mem hl)
    omega
  · have := h.ole
    omega
theorem AgL.all {an nw : Nat} {Z : List (Cm × Nat)} {out : List Cm} {R : List (Cd × Int)} (h : AgL an nw Z out R) (hl : out.length = Z.length) : R = [] ∧ (Z.map Prod.fst).map Prod.fst = out.map Prod.fst := by
  refine ⟨List.eq_nil_of_length_eq_zero (by have := h.len; omega), ?_⟩
  rw [h.told, List.take_of_length_le (by rw [rZ_length]; omega)]
  simp [rZ]

/-- A batcher, and the three rows of a law that was at W. -/
structure AgS (W w : World) (b : Nat) (F : List Nat) (ba ag now ord : Int) (ai : Option Addr) (ci : Nat) (ins : List Cm) (ao : Option Addr) (co : Nat) (out : List Cm) (sa : Option Addr) (cs : Nat) (S : List Nat) (R : List (Cd × Int)) : Prop where
  bat : BatR w b F ba ag now ord R
  oi : OwnC w ai ci ins
  oo : OwnC w ao co out
  os : OwnI w sa cs S
  mod : Mod [] W w
  fnew : ∀ k, k ∈ F → W.heap.size ≤ k
  ri : ∀ k, k ∈ blk ai → W.heap.size ≤ k ∧ k ∉ F ∧ k ∉ blk ao ∧ k ∉ blk sa
  ro : ∀ k, k ∈ blk ao → W.heap.size ≤ k ∧ k ∉ F ∧ k ∉ blk sa
  rs : ∀ k, k ∈ blk sa → W.heap.size ≤ k ∧ k ∉ F
  each : ∀ c ∈ out, SeesT w c.2.1 c.1.keys ∧ Wf c.1 ∧ ∀ k, k ∈ blk c.2.1 → W.heap.size ≤ k ∧ k < w.heap.size ∧ k ∉ F ∧ k ∉ blk ai ∧ k ∉ blk ao ∧ k ∉ blk sa
  ein : ∀ c ∈ ins, SeesT W c.2.1 c.1.keys ∧ Wf c.1
section
variable {W w w' w1 w2 : World} {b : Nat} {F F' : List Nat} {ba ag now now' ord ord' : Int} {ai ai' : Option Addr} {ci ci' : Nat} {ins : List Cm} {ao ao' : Option Addr} {co co' : Nat} {out : List Cm} {sa sa' : Option Addr} {cs cs' : Nat} {S : List Nat} {R R' : List (Cd × Int)}
theorem AgS.batE (h : AgS W w b F ba ag now ord ai ci ins ao co out sa cs S R) (h1 : BatR w' b F' ba ag now' ord' R') (m : Mod F w w') (hF : ∀ k, k ∈ F' → k ∈ F ∨ w.heap.size ≤ k) : AgS W w' b F' ba ag now' ord' ai ci ins ao co out sa cs S R' := by
  have hN : ∀ k, k < w.heap.size → k ∉ F → k ∉ F' := fun k hk hn hf => by
    rcases hF k hf with h2 | h2
    · exact hn h2
    · omega
  have li := Own.lt h.oi
  have lo := Own.lt h.oo
  have ls := Own.lt h.os
  refine ⟨h1, Own.mod h.oi m (fun k hk => (h.ri k hk).2.1), Own.mod h.oo m (fun k hk => (h.ro k hk).2.1), Own.mod h.os m (fun k hk => (h.rs k hk).2), h.mod.trans m (fun k hk hl => by have := h.fnew k hk; omega), fun k hk => ?_,
    fun k hk => ?_, fun k hk => ?_, fun k hk => ?_, fun c hc => ?_, h.ein⟩
  · rcases hF k hk with h2 | h2
    · exact h.fnew k h2
    · exact Nat.le_trans h.mod.size h2
  · obtain ⟨a1, a2, a3, a4⟩ := h.ri k hk
    exact ⟨a1, hN k (li k hk) a2, a3, a4⟩
  · obtain ⟨a1, a2, a3⟩ := h.ro k hk
    exact ⟨a1, hN k (lo k hk) a2, a3⟩
  · obtain ⟨a1, a2⟩ := h.rs k hk
    exact ⟨a1, hN k (ls k hk) a2⟩
  · obtain ⟨a1, a2, a3⟩ := h.each c hc
    refine ⟨a1.mod m (fun _ k hk => (a3 k hk).2.2.1), a2, fun k hk => ?_⟩
    obtain ⟨b1, b2, b3, b4⟩ := a3 k hk
    exact ⟨b1, Nat.lt_of_lt_of_le b2 m.size, hN k b2 b3, b4⟩
theorem AgS.still (h : AgS W w b F ba ag now ord ai ci ins ao co out sa cs S R) (m : Mod [] w w') : AgS W w' b F ba ag now ord ai ci ins ao co out sa cs S R :=
  h.batE (h.bat.mod0 m) m.nil (fun _ hk => .inl hk)
theorem AgS.next {ms : List Cm} {am : Option Addr} {cm : Nat} (h : AgS W w b F ba ag now ord ai ci ins ao co out sa cs S R) (h1 : BatR w1 b F' ba ag now ord' R') (m1 : Mod F w w1) (hF : ∀ k, k ∈ F' → k ∈ F ∨ w.heap.size ≤ k) (hm : OutC w w1 F' am cm ms)
    (o : OwnC w2 ao' co' (out ++ ms)) (m2 : Mod (blk ao) w1 w2) (n : SameOrNew w1 w2 ao ao') : AgS W w2 b F' ba ag now ord' ai ci ins ao' co' (out ++ ms) sa cs S R' := by
  have h' := h.batE h1 m1 hF
  have li := Own.lt h.oi
  have lo := Own.lt h.oo
  have ls := Own.lt h.os
  have lf := h1.lt
  have z1 := m1.size
  have z2 := m2.size
  have z0 := h.mod.size
  have hao : ∀ k, k ∈ blk ao' → k ∈ blk ao ∨ w1.heap.size ≤ k := n.blk
  refine ⟨h1.mod m2 (fun k hk ha => (h'.ro k ha).2.1 hk), Own.mod h'.oi m2 (fun k hk => (h'.ri k hk).2.2.1), o, Own.mod h'.os m2 (fun k hk ha => (h'.ro k ha).2.2 hk), h'.mod.trans m2 (fun k hk hl => by have := (h'.ro k hk).1; omega), h'.fnew,
    fun k hk => ?_, fun k hk => ?_, h'.rs, fun c hc => ?_, h.ein⟩
  · obtain ⟨a1, a2, a3, a4⟩ := h'.ri k hk
    refine ⟨a1, a2, fun hb => ?_, a4⟩
    rcases hao k hb with h2 | h2
    · exact a3 h2
    · have := li k hk; omega
  · rcases hao k hk with h2 | h2
    · exact h'.ro k h2
    · refine ⟨by omega, fun hb => ?_, fun hb => ?_⟩
      · have := lf k hb; omega
      · have := ls k hb; omega
  · rcases List.mem_append.1 hc with hc | hc
    · obtain ⟨a1, a2, a3⟩ := h'.each c hc
      obtain ⟨-, -, a4⟩ := h.each c hc
      refine ⟨a1.mod m2 (fun _ k hk => (a3 k hk).2.2.2.2.1), a2, fun k hk => ?_⟩
      obtain ⟨b1, b2, b3, b4, b5, b6⟩ := a3 k hk
      refine ⟨b1, by omega, b3, b4, fun hb => ?_, b6⟩
      rcases hao k hb with h2 | h2
      · exact b5 h2
      · omega
    · obtain ⟨a1, a2, -, a3⟩ := hm.each c hc
      refine ⟨a1.mod m2 (fun _ k hk hb => by have := (a3 k hk).1; have := lo k hb; omega), a2, fun k hk => ?_⟩
      obtain ⟨b1, b2, b3⟩ := a3 k hk
      refine ⟨by omega, by omega, b3, fun hb => ?_, fun hb => ?_, fun hb => ?_⟩
      · have := li k hb; omega
      · rcases hao k hb with h2 | h2
        · have := lo k h2; omega
        · omega
      · have := ls k hb; omega
theorem AgS.pushI {c : Cm} (h : AgS W w b F ba ag now ord ai ci ins ao co out sa cs S R) (o : OwnC w' ai' ci' (ins ++ [c])) (m : Mod (blk ai) w w') (n : SameOrNew w w' ai ai') (hc : SeesT W c.2.1 c.1.keys ∧ Wf c.1) : AgS W w' b F ba ag now ord ai' ci' (ins ++ [c]) ao co out sa cs S R := by
  have lo := Own.lt h.oo
  have ls := Own.lt h.os
  have lf := h.bat.lt
  have z0 := h.mod.size
  have z1 := m.size
  refine ⟨h.bat.mod m (fun k hk ha => (h.ri k ha).2.1 hk), o, Own.mod h.oo m (fun k hk ha => (h.ri k ha).2.2.1 hk), Own.mod h.os m (fun k hk ha => (h.ri k ha).2.2.2 hk), h.mod.trans m (fun k hk hl => by have := (h.ri k hk).1; omega), h.fnew,
    fun k hk => ?_, h.ro, h.rs, fun d hd => ?_, fun d hd => ?_⟩
  · rcases n.blk k hk with h2 | h2
    · exact h.ri k h2
    · refine ⟨by omega, fun hb => ?_, fun hb => ?_, fun hb => ?_⟩
      · have := lf k hb; omega
      · have := lo k hb; omega
      · have := ls k hb; omega
  · obtain ⟨a1, a2, a3⟩ := h.each d hd
    refine ⟨a1.mod m (fun _ k hk => (a3 k hk).2.2.2.1), a2, fun k hk => ?_⟩
    obtain ⟨b1, b2, b3, b4, b5⟩ := a3 k hk
    refine ⟨b1, by omega, b3, fun hb => ?_, b5⟩
    rcases n.blk k hb with h2 | h2
    · exact b4 h2
    · omega
  · rcases List.mem_append.1 hd with hd | hd
    · exact h.ein d hd
    · simp only [List.mem_singleton] at hd
      subst hd
      exact hc
theorem AgS.pushS {x : Nat} (h : AgS W w b F ba ag now ord ai ci ins ao co out sa cs S R) (o : OwnI w' sa' cs' (S ++ [x])) (m : Mod (blk sa) w w') (n : SameOrNew w w' sa sa') : AgS W w' b F ba ag now ord ai ci ins ao co out sa' cs' (S ++ [x]) R := by
  have li := Own.lt h.oi
  have lo := Own.lt h.oo
  have lf := h.bat.lt
  have z0 := h.mod.size
  have z1 := m.size
  refine ⟨h.bat.mod m (fun k hk ha => (h.rs k ha).2 hk), Own.mod h.oi m (fun k hk => (h.ri k hk).2.2.2), Own.mod h.oo m (fun k hk => (h.ro k hk).2.2), o, h.mod.trans m (fun k hk hl => by have := (h.rs k hk).1; omega), h.fnew,
    fun k hk => ?_, fun k hk => ?_, fun k hk => ?_, fun d hd => ?_, h.ein⟩
  · obtain ⟨a1, a2, a3, a4⟩ := h.ri k hk
    refine ⟨a1, a2, a3, fun hb => ?_⟩
    rcases n.blk k hb with h2 | h2
    · exact a4 h2
    · have := li k hk; omega
  · obtain ⟨a1, a2, a3⟩ := h.ro k hk
    refine ⟨a1, a2, fun hb => ?_⟩
    rcases n.blk k hb with h2 | h2
    · exact a3 h2
    · have := lo k hk; omega
  · rcases n.blk k hk with h2 | h2
    · exact h.rs k h2
    · exact ⟨by omega, fun hb => by have := lf k hb; omega⟩
  · obtain ⟨a1, a2, a3⟩ := h.each d hd
    refine ⟨a1.mod m (fun _ k hk => (a3 k hk).2.2.2.2.2), a2, fun k hk => ?_⟩
    obtain ⟨b1, b2, b3, b4, b5, b6⟩ := a3 k hk
    refine ⟨b1, by omega, b3, b4, b5, fun hb => ?_⟩
    rcases n.blk k hb with h2 | h2
    · exact b6 h2
    · omega
end
theorem AgS.new {W w : World} {b : Nat} {F : List Nat} {ba ag now ord : Int} {R : List (Cd × Int)} (h : BatR w b F ba ag now ord R) (m : Mod [] W w) (n : ∀ k, k ∈ F → W.heap.size ≤ k) : AgS W w b F ba ag now ord none 0 [] none 0 [] none 0 [] R :=
  ⟨h, Own.nil0 _ _ _, Own.nil0 _ _ _, Own.nil0 _ _ _, m, n, fun k hk => absurd hk (by simp [blk]), fun k hk => absurd hk (by simp [blk]), fun k hk => absurd hk (by simp [blk]), fun c hc => absurd hc (by simp), fun c hc => absurd hc (by simp)⟩
theorem putE_is (ag : Int) (R : List (Cd × Int)) (c : Cd) (N : Int) : putE ag R c N = 0 ∨ putE ag R c N = 1 ∨ putE ag R c N = 30 := by
  unfold putE
  split
  · split
    · exact .inr (.inr rfl)
    · exact .inl rfl
  · exact .inr (.inl rfl)
/-- How long a slice is, of its value. -/
def lenV : Value → Nat
  | .slice _ n _ => n
  | _ => 0
/-- How many ticks go by, of any number. -/
theorem gap_of (N : Int) : ∃ g : Nat, ((N.tmod 10 + 10).tmod 10) = (g : Int) ∧ g ≤ 9 ∧ -9 ≤ N.tmod 10 ∧ N.tmod 10 ≤ 9 := by
  have h1 : N.tmod 10 < 10 := Int.tmod_lt_of_pos N (by decide)
  have h2 : -10 < N.tmod 10 := by
    have := Int.tmod_lt_of_pos (-N) (b := 10) (by decide)
    rw [Int.neg_tmod] at this
    omega
  have h3 : 0 ≤ N.tmod 10 + 10 := by omega
  rw [Int.tmod_eq_emod_of_nonneg h3]
  exact ⟨((N.tmod 10 + 10) % 10).toNat, by omega, by omega, by omega, by omega⟩
end Go.Proofs.YtigamomoegpefaaDoor
