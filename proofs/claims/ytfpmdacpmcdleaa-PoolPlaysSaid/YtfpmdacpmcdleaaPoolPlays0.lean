/- What the rounds of PoolPlays keep. -/
import Derived.Test.YtfpmdacpmcdleaaPoolWake
import Derived.Test.YtfpmdacpmcdleaaRef04b
namespace Go.Proofs.Ytfpmdacpmcdleaa
open Go Go.RowKit Go.Lib

/-- Handles, two cells each. -/
def hdC (x : Int × Int) : List Value := [.int .i64 x.1, .int .u32 x.2]
def cellsH (l : List (Int × Int)) : List Value := l.flatMap hdC
theorem cellsH_length (l : List (Int × Int)) : (cellsH l).length = l.length * 2 := by
  induction l with
  | nil => rfl
  | cons a r ih => simp only [cellsH, List.flatMap_cons, List.length_append, hdC, List.length_cons, List.length_nil] at *; omega
theorem cellsH_at : ∀ (l : List (Int × Int)) (j : Nat) (hj : j < l.length), (cellsH l)[j * 2]? = some (.int .i64 l[j].1) ∧ (cellsH l)[j * 2 + 1]? = some (.int .u32 l[j].2) := by
  intro l
  induction l with
  | nil => intro j hj; exact absurd hj (by simp)
  | cons a r ih =>
    intro j hj
    cases j with
    | zero => exact ⟨rfl, rfl⟩
    | succ j =>
      have := ih j (by simpa using hj)
      have e : (j + 1) * 2 = j * 2 + 1 + 1 := by omega
      rw [e]
      exact this
def OwnH (w : World) (ao : Option Addr) (cap : Nat) (l : List (Int × Int)) : Prop := Own w 29 2 ao l.length cap (cellsH l)
theorem OwnH.at' {w : World} {ao : Option Addr} {cap : Nat} {l : List (Int × Int)} (h : OwnH w ao cap l) {j : Nat} (hj : j < l.length) :
    ∃ g, ao = some ⟨g, 0, none⟩ ∧ w.cell? ⟨g, j * 2, none⟩ = some (.int .i64 l[j].1) ∧ w.cell? ⟨g, j * 2 + 1, none⟩ = some (.int .u32 l[j].2) := by
  obtain ⟨h1, h2⟩ := cellsH_at l j hj
  obtain ⟨g, e1, e2, _⟩ := Own.cell h h1
  obtain ⟨g1, a1, a2, a3⟩ := Own.cell h h2
  rw [e1] at a1
  cases a1
  exact ⟨g, e1, e2, a2⟩
theorem infoHd : (Try.prog.info? 29).map (fun i => (i.zero, i.size, i.bytes)) = some (some (.agg #[.int .i64 0, .int .u32 0]), 2, 16) := by kernel_rfl
theorem wpl_appH {w : World} {ops : Array Oper} {rest : List Oper} {a : Act} {Q : Exit → Act → World → Prop} {dst : Option Tmp} {ty : TypeId} {pos : String} {after : Array Edge} (s x : Operand)
    (ao : Option Addr) (n cap : Nat) (xs : List (Int × Int)) (hs : a.eval s = .slice ao n cap) (hn : xs.length = n) (hown : OwnH w ao cap xs)
    (so : Option Addr) (m c : Nat) (ys : List (Int × Int)) (hx : a.eval x = .slice so m c) (hm : ys.length = m) (hsh : Shows w so (cellsH ys)) (hb : n + m ≤ 1000000000)
    (h : ∀ ao' cap' w', OwnH w' ao' cap' (xs ++ ys) → Mod (blk ao) w w' → SameOrNew w w' ao ao' → wpList Try.prog ops Q rest (a.put dst (.slice ao' (n + m) cap')) w') :
    wpList Try.prog ops Q (⟨dst, .call { callee := .builtin .append, args := #[s, x], argTypes := #[41, 41] }, ty, pos, after, none⟩ :: rest) a w := by
  obtain ⟨i0, hi, hz0, hz1, hz2⟩ := info_parts infoHd
  subst hn hm
  refine wpl_append w rfl s x 41 rfl 29 i0 _ 2 16 Try.underlying41 hi hz0 hz1 hz2 rfl (by decide) ao _ cap _ hs hown so _ c (cellsH ys) hx (cellsH_length ys) hsh ?_ (by unfold maxLen; omega) (by omega) ?_
  · intro u hu
    obtain ⟨x, _, hu⟩ := List.mem_flatMap.1 hu
    simp only [hdC, List.mem_cons, List.not_mem_nil, or_false] at hu
    rcases hu with rfl | rfl <;> rfl
  · intro ao' cap' w' h1 h2 h3
    refine h ao' cap' w' ?_ h2 h3
    unfold OwnH cellsH
    rw [List.length_append, List.flatMap_append]
    exact h1
theorem showsH1 {w : World} {g : Nat} {x : Int × Int} {t : TypeId} {z : Nat × Nat} (h : w.heap[g]? = some (.cells #[.int .i64 x.1, .int .u32 x.2] t z)) : Shows w (some ⟨g, 0, none⟩) (cellsH [x]) := by
  intro j u hj
  refine ⟨_, rfl, ?_⟩
  rw [Addr.add_lit, cell_of_block h, Nat.zero_add]
  have : cellsH [x] = [.int .i64 x.1, .int .u32 x.2] := by simp [cellsH, hdC]
  rw [this] at hj
  rw [← hj]
  simp

/-- An act: what it does, K, the handle, the bytes. -/
abbrev Ac := Nat × Int × Int × Int × Option Addr × Nat × List UInt8
def SeesA (w : World) (ao : Option Addr) (l : List Ac) : Prop :=
  ∀ j (h : j < l.length), ∃ b off, ao = some ⟨b, off, none⟩ ∧ w.cell? ⟨b, off + j * 5, none⟩ = some (.int .u8 (l[j].1 : Int)) ∧ w.cell? ⟨b, off + j * 5 + 1, none⟩ = some (.int .i64 l[j].2.1) ∧ w.cell? ⟨b, off + j * 5 + 2, none⟩ = some (.int .i64 l[j].2.2.1) ∧
    w.cell? ⟨b, off + j * 5 + 3, none⟩ = some (.int .u32 l[j].2.2.2.1) ∧ w.cell? ⟨b, off + j * 5 + 4, none⟩ = some (.slice l[j].2.2.2.2.1 l[j].2.2.2.2.2.2.length l[j].2.2.2.2.2.1) ∧ Sees w l[j].2.2.2.2.1 l[j].2.2.2.2.2.2 ∧ l[j].1 < 256 ∧ l[j].2.1 ≤ 9223372036854775807 ∧ l[j].2.2.2.2.2.2.length ≤ 140737488351232
theorem SeesA.mod0 {w w' : World} {ao : Option Addr} {l : List Ac} (h : SeesA w ao l) (hm : Mod [] w w') : SeesA w' ao l := by
  intro j hj
  obtain ⟨b, off, h1, h2, h3, h4, h5, h6, h7, h8⟩ := h j hj
  exact ⟨b, off, h1, hm.cell h2 (by simp), hm.cell h3 (by simp), hm.cell h4 (by simp), hm.cell h5 (by simp), hm.cell h6 (by simp), h7.mod0 hm, h8⟩

/-- What a round keeps. -/
def PlayRel (w0 : World) (g h n sz k : Nat) (ha : Option Addr) (hc : Nat) (hd : List (Int × Int)) (L : List Bm) (fr : List Nat) (F F' : List Nat) (w : World) : Prop :=
  PoolW w g F sz L fr ∧ RefW w h F' sz L fr.reverse ∧ OwnH w ha hc hd ∧ L.length = n ∧ fr.length ≤ n + k ∧ hd.length ≤ k ∧
  (∀ j, j ∈ F → w0.heap.size ≤ j ∧ j ∉ F' ∧ j ∉ blk ha) ∧ (∀ j, j ∈ F' → w0.heap.size ≤ j ∧ j ∉ blk ha) ∧ (∀ j, j ∈ blk ha → w0.heap.size ≤ j) ∧ Mod [] w0 w
section
variable {w0 w w1 w2 : World} {g h n sz k : Nat} {ha : Option Addr} {hc : Nat} {hd : List (Int × Int)} {L L1 : List Bm} {fr fr1 : List Nat} {F F' : List Nat}
theorem PlayRel.mod0 (H : PlayRel w0 g h n sz k ha hc hd L fr F F' w) (m : Mod [] w w1) : PlayRel w0 g h n sz k ha hc hd L fr F F' w1 := by
  obtain ⟨h1, h2, h3, h4, h5, h6, h7, h8, h9, h10⟩ := H
  exact ⟨h1.mod0 m, h2.mod0 m, Own.mod0 h3 m, h4, h5, h6, h7, h8, h9, h10.trans' m⟩
/-- A block that is neither the pool's nor the reference's nor the handles'. -/
def Mine (w0 : World) (b : Nat) (F F' : List Nat) (ha : Option Addr) : Prop := w0.heap.size ≤ b ∧ b ∉ F ∧ b ∉ F' ∧ b ∉ blk ha
theorem PlayRel.mine (H : PlayRel w0 g h n sz k ha hc hd L fr F F' w) (b : Nat) (hb : w.heap.size ≤ b) : Mine w0 b F F' ha := by
  obtain ⟨h1, h2, h3, h4, h5, h6, h7, h8, h9, h10⟩ := H
  exact ⟨Nat.le_trans h10.size hb, fun hm => by have := h1.lt b hm; omega, fun hm => by have := h2.lt b hm; omega, fun hm => by have := Own.lt h3 b hm; omega⟩
theorem PlayRel.own (H : PlayRel w0 g h n sz k ha hc hd L fr F F' w) {S : List Nat} (m : Mod S w w1) (hs : ∀ b, b ∈ S → Mine w0 b F F' ha) : PlayRel w0 g h n sz k ha hc hd L fr F F' w1 := by
  obtain ⟨h1, h2, h3, h4, h5, h6, h7, h8, h9, h10⟩ := H
  exact ⟨h1.mod m (fun j hj hm => (hs j hm).2.1 hj), h2.mod m (fun j hj hm => (hs j hm).2.2.1 hj), Own.mod h3 m (fun j hj hm => (hs j hm).2.2.2 hj), h4, h5, h6, h7, h8, h9, h10.trans m (fun j hj hl => by have := (hs j hj).1; omega)⟩
theorem PlayRel.next (H : PlayRel w0 g h n sz k ha hc hd L fr F F' w) : PlayRel w0 g h n sz (k + 1) ha hc hd L fr F F' w := by
  obtain ⟨h1, h2, h3, h4, h5, h6, h7⟩ := H
  exact ⟨h1, h2, h3, h4, by omega, by omega, h7⟩
theorem PlayRel.ref1 (H : PlayRel w0 g h n sz k ha hc hd L fr F F' w) (m : Mod F w w1) : RefW w1 h F' sz L fr.reverse :=
  H.2.1.mod m (fun j hj hm => (H.2.2.2.2.2.2.1 j hm).2.1 hj)
/-- The pool has turned, then the reference. -/
theorem PlayRel.both (H : PlayRel w0 g h n sz k ha hc hd L fr F F' w) (a : PMoved w w1 g F sz L1 fr1) (b : RMoved w1 w2 h F' sz L1 fr1.reverse) (hl : L1.length = n) (hf : fr1.length ≤ n + k + 1) :
    ∃ G G', PlayRel w0 g h n sz (k + 1) ha hc hd L1 fr1 G G' w2 ∧ (∀ j, j ∈ G → j ∈ F ∨ w.heap.size ≤ j) ∧ (∀ j, j ∈ G' → j ∈ F' ∨ w.heap.size ≤ j) := by
  obtain ⟨h1, h2, h3, h4, h5, h6, h7, h8, h9, h10⟩ := H
  obtain ⟨G, a1, a2, a3⟩ := a
  obtain ⟨G', b1, b2, b3⟩ := b
  have hlt := a1.lt
  have hrl := h2.lt
  have hol := Own.lt h3
  have hgf : ∀ j, j ∈ G → j ∉ F' := fun j hj hm => by
    rcases a3 j hj with h | h
    · exact (h7 j h).2.1 hm
    · have := hrl j hm; omega
  refine ⟨G, G', ⟨a1.mod b2 hgf, b1, Own.mod (Own.mod h3 a2 (fun j hj hm => (h7 j hm).2.2 hj)) b2 (fun j hj hm => (h8 j hm).2 hj), hl, by omega, by omega, ?_, ?_, h9, ?_⟩, a3, ?_⟩
  · intro j hj
    refine ⟨?_, ?_, ?_⟩
    · rcases a3 j hj with h | h
      · exact (h7 j h).1
      · exact Nat.le_trans h10.size h
    · intro hm
      rcases b3 j hm with h | h
      · exact hgf j hj h
      · have := hlt j hj; omega
    · intro hm
      rcases a3 j hj with h | h
      · exact (h7 j h).2.2 hm
      · have := hol j hm; omega
  · intro j hj
    refine ⟨?_, ?_⟩
    · rcases b3 j hj with h | h
      · exact (h8 j h).1
      · exact Nat.le_trans h10.size (Nat.le_trans a2.size h)
    · intro hm
      rcases b3 j hj with h | h
      · exact (h8 j h).2 hm
      · have := hol j hm; have := a2.size; omega
  · exact (h10.trans a2 (fun j hj hl => by have := (h7 j hj).1; omega)).trans b2 (fun j hj hl => by have := (h8 j hj).1; omega)
  · intro j hj
    exact (b3 j hj).imp id (fun h => Nat.le_trans a2.size h)
theorem PMoved.on {a b c : World} (h : PMoved a b g F sz L fr) (m : Mod [] b c) : PMoved a c g F sz L fr := by
  obtain ⟨F', h1, h2, h3⟩ := h
  exact ⟨F', h1.mod0 m, h2.trans0 m, h3⟩
theorem RMoved.after {a b c : World} (m : Mod [] a b) (hF : RefW a h F sz L1 fr1) (k : RMoved b c h F sz L fr) : RMoved a c h F sz L fr := by
  obtain ⟨F', h1, h2, h3⟩ := k
  exact ⟨F', h1, m.nil.trans' h2, fun j hj => (h3 j hj).imp id (fun h => Nat.le_trans m.size h)⟩
/-- Another handle. -/
theorem PlayRel.had {x : Int × Int} {a3 : Option Addr} {c3 : Nat} (H : PlayRel w0 g h n sz (k + 1) ha hc hd L fr F F' w) (hl : hd.length ≤ k) (o : OwnH w1 a3 c3 (hd ++ [x])) (m : Mod (blk ha) w w1) (s : SameOrNew w w1 ha a3) :
    PlayRel w0 g h n sz (k + 1) a3 c3 (hd ++ [x]) L fr F F' w1 := by
  obtain ⟨h1, h2, h3, h4, h5, h6, h7, h8, h9, h10⟩ := H
  have hlt := h1.lt
  have hrl := h2.lt
  refine ⟨h1.mod m (fun j hj hm => (h7 j hj).2.2 hm), h2.mod m (fun j hj hm => (h8 j hj).2 hm), o, h4, h5, by simp; omega, ?_, ?_, ?_, h10.trans m (fun j hj hl => by have := h9 j hj; omega)⟩
  · intro j hj
    refine ⟨(h7 j hj).1, (h7 j hj).2.1, fun hm => ?_⟩
    rcases s.blk j hm with h | h
    · exact (h7 j hj).2.2 h
    · have := hlt j hj; omega
  · intro j hj
    refine ⟨(h8 j hj).1, fun hm => ?_⟩
    rcases s.blk j hm with h | h
    · exact (h8 j hj).2 h
    · have := hrl j hj; omega
  · intro j hj
    rcases s.blk j hj with h | h
    · exact h9 j h
    · exact Nat.le_trans h10.size h
theorem Mine.far {b : Nat} {S : List Nat} (H : Mine w0 b F F' ha) (hs : ∀ j, j ∈ S → j ∈ F ∨ j ∈ F' ∨ j ∈ blk ha) : b ∉ S := fun hm => by
  rcases hs b hm with h | h | h
  · exact H.2.1 h
  · exact H.2.2.1 h
  · exact H.2.2.2 h
theorem inc8 (x8 : UInt8) : ∃ y8 : UInt8, ((y8.toNat : Nat) : Int) = IntKind.u8.wrap (((x8.toNat : Nat) : Int) + 1) := by
  refine ⟨UInt8.ofNat (IntKind.u8.wrap (((x8.toNat : Nat) : Int) + 1)).toNat, ?_⟩
  rw [UInt8.toNat_ofNat', IntKind.wrap_u8']
  omega
theorem OwnB.put8 {w : World} {g cap : Nat} {l : List UInt8} (h : OwnB w (some ⟨g, 0, none⟩) cap l) (j : Nat) (x8 y8 : UInt8) (hy : ((y8.toNat : Nat) : Int) = IntKind.u8.wrap (((x8.toNat : Nat) : Int) + 1)) :
    OwnB (w.setCell ⟨g, j, none⟩ (.int .u8 ((((x8.toNat : Nat) : Int) + 1) % 256))) (some ⟨g, 0, none⟩) cap (l.set j y8) := by
  have h1 := OwnB.set (j := j) h y8
  unfold u8v at h1
  rw [hy, IntKind.wrap_u8'] at h1
  exact h1
/-- string(b) of a row that is seen in every world to come. -/
theorem reads_strS {K : List Nat} {w : World} {dst : Option Tmp} {ty : TypeId} {pos : String} {after : Array Edge} {gd : Option (Nat × Bool)} (ev : Operand → Value) (x : Operand)
    (so : Option Addr) (m c : Nat) (l : List UInt8) (hx : ev x = .slice so m c) (hl : l.length = m) (hsees : ∀ w', Mod K w w' → Sees w' so l) :
    ∀ w', Mod K w w' → (execOp ev ⟨dst, .convert 32 9 x, ty, pos, after, gd⟩).run Try.prog w' = .ok (.value (strV l)) w' := by
  subst hl
  intro w' hm
  have hr := run_string_of (P := Try.prog) w' 32 9 5 Try.underlying32 Try.underlying5 Try.underlying9 so c l (hsees w' hm)
  unfold execOp
  simp [hx, hr]
/-- Old bytes stay seen where only newer blocks turn. -/
theorem Sees.stays {w0 w w' : World} {S : List Nat} {so : Option Addr} {l : List UInt8} (h : Sees w0 so l) (m0 : Mod [] w0 w) (m : Mod S w w') (hs : ∀ j, j ∈ S → w0.heap.size ≤ j) : Sees w' so l := by
  intro j hj
  obtain ⟨b, off, e1, e2⟩ := h j hj
  have hlt := World.block_lt_of_cell? w0 _ e2
  exact ⟨b, off, e1, m.cell (m0.cell e2 (by simp)) (fun hm => by have := hs _ hm; simp at this hlt; omega)⟩
theorem RefW.next (H : RefW w h F' sz L fr) : ∃ na nc, w.cell? ⟨h, 4, none⟩ = some (.slice na fr.length nc) := by
  obtain ⟨ba, bc, ga, gc, ta, tc, na, nc, ⟨h1, _⟩, _⟩ := H
  exact ⟨na, nc, by rw [cell_of_block h1]; rfl⟩
theorem RefW.gen (H : RefW w h F' sz L fr) {i : Nat} (hi : i < L.length) : ∃ gb gc, w.cell? ⟨h, 2, none⟩ = some (.slice (some ⟨gb, 0, none⟩) L.length gc) ∧ w.cell? ⟨gb, i, none⟩ = some (.int .u32 L[i].2.1) ∧ L.length ≤ gc ∧ gc ≤ maxLen := by
  obtain ⟨ba, bc, ga, gc, ta, tc, na, nc, ⟨h1, _, h3, _⟩, _⟩ := H
  obtain ⟨g, rfl, e, _⟩ := h3.at' hi
  exact ⟨g, gc, by rw [cell_of_block h1]; rfl, e, h3.le, Own.cap_le h3⟩
theorem RefW.text (H : RefW w h F' sz L fr) {i : Nat} (hi : i < L.length) : ∃ gb gc, w.cell? ⟨h, 1, none⟩ = some (.slice (some ⟨gb, 0, none⟩) L.length gc) ∧ w.cell? ⟨gb, i, none⟩ = some (strV L[i].1) ∧ L.length ≤ gc ∧ gc ≤ maxLen := by
  obtain ⟨ba, bc, ga, gc, ta, tc, na, nc, ⟨h1, h2, _⟩, _⟩ := H
  obtain ⟨g, rfl, e, _⟩ := h2.at' hi
  exact ⟨g, bc, by rw [cell_of_block h1]; rfl, e, h2.le, Own.cap_le h2⟩
end
end Go.Proofs.Ytfpmdacpmcdleaa
