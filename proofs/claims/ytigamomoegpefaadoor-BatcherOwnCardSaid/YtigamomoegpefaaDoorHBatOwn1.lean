/- What the law BatcherOwn keeps: commands that were put, and what was told of them. No walk in sight. -/
import Derived.Test.YtigamomoegpefaaDoorZ7
namespace Go.Proofs.YtigamomoegpefaaDoor
open Go Go.RowKit Go.Lib

/-- The first commands of the law. -/
def cds (key : ByteArray) (j : Nat) : List Cd := (List.range j).map fun i => getC (i + 1) key
def rO (key : ByteArray) (j : Nat) : List (Cd × Int) := (cds key j).map fun c => (c, 8)
theorem cds_succ (key : ByteArray) (j : Nat) : cds key (j + 1) = cds key j ++ [getC (j + 1) key] := by
  unfold cds
  rw [List.range_succ, List.map_append]
  rfl
theorem rO_succ (key : ByteArray) (j : Nat) : rO key (j + 1) = rO key j ++ [(getC (j + 1) key, 8)] := by
  unfold rO
  rw [cds_succ, List.map_append]
  rfl
theorem cds_length (key : ByteArray) (j : Nat) : (cds key j).length = j := by simp [cds]
theorem rO_length (key : ByteArray) (j : Nat) : (rO key j).length = j := by simp [rO, cds_length]
theorem cds_get {key : ByteArray} {j i : Nat} (hi : i < (cds key j).length) : (cds key j)[i] = getC (i + 1) key := by simp [cds]
theorem cds_of {l : List Cm} {key : ByteArray} {j i : Nat} (h : l.map Prod.fst = cds key j) (hi : i < l.length) : l[i].1 = getC (i + 1) key := by
  have h1 : i < (l.map Prod.fst).length := by rw [List.length_map]; exact hi
  have h2 : (l.map Prod.fst)[i] = l[i].1 := List.getElem_map _
  rw [← h2]
  have h3 : i < (cds key j).length := by rw [← h]; exact h1
  rw [← cds_get h3]
  congr 1
theorem cds_mem {l : List Cm} {key : ByteArray} {j : Nat} (h : l.map Prod.fst = cds key j) {c : Cm} (hc : c ∈ l) : ∃ i, c.1 = getC (i + 1) key := by
  have h1 : c.1 ∈ cds key j := by rw [← h]; exact List.mem_map_of_mem hc
  obtain ⟨i, _, hi⟩ := List.mem_map.1 h1
  exact ⟨i, hi.symm⟩
theorem putE_own {key : ByteArray} (hk : KeyOk key) {j : Nat} (hj : j ≤ 8) : putE 8 (rO key j) (getC (j + 1) key) 0 = 0 := by
  unfold putE
  rw [if_pos ⟨getC_may (by omega) hk, by omega, by omega⟩, if_neg (by rw [rO_length]; omega)]
theorem putL_own {key : ByteArray} (hk : KeyOk key) {j : Nat} (hj : j ≤ 8) : putL 8 0 (rO key j) (getC (j + 1) key) 0 = rO key (j + 1) := by
  unfold putL
  rw [if_pos (putE_own hk hj), rO_succ]
  rfl
theorem take_own (key : ByteArray) {j : Nat} (hj : j ≤ 8) : takeN 64 (rO key j) = (cds key j, []) := by
  rw [takeN_fifo 64 (rO key j) ?_, List.take_of_length_le (by rw [rO_length]; omega), List.drop_of_length_le (by rw [rO_length]; omega)]
  · congr 1
    unfold rO
    rw [List.map_map]
    exact List.map_id' _
  · unfold rO
    rw [List.pairwise_map]
    exact List.pairwise_of_forall (fun _ _ => Int.le_refl _)

/-- A batcher, and the row of commands that were put, in a law that was at W. -/
structure OwB (W w : World) (b : Nat) (F : List Nat) (ord : Int) (ao : Option Addr) (cap : Nat) (ins : List Cm) (R : List (Cd × Int)) : Prop where
  bat : BatR w b F 8 8 0 ord R
  own : OwnC w ao cap ins
  mod : Mod [] W w
  fnew : ∀ k, k ∈ F → W.heap.size ≤ k
  row : ∀ k, k ∈ blk ao → W.heap.size ≤ k ∧ k ∉ F
  each : ∀ c ∈ ins, SeesT w c.2.1 c.1.keys ∧ Wf c.1 ∧ ∀ k, k ∈ blk c.2.1 → W.heap.size ≤ k ∧ k < w.heap.size ∧ k ∉ F ∧ k ∉ blk ao
section
variable {W w w' : World} {b : Nat} {F F' : List Nat} {ord ord' : Int} {ao ao' : Option Addr} {cap cap' : Nat} {ins : List Cm} {R R' : List (Cd × Int)}
theorem OwB.batE (h : OwB W w b F ord ao cap ins R) (h1 : BatR w' b F' 8 8 0 ord' R') (m : Mod F w w') (hF : ∀ k, k ∈ F' → k ∈ F ∨ w.heap.size ≤ k) : OwB W w' b F' ord' ao cap ins R' := by
  have lo := Own.lt h.own
  refine ⟨h1, Own.mod h.own m (fun k hk => (h.row k hk).2), h.mod.trans m (fun k hk hl => by have := h.fnew k hk; omega), fun k hk => ?_, fun k hk => ⟨(h.row k hk).1, fun hf => ?_⟩, fun c hc => ?_⟩
  · rcases hF k hk with h2 | h2
    · exact h.fnew k h2
    · exact Nat.le_trans h.mod.size h2
  · rcases hF k hf with h2 | h2
    · exact (h.row k hk).2 h2
    · have := lo k hk; omega
  · obtain ⟨a1, a2, a3⟩ := h.each c hc
    refine ⟨a1.mod m (fun _ k hk => (a3 k hk).2.2.1), a2, fun k hk => ?_⟩
    obtain ⟨b1, b2, b3, b4⟩ := a3 k hk
    refine ⟨b1, Nat.lt_of_lt_of_le b2 m.size, fun hf => ?_, b4⟩
    rcases hF k hf with h2 | h2
    · exact b3 h2
    · omega
theorem OwB.off {S : List Nat} (h : OwB W w b F ord ao cap ins R) (m : Mod S w w') (hS : ∀ k, k ∈ S → W.heap.size ≤ k ∧ k ∉ F ∧ k ∉ blk ao ∧ ∀ c ∈ ins, k ∉ blk c.2.1) : OwB W w' b F ord ao cap ins R := by
  refine ⟨h.bat.mod m (fun k hk hs => (hS k hs).2.1 hk), Own.mod h.own m (fun k hk hs => (hS k hs).2.2.1 hk), h.mod.trans m (fun k hk hl => by have := (hS k hk).1; omega), h.fnew, h.row, fun c hc => ?_⟩
  obtain ⟨a1, a2, a3⟩ := h.each c hc
  refine ⟨a1.mod m (fun _ k hk hs => (hS k hs).2.2.2 c hc hk), a2, fun k hk => ?_⟩
  obtain ⟨b1, b2, b3, b4⟩ := a3 k hk
  exact ⟨b1, Nat.lt_of_lt_of_le b2 m.size, b3, b4⟩
theorem OwB.still (h : OwB W w b F ord ao cap ins R) (m : Mod [] w w') : OwB W w' b F ord ao cap ins R := h.off m (fun _ hk => absurd hk List.not_mem_nil)
theorem OwB.push {c : Cm} (h : OwB W w b F ord ao cap ins R) (o : OwnC w' ao' cap' (ins ++ [c])) (m : Mod (blk ao) w w') (n : SameOrNew w w' ao ao')
    (hc : SeesT w c.2.1 c.1.keys ∧ Wf c.1 ∧ ∀ k, k ∈ blk c.2.1 → W.heap.size ≤ k ∧ k < w.heap.size ∧ k ∉ F ∧ k ∉ blk ao) : OwB W w' b F ord ao' cap' (ins ++ [c]) R := by
  have lf := h.bat.lt
  have z0 := h.mod.size
  have hao : ∀ k, k < w.heap.size → k ∉ blk ao → k ∉ blk ao' := fun k hk hn hb => by
    rcases n.blk k hb with h2 | h2
    · exact hn h2
    · omega
  refine ⟨h.bat.mod m (fun k hk ha => (h.row k ha).2 hk), o, h.mod.trans m (fun k hk hl => by have := (h.row k hk).1; omega), h.fnew, fun k hk => ?_, fun d hd => ?_⟩
  · rcases n.blk k hk with h2 | h2
    · exact h.row k h2
    · exact ⟨by omega, fun hf => by have := lf k hf; omega⟩
  · have hx : SeesT w d.2.1 d.1.keys ∧ Wf d.1 ∧ ∀ k, k ∈ blk d.2.1 → W.heap.size ≤ k ∧ k < w.heap.size ∧ k ∉ F ∧ k ∉ blk ao := by
      rcases List.mem_append.1 hd with hd | hd
      · exact h.each d hd
      · simp only [List.mem_singleton] at hd
        subst hd
        exact hc
    obtain ⟨a1, a2, a3⟩ := hx
    refine ⟨a1.mod m (fun _ k hk => (a3 k hk).2.2.2), a2, fun k hk => ?_⟩
    obtain ⟨b1, b2, b3, b4⟩ := a3 k hk
    exact ⟨b1, Nat.lt_of_lt_of_le b2 m.size, b3, hao k b2 b4⟩
theorem OwB.sees (h : OwB W w b F ord ao cap ins R) : SeesC w ao ins := OwnC.sees h.own (fun c hc => (h.each c hc).1) (fun c hc => (h.each c hc).2.1)
end
theorem OwB.new {W w : World} {b : Nat} {F : List Nat} {ord : Int} {R : List (Cd × Int)} (h : BatR w b F 8 8 0 ord R) (m : Mod [] W w) (n : ∀ k, k ∈ F → W.heap.size ≤ k) : OwB W w b F ord none 0 [] R :=
  ⟨h, Own.nil0 _ _ _, m, n, fun k hk => absurd hk (by simp [blk]), fun c hc => absurd hc (by simp)⟩

/-- What was told: its rows are the law's own, from block B on. -/
structure OwL (B : Nat) (w : World) (F : List Nat) (al : Option Addr) (cl : Nat) (out : List Cm) : Prop where
  own : OwnC w al cl out
  row : ∀ k, k ∈ blk al → B ≤ k ∧ k ∉ F
  each : ∀ c ∈ out, ∃ g l, c.2.1 = some ⟨g, 0, none⟩ ∧ l.length = 1 ∧ OwnM Value.string w 9 (some ⟨g, 0, none⟩) c.2.2 l ∧ B ≤ g ∧ g ∉ F ∧ g ∉ blk al
theorem OwL.mod {B : Nat} {w w' : World} {F F' : List Nat} {al : Option Addr} {cl : Nat} {out : List Cm} (h : OwL B w F al cl out) (m : Mod F w w') (hF : ∀ k, k ∈ F' → k ∈ F ∨ w.heap.size ≤ k) : OwL B w' F' al cl out := by
  refine ⟨Own.mod h.own m (fun k hk => (h.row k hk).2), fun k hk => ⟨(h.row k hk).1, fun hf => ?_⟩, fun c hc => ?_⟩
  · rcases hF k hf with h2 | h2
    · exact (h.row k hk).2 h2
    · have := Own.lt h.own k hk; omega
  · obtain ⟨g, l, a1, a2, a3, a4, a5, a6⟩ := h.each c hc
    have hl := OwnM.lt a3 g (by simp [blk])
    refine ⟨g, l, a1, a2, OwnM.mod a3 m (fun k hk => ?_), a4, fun hf => ?_, a6⟩
    · simp only [blk, List.mem_cons, List.not_mem_nil, or_false] at hk
      subst hk
      exact a5
    · rcases hF g hf with h2 | h2
      · exact a5 h2
      · omega
theorem OwL.still {B : Nat} {w w' : World} {F : List Nat} {al : Option Addr} {cl : Nat} {out : List Cm} (h : OwL B w F al cl out) (m : Mod [] w w') : OwL B w' F al cl out := h.mod m.nil (fun _ hk => .inl hk)
theorem OwL.set {B : Nat} {w : World} {F : List Nat} {al : Option Addr} {cl : Nat} {out : List Cm} (h : OwL B w F al cl out) (g0 : Nat) (hg : g0 ∉ blk al) (x : ByteArray) : OwL B (w.setCell ⟨g0, 0, none⟩ (.string x)) F al cl out := by
  have m : Mod [g0] w (w.setCell ⟨g0, 0, none⟩ (.string x)) := Mod.setCell w _ _ (by simp)
  refine ⟨Own.mod h.own m (fun k hk hs => ?_), h.row, fun c hc => ?_⟩
  · simp only [List.mem_singleton] at hs
    subst hs
    exact hg hk
  · obtain ⟨g, l, a1, a2, a3, a4, a5, a6⟩ := h.each c hc
    by_cases hgg : g = g0
    · subst hgg
      exact ⟨g, l.set 0 x, a1, by rw [List.length_set]; exact a2, OwnM.set a3 x, a4, a5, a6⟩
    · refine ⟨g, l, a1, a2, OwnM.mod a3 m (fun k hk hs => ?_), a4, a5, a6⟩
      simp only [blk, List.mem_cons, List.not_mem_nil, or_false] at hk hs
      omega
theorem OwL.new {w w' : World} {F : List Nat} {ao : Option Addr} {cap : Nat} {out : List Cm} {key : ByteArray} {j : Nat} (h : OutC w w' F ao cap out) (hm : out.map Prod.fst = cds key j) : OwL w.heap.size w' F ao cap out := by
  refine ⟨h.own, fun k hk => ⟨(h.row k hk).1, (h.row k hk).2.1⟩, fun c hc => ?_⟩
  have hk := h.keys c hc
  obtain ⟨i, hi⟩ := cds_mem hm hc
  have hl : c.1.keys.length = 1 := by rw [hi]; rfl
  obtain ⟨g, h1, _, _⟩ := hk.at' (j := 0) (by omega)
  have hg : g ∈ blk c.2.1 := by rw [h1]; simp [blk]
  obtain ⟨b1, b2, b3⟩ := (h.each c hc).2.2.2 g hg
  refine ⟨g, c.1.keys, h1, hl, by rw [← h1]; exact hk, b1, b3, fun ha => ?_⟩
  exact (h.row g ha).2.2 c hc hg
end Go.Proofs.YtigamomoegpefaaDoor
