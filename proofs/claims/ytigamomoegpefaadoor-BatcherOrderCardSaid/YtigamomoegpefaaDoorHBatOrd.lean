/- The walk of the law BatcherOrder. -/
import Derived.Test.YtigamomoegpefaaDoorZ7
import Derived.Test.YtigamomoegpefaaDoorHBatGreat
namespace Go.Proofs.YtigamomoegpefaaDoor
open Go Go.RowKit Go.Lib

def actC (x : Ab) : List Value := [.int .u8 (x.1 : Int), .int .i64 x.2.1, .int .u32 (x.2.2.1.client : Int), .int .u32 (x.2.2.1.seq : Int), .int .u8 (x.2.2.1.kind : Int), .slice x.2.2.2.1 x.2.2.1.keys.length x.2.2.2.2, .string x.2.2.1.old, .string x.2.2.1.fresh, .int .i64 x.2.2.1.n]
def cellsA (l : List Ab) : List Value := l.flatMap actC
theorem cellsA_length (l : List Ab) : (cellsA l).length = l.length * 9 := by
  induction l with
  | nil => rfl
  | cons a r ih => simp only [cellsA, List.flatMap_cons, List.length_append, actC, List.length_cons, List.length_nil] at *; omega
theorem cellsA_at : ∀ (l : List Ab) (j : Nat) (hj : j < l.length) (i : Nat), i < 9 → (cellsA l)[j * 9 + i]? = (actC l[j])[i]? := by
  intro l
  induction l with
  | nil => intro j hj; exact absurd hj (by simp)
  | cons a r ih =>
    intro j hj i hi
    cases j with
    | zero =>
      rw [Nat.zero_mul, Nat.zero_add]
      exact List.getElem?_append_left (show i < (actC a).length from hi)
    | succ j =>
      have e : (j + 1) * 9 + i = 9 + (j * 9 + i) := by omega
      rw [e]
      show (actC a ++ cellsA r)[9 + (j * 9 + i)]? = _
      rw [List.getElem?_append_right (by simp [actC])]
      have := ih j (by simpa using hj) i hi
      simpa [actC] using this
def OwnA (w : World) (ao : Option Addr) (cap : Nat) (l : List Ab) : Prop := Own w 38 9 ao l.length cap (cellsA l)
theorem OwnA.at' {w : World} {ao : Option Addr} {cap : Nat} {l : List Ab} (h : OwnA w ao cap l) {j : Nat} (hj : j < l.length) (i : Nat) (v : Value) (hi : i < 9) (hv : (actC l[j])[i]? = some v) : ∃ g, ao = some ⟨g, 0, none⟩ ∧ w.cell? ⟨g, j * 9 + i, none⟩ = some v := by
  obtain ⟨g, h1, h2, _⟩ := Own.cell h (j := j * 9 + i) (u := v) (by rw [cellsA_at l j hj i hi]; exact hv)
  exact ⟨g, h1, h2⟩
theorem infoAct : (Tryd.prog.info? 38).map (fun i => (i.zero, i.size, i.bytes)) = some (some (.agg #[.int .u8 0, .int .i64 0, .int .u32 0, .int .u32 0, .int .u8 0, .slice none 0 0, .string ⟨#[]⟩, .string ⟨#[]⟩, .int .i64 0]), 9, 96) := by kernel_rfl
theorem wpl_appA {w : World} {ops : Array Oper} {rest : List Oper} {a : Act} {Q : Exit → Act → World → Prop} {dst : Option Tmp} {ty : TypeId} {pos : String} {after : Array Edge} (s x : Operand)
    (ao : Option Addr) (n cap : Nat) (xs : List Ab) (hs : a.eval s = .slice ao n cap) (hn : xs.length = n) (hown : OwnA w ao cap xs)
    (so : Option Addr) (y : Ab) (c : Nat) (hx : a.eval x = .slice so 1 c) (hsh : Shows w so (cellsA [y])) (hb : n + 1 ≤ 1000000)
    (h : ∀ ao' cap' w', OwnA w' ao' cap' (xs ++ [y]) → Mod (blk ao) w w' → SameOrNew w w' ao ao' → wpList Tryd.prog ops Q rest (a.put dst (.slice ao' (n + 1) cap')) w') :
    wpList Tryd.prog ops Q (⟨dst, .call { callee := .builtin .append, args := #[s, x], argTypes := #[24, 24] }, ty, pos, after, none⟩ :: rest) a w := by
  obtain ⟨i0, hi, hz0, hz1, hz2⟩ := info_parts infoAct
  subst hn
  refine wpl_append w rfl s x 24 rfl 38 i0 _ 9 96 Tryd.underlying24 hi hz0 hz1 hz2 rfl (by decide) ao _ cap _ hs hown so 1 c (cellsA [y]) hx (cellsA_length [y]) hsh ?_ (by unfold maxLen; omega) (by omega) ?_
  · intro u hu
    obtain ⟨x, hx, hu⟩ := List.mem_flatMap.1 hu
    simp only [actC, List.mem_cons, List.not_mem_nil, or_false] at hu
    rcases hu with rfl | rfl | rfl | rfl | rfl | rfl | rfl | rfl | rfl <;> rfl
  · intro ao' cap' w' h1 h2 h3
    refine h ao' cap' w' ?_ h2 h3
    unfold OwnA cellsA
    rw [List.length_append, List.flatMap_append]
    exact h1
theorem showsA {w : World} {g : Nat} {x : Ab} {t : TypeId} {z : Nat × Nat} (h : w.heap[g]? = some (.cells (actC x).toArray t z)) : Shows w (some ⟨g, 0, none⟩) (cellsA [x]) := by
  intro j u hj
  refine ⟨_, rfl, ?_⟩
  rw [Addr.add_lit, cell_of_block h, Nat.zero_add]
  have : cellsA [x] = actC x := by simp [cellsA]
  rw [this] at hj
  rw [← hj]
  simp

/-- What waits behind puts at time 0. -/
def rA (ag : Int) (l : List Ab) : List (Cd × Int) := l.map fun x => (x.2.2.1, 0 + ag - x.2.1)
/-- Those that waited as long. -/
def ofN (l : List Ab) (v : Int) : List Ab := l.filter fun x => decide (x.2.1 = v)
/-- The first k rounds: from those on that waited longest. -/
def wants (ag : Int) (l : List Ab) (k : Nat) : List Ab := (List.range k).flatMap fun (d : Nat) => ofN l (ag - (d : Int))
theorem wants_succ (ag : Int) (l : List Ab) (k : Nat) : wants ag l (k + 1) = wants ag l k ++ ofN l (ag - (k : Int)) := by
  unfold wants
  rw [List.range_succ, List.flatMap_append]
  simp
theorem ofN_take (l : List Ab) (v : Int) (k : Nat) (hk : k < l.length) : ofN (l.take (k + 1)) v = ofN (l.take k) v ++ (if l[k].2.1 = v then [l[k]] else []) := by
  unfold ofN
  rw [take_snoc l k hk, List.filter_append]
  congr 1
  by_cases h : l[k].2.1 = v <;> simp [h]
def dues (n : Nat) : List Int := (List.range n).map fun (d : Nat) => (d : Int)
theorem dues_sorted (n : Nat) : (dues n).Pairwise (· < ·) := by
  unfold dues
  rw [List.pairwise_map]
  exact List.pairwise_lt_range.imp (fun h => by omega)
theorem byDue_rA (ag : Int) (l : List Ab) : ∀ k, byDue (rA ag l) (dues k) = (wants ag l k).map fun x => x.2.2.1 := by
  intro k
  induction k with
  | zero => rfl
  | succ k ih =>
    rw [wants_succ, List.map_append, ← ih]
    unfold byDue dues
    rw [List.range_succ, List.map_append, List.flatMap_append]
    congr 1
    simp only [List.map_cons, List.map_nil, List.flatMap_cons, List.flatMap_nil, List.append_nil]
    unfold rA ofN
    rw [List.filter_map, List.map_map]
    have : (fun x : Ab => decide (x.2.1 = ag - (k : Int))) = ((fun e : Cd × Int => decide (e.2 = (k : Int))) ∘ fun x : Ab => (x.2.2.1, 0 + ag - x.2.1)) := by
      funext x
      simp only [Function.comp]
      exact Bool.eq_iff_iff.2 (by rw [decide_eq_true_iff, decide_eq_true_iff]; omega)
    rw [this]
    rfl
/-- All that wait, told at once. -/
theorem flush_all (an : Nat) (l : List Ab) (hl : l.length ≤ 64) (hN : ∀ x ∈ l, 0 ≤ x.2.1 ∧ x.2.1 ≤ (an : Int)) :
    takeN 64 (rA (an : Int) l) = ((wants (an : Int) l (an + 1)).map (fun x => x.2.2.1), []) ∧ (wants (an : Int) l (an + 1)).length = l.length := by
  have h1 : takeN 64 (rA (an : Int) l) = (byDue (rA (an : Int) l) (dues (an + 1)), []) := takeN_byDue _ (dues_sorted _) 64 _ (by simp [rA]; exact hl) (fun e he => by
    obtain ⟨x, hx, rfl⟩ := List.mem_map.1 he
    have := hN x hx
    refine List.mem_map.2 ⟨((an : Int) - x.2.1).toNat, List.mem_range.2 (by omega), ?_⟩
    show (((an : Int) - x.2.1).toNat : Int) = 0 + (an : Int) - x.2.1
    omega)
  rw [byDue_rA] at h1
  refine ⟨h1, ?_⟩
  have h2 := (takeN_len 64 (rA (an : Int) l)).1
  rw [h1] at h2
  simp only [List.length_map] at h2
  rw [h2]
  simp [rA]
  omega
theorem wants_mem {ag : Int} {l : List Ab} {k : Nat} {x : Ab} (h : x ∈ wants ag l k) : x ∈ l := by
  obtain ⟨d, _, hx⟩ := List.mem_flatMap.1 h
  exact (List.mem_filter.1 hx).1
theorem ofN_len (l : List Ab) (v : Int) : (ofN l v).length ≤ l.length := List.length_filter_le _ _
theorem wants_len (ag : Int) (l : List Ab) (k : Nat) : (wants ag l k).length ≤ k * l.length := by
  induction k with
  | zero => simp [wants]
  | succ k ih =>
    rw [wants_succ, List.length_append, Nat.succ_mul]
    have := ofN_len l (ag - (k : Int))
    omega

/-- A batcher behind puts, and the row of those that were put, in a law that was at W. -/
structure OrS (W w : World) (b : Nat) (F : List Nat) (ba ag ord : Int) (ao : Option Addr) (cap : Nat) (ins : List Ab) (R : List (Cd × Int)) : Prop where
  bat : BatR w b F ba ag 0 ord R
  own : OwnA w ao cap ins
  mod : Mod [] W w
  fnew : ∀ k, k ∈ F → W.heap.size ≤ k
  row : ∀ k, k ∈ blk ao → W.heap.size ≤ k ∧ k ∉ F
  each : ∀ x ∈ ins, SeesT W x.2.2.2.1 x.2.2.1.keys ∧ Wf x.2.2.1 ∧ 0 ≤ x.2.1 ∧ x.2.1 ≤ ag
theorem OrS.batE {W w w' : World} {b : Nat} {F F' : List Nat} {ba ag ord ord' : Int} {ao : Option Addr} {cap : Nat} {ins : List Ab} {R R' : List (Cd × Int)} (h : OrS W w b F ba ag ord ao cap ins R)
    (h1 : BatR w' b F' ba ag 0 ord' R') (m : Mod F w w') (hF : ∀ k, k ∈ F' → k ∈ F ∨ w.heap.size ≤ k) : OrS W w' b F' ba ag ord' ao cap ins R' := by
  refine ⟨h1, Own.mod h.own m (fun k hk => (h.row k hk).2), h.mod.trans m (fun k hk hl => by have := h.fnew k hk; omega), fun k hk => ?_, fun k hk => ⟨(h.row k hk).1, fun hf => ?_⟩, h.each⟩
  · rcases hF k hk with h2 | h2
    · exact h.fnew k h2
    · exact Nat.le_trans h.mod.size h2
  · rcases hF k hf with h2 | h2
    · exact (h.row k hk).2 h2
    · have := Own.lt h.own k hk; omega
theorem OrS.still {W w w' : World} {b : Nat} {F : List Nat} {ba ag ord : Int} {ao : Option Addr} {cap : Nat} {ins : List Ab} {R : List (Cd × Int)} (h : OrS W w b F ba ag ord ao cap ins R) (m : Mod [] w w') : OrS W w' b F ba ag ord ao cap ins R :=
  h.batE (h.bat.mod0 m) m.nil (fun _ hk => .inl hk)
theorem OrS.push {W w w' : World} {b : Nat} {F : List Nat} {ba ag ord : Int} {ao ao' : Option Addr} {cap cap' : Nat} {ins : List Ab} {R : List (Cd × Int)} {x : Ab} (h : OrS W w b F ba ag ord ao cap ins R)
    (o : OwnA w' ao' cap' (ins ++ [x])) (m : Mod (blk ao) w w') (n : SameOrNew w w' ao ao') (hx : SeesT W x.2.2.2.1 x.2.2.1.keys ∧ Wf x.2.2.1 ∧ 0 ≤ x.2.1 ∧ x.2.1 ≤ ag) : OrS W w' b F ba ag ord ao' cap' (ins ++ [x]) R := by
  refine ⟨h.bat.mod m (fun k hk ha => (h.row k ha).2 hk), o, h.mod.trans m (fun k hk hl => by have := (h.row k hk).1; omega), h.fnew, fun k hk => ?_, fun y hy => ?_⟩
  · rcases n.blk k hk with h2 | h2
    · exact h.row k h2
    · exact ⟨Nat.le_trans h.mod.size h2, fun hf => by have := h.bat.lt k hf; omega⟩
  · rcases List.mem_append.1 hy with hy | hy
    · exact h.each y hy
    · simp only [List.mem_singleton] at hy
      subst hy
      exact hx
theorem putE_zero {ag : Int} {l : List Ab} {c : Cd} {N : Int} (h : putE ag (rA ag l) c N = 0) : 0 ≤ N ∧ N ≤ ag := by
  unfold putE at h
  split at h
  · rename_i hc; exact hc.2
  · exact absurd h (by decide)
theorem putE_cases (ag : Int) (R : List (Cd × Int)) (c : Cd) (N : Int) : putE ag R c N = 0 ∨ putE ag R c N = 1 ∨ putE ag R c N = 30 := by
  unfold putE
  split
  · split
    · exact .inr (.inr rfl)
    · exact .inl rfl
  · exact .inr (.inl rfl)
set_option maxRecDepth 100000 in
set_option maxHeartbeats 8000000 in
theorem batcherOrder_any (cn wi ba ag sn : Int) (ao : Option Addr) (len cap : Nat) (l : List Ab) (w : World) (hl : l.length = len) (hlen : len ≤ 9223372036854775807) (hs : SeesA w ao l) (ht : Cnt w) :
    Calls Tryd.prog 6 #[.agg #[.int .i64 cn, .int .i64 wi, .int .i64 ba, .int .i64 ag, .int .i64 sn], .slice ao len cap] w fun e w' => e = .returned (.bool true) ∧ Mod [] w w' := by
  subst hl
  have hbx := heap_alloc_new w (.cells #[.int .i64 cn, .int .i64 wi, .int .i64 ba, .int .i64 ag, .int .i64 sn] 23)
  have m1 := Mod.alloc [] w (.cells #[.int .i64 cn, .int .i64 wi, .int .i64 ba, .int .i64 ag, .int .i64 sn] 23)
  obtain ⟨w1, hw1⟩ : ∃ x, w.alloc (.cells #[.int .i64 cn, .int .i64 wi, .int .i64 ba, .int .i64 ag, .int .i64 sn] 23) = x := ⟨_, rfl⟩
  rw [hw1] at hbx m1
  have HT := Lib.hid ht
  have HG := Lib.hid (great19_any ao l.length cap l w1 rfl (hs.mod0 m1) hlen)
  have HS := Lib.hid (hs.mod0 m1)
  have HBX := Lib.hid hbx
  have M1 := Lib.hid m1
  clear hs ht hbx m1
  go_enter Tryd.func6, Tryd.ntmps6
  go_wp2_with fail
  refine HG.out.mono ?_
  rintro e w2 ⟨gb, rfl, m2, hgr⟩
  have M2 := Lib.hid (M1.out.trans' m2)
  have HBX2 := Lib.hid (m2.get HBX.out List.not_mem_nil)
  have HS2 := Lib.hid (HS.out.mod0 m2)
  have HWK := Lib.hid (wakes19_any w2 (HT.out.mod0 M2.out))
  clear m2 HG HBX M1 hw1 HS
  cases gb
  case true =>
    clear hgr
    go_wp2_with fail
    refine HWK.out.mono ?_
    rintro e w3 ⟨rfl, m3⟩
    have M3 := Lib.hid (M2.out.trans' m3)
    clear m3
    go_wp2_with fail
    go_ret
    exact ⟨rfl, M3.out⟩
  have h200 := hgr rfl
  clear hgr
  by_cases h64 : 64 < l.length
  · have D64 : decide ((64 : Int) < (l.length : Int)) = true := decide_eq_true (by omega)
    go_wp2_with fail
    refine HWK.out.mono ?_
    rintro e w3 ⟨rfl, m3⟩
    have M3 := Lib.hid (M2.out.trans' m3)
    clear m3
    go_wp2_with fail
    go_ret
    exact ⟨rfl, M3.out⟩
  have D64 : decide ((64 : Int) < (l.length : Int)) = false := decide_eq_false (by omega)
  clear HWK
  have c0 := cell_of_block (i := 0) HBX2.out
  have c1 := cell_of_block (i := 1) HBX2.out
  have c2 := cell_of_block (i := 2) HBX2.out
  have c3 := cell_of_block (i := 3) HBX2.out
  have c4 := cell_of_block (i := 4) HBX2.out
  by_cases hcf : CfgOk ba ag
  case neg =>
    have HN := Lib.hid (bnew_bad cn wi ba ag sn w2 hcf)
    have hq : decide (ba < 1) = true ∨ (decide (ba < 1) = false ∧ decide (8 < ba) = true) ∨ (decide (ba < 1) = false ∧ decide (8 < ba) = false ∧ decide (ag < 1) = true) ∨ (decide (ba < 1) = false ∧ decide (8 < ba) = false ∧ decide (ag < 1) = false ∧ decide (8 < ag) = true) := by
      simp only [decide_eq_true_eq, decide_eq_false_iff_not]
      unfold CfgOk at hcf
      omega
    clear hcf
    go_wp2_with fail
    refine HN.out.mono ?_
    rintro e w3 ⟨rfl, m3⟩
    have M3 := Lib.hid (M2.out.trans' m3)
    have HBX3 := Lib.hid (m3.get HBX2.out List.not_mem_nil)
    have HWK := Lib.hid (wakes19_any w3 (HT.out.mod0 M3.out))
    clear c0 c1 c2 c3 c4
    have c2 := cell_of_block (i := 2) HBX3.out
    have c3 := cell_of_block (i := 3) HBX3.out
    clear m3 HN HBX2 M2
    rcases hq with D1 | ⟨D1, D2⟩ | ⟨D1, D2, D3⟩ | ⟨D1, D2, D3, D4⟩
    all_goals
      go_wp2_with fail
      refine HWK.out.mono ?_
      rintro e w5 ⟨rfl, m5⟩
      have M5 := Lib.hid (M3.out.trans' m5)
      clear m5
      go_wp2_with fail
      go_ret
      exact ⟨rfl, M5.out⟩
  have HN := Lib.hid (bnew_ok cn wi ba ag sn w2 hcf)
  obtain ⟨an, rfl⟩ : ∃ an : Nat, ag = (an : Int) := ⟨ag.toNat, by have := hcf.2.2; omega⟩
  have han : an ≤ 8 := by have := hcf.2.2; omega
  clear hcf
  go_wp2_with fail
  refine HN.out.mono ?_
  rintro e w3 ⟨b, F, rfl, b3, m3, n3⟩
  have S3 : Hid (OrS w2 w3 b F ba (an : Int) 0 none 0 [] (rA (an : Int) [])) := Lib.hid ⟨b3, Own.nil0 _ _ _, m3, n3, fun k hk => absurd hk (by simp [blk]), fun x hx => absurd hx (by simp)⟩
  clear b3 m3 n3 HN c0 c1 c2 c3 c4
  go_wp2_with fail
  go_loopw [7, 8] (fun s i wr => ∃ (j : Nat) (F' : List Nat) (ao' : Option Addr) (c' : Nat) (ins : List Ab) (n : Nat) (ord : Int), s = .slice ao' n c' ∧ i = .int .i64 (j : Int) ∧ j ≤ l.length ∧ ins.length = n ∧ OrS w2 wr b F' ba (an : Int) ord ao' c' ins (rA (an : Int) ins) ∧ n ≤ j ∧ 0 ≤ ord ∧ ord ≤ (j : Int)) (fun _ i _ => l.length - (intOf i).toNat)
  case atStart => exact ⟨0, F, none, 0, [], 0, 0, rfl, rfl, by omega, rfl, S3.out, by omega, by omega, by omega⟩
  case round =>
    obtain ⟨j, F', ao', c', ins, n, ord, rfl, rfl, hj, hn, hp, hnj, o1, o2⟩ := hrel
    have P := Lib.hid hp
    have HNN := Lib.hid hn
    clear hp S3 hn
    by_cases hjl : j < l.length
    case neg =>
      have hje : j = l.length := by omega
      subst hje
      clear hjl
      rename World => wE
      have HBXr := Lib.hid (P.out.mod.get HBX2.out List.not_mem_nil)
      have c3 := cell_of_block (i := 3) HBXr.out
      go_wp2_with fail
      clear c3
      go_loopw [9, 10] (fun s i wx => ∃ (k : Nat) (v : Int) (xs : List Ab) (m : Nat) (ao2 : Option Addr) (c2 : Nat), s = .slice ao2 m c2 ∧ i = .int .i64 v ∧ v = (an : Int) - (k : Int) ∧ k ≤ an + 1 ∧ xs.length = m ∧ xs = wants (an : Int) ins k ∧ OwnC wx ao2 c2 (xs.map fun x => x.2.2) ∧ Mod [] wE wx ∧ ∀ y, y ∈ blk ao2 → wE.heap.size ≤ y) (fun _ i _ => (intOf i + 1).toNat)
      case atStart => exact ⟨0, (an : Int), [], 0, none, 0, rfl, rfl, by omega, by omega, rfl, rfl, Own.nil0 _ _ _, Mod.refl _ _, fun y hy => absurd hy (by simp [blk])⟩
      case round =>
        rename World => wx
        obtain ⟨k, v, xs, m, ao2, c2, rfl, rfl, hv, hk, hm, hx, ho2, hm2, hn2⟩ := hrel
        have HV := Lib.hid hv
        have HX := Lib.hid hx
        have HM := Lib.hid hm
        have O2 := Lib.hid ho2
        have M2x := Lib.hid hm2
        have N2 := Lib.hid hn2
        clear hx ho2 hm2 hn2 hm
        by_cases hke : k < an + 1
        case neg =>
          have hke' : k = an + 1 := by omega
          subst hke'
          have D : decide ((0 : Int) ≤ v) = false := decide_eq_false (by omega)
          have hn64 : n ≤ 64 := by omega
          obtain ⟨hfa, hfl⟩ := flush_all an ins (by rw [HNN.out]; exact hn64) (fun x hx => (P.out.each x hx).2.2)
          have hmn : m = n := by rw [← HM.out, HX.out, hfl, HNN.out]
          subst hmn
          have HLN := Lib.hid (blen_any b F' ba (an : Int) 0 ord (rA (an : Int) ins) wx (P.out.bat.mod0 M2x.out))
          rw [show (rA (an : Int) ins).length = m by rw [← HNN.out]; simp [rA]] at HLN
          have HFL := Lib.hid (bflush_any b F' ba (an : Int) 0 ord (rA (an : Int) ins) wx (P.out.bat.mod0 M2x.out))
          have HFA := Lib.hid hfa
          have mm : ((m : Int) != (m : Int)) = false := by simp
          clear hfa hfl hv hk hke
          go_wp2_with fail
          refine HLN.out.mono ?_
          rintro e w8 ⟨rfl, rfl⟩
          go_wp2_with fail
          refine HFL.out.mono ?_
          rintro e w9 ⟨ao5, cap5, out, F5, rfl, h1, b5, m5, n5, o5⟩
          rw [HFA.out] at h1 b5
          dsimp only at h1 b5
          have hF' : ∀ y, y ∈ F' → y < wE.heap.size := P.out.bat.lt
          have hown : OwnC w9 ao2 c2 (xs.map fun x => x.2.2) := Own.mod O2.out m5 (fun y hy hf => by have := N2.out y hy; have := hF' y hf; omega)
          have M9 : Hid (Mod [] w2 w9) := Lib.hid ((P.out.mod.trans' M2x.out).trans m5 (fun y hy _ => by have := P.out.fnew y hy; omega))
          have hsx : SeesC w9 ao2 (xs.map fun x => x.2.2) := OwnC.sees hown (fun c hc => by
            obtain ⟨x, hx, rfl⟩ := List.mem_map.1 hc
            rw [HX.out] at hx
            exact (P.out.each x (wants_mem hx)).1.mod0 M9.out) (fun c hc => by
            obtain ⟨x, hx, rfl⟩ := List.mem_map.1 hc
            rw [HX.out] at hx
            exact (P.out.each x (wants_mem hx)).2.1)
          have hol : out.length = m := by
            have h2 := congrArg List.length h1
            rw [List.length_map, List.length_map, ← HX.out, HM.out] at h2
            exact h2
          have HAL := all_any ao5 out.length cap5 out ao2 m c2 (xs.map fun x => x.2.2) w9 rfl (by rw [List.length_map]; exact HM.out) (by omega) (by omega) o5.sees hsx
          rw [decide_eq_true (show out.map Prod.fst = (xs.map fun x => x.2.2).map Prod.fst by rw [h1, HX.out, List.map_map]; rfl)] at HAL
          have HA := Lib.hid HAL
          have B9 := Lib.hid b5
          have B5N : Hid (∀ y, y ∈ F5 → w2.heap.size ≤ y) := Lib.hid (fun y hy => by
            rcases n5 y hy with h2 | h2
            · exact P.out.fnew y h2
            · exact Nat.le_trans (P.out.mod.trans' M2x.out).size h2)
          clear HAL h1 b5 m5 n5 o5 hown hsx hF' HFL HLN hol
          go_wp2_with fail
          refine HA.out.mono ?_
          rintro e w10 ⟨rfl, m10⟩
          have B10 := Lib.hid (B9.out.mod0 m10)
          have M10 := Lib.hid (M9.out.trans' m10)
          have HLN := Lib.hid (blen_any b F5 ba (an : Int) 0 ord [] w10 B10.out)
          have HFL := Lib.hid (bflush_any b F5 ba (an : Int) 0 ord [] w10 B10.out)
          clear m10 B9 M9 HA
          go_wp2_with fail
          refine HLN.out.mono ?_
          rintro e w11 ⟨rfl, rfl⟩
          go_wp2_with fail
          refine HFL.out.mono ?_
          rintro e w12 ⟨ao6, cap6, out6, F6, rfl, h1, -, m6, -, -⟩
          have h60 : out6 = [] := by
            rw [takeN_nil] at h1
            exact List.map_eq_nil_iff.1 h1
          subst h60
          have M12 : Hid (Mod [] w2 w12) := Lib.hid (M10.out.trans m6 (fun y hy _ => by have := B5N.out y hy; omega))
          have HWK := Lib.hid (wakes19_any w12 (HT.out.mod0 (M2.out.trans' M12.out)))
          clear h1 m6 HFL HLN
          go_wp2_with fail
          refine HWK.out.mono ?_
          rintro e w13 ⟨rfl, m13⟩
          have M13 := Lib.hid ((M2.out.trans' M12.out).trans' m13)
          clear m13
          go_wp2_with fail
          go_ret
          exact ⟨rfl, M13.out⟩
        have D : decide ((0 : Int) ≤ v) = true := decide_eq_true (by omega)
        have hv2 : 0 ≤ v ∧ v ≤ 8 := by omega
        have e1 : IntKind.i64.wrap (v - 1) = v - 1 := IntWalk.i64_in _ (by omega)
        clear hv
        go_wp2_with fail
        go_loopw [9, 11] (fun s i wy => ∃ (q : Nat) (ys : List Ab) (m3 : Nat) (ao3 : Option Addr) (c3 : Nat), s = .slice ao3 m3 c3 ∧ i = .int .i64 (q : Int) ∧ q ≤ n ∧ ys.length = m3 ∧ ys = xs ++ ofN (ins.take q) v ∧ OwnC wy ao3 c3 (ys.map fun x => x.2.2) ∧ Mod [] wE wy ∧ ∀ y, y ∈ blk ao3 → wE.heap.size ≤ y) (fun _ i _ => n - (intOf i).toNat)
        case atStart => exact ⟨0, xs, m, ao2, c2, rfl, rfl, Nat.zero_le _, HM.out, by simp [ofN], O2.out, M2x.out, N2.out⟩
        case round =>
          rename World => wy
          obtain ⟨q, ys, m3, ao3, c3, rfl, rfl, hq, hm3, hy, ho3, hmm3, hn3⟩ := hrel
          have HY := Lib.hid hy
          have HM3 := Lib.hid hm3
          have O3 := Lib.hid ho3
          have M3x := Lib.hid hmm3
          have N3 := Lib.hid hn3
          have hm600 : m3 ≤ 1000 := by
            rw [← HM3.out, HY.out, List.length_append, HX.out]
            have h1 := wants_len (an : Int) ins k
            have h2 := ofN_len (ins.take q) v
            have h3 : (ins.take q).length ≤ 64 := by rw [List.length_take, HNN.out]; omega
            have h4 : k * ins.length ≤ 8 * 64 := Nat.mul_le_mul (by omega) (by rw [HNN.out]; omega)
            omega
          clear hy ho3 hmm3 hn3 hm3 O2 M2x N2
          by_cases hql : q < n
          case neg =>
            have hqe : q = n := by omega
            subst hqe
            clear hql
            go_wp2_with fail
            go_roundw
            case rel => exact ⟨k + 1, v - 1, ys, m3, ao3, c3, rfl, rfl, by have := HV.out; omega, by omega, HM3.out, by rw [HY.out, wants_succ, HX.out, ← HV.out, List.take_of_length_le (by rw [HNN.out]; exact Nat.le_refl _)], O3.out, M3x.out, N3.out⟩
            case measure => simp [intOf]; omega
          have hqi : q < ins.length := by rw [HNN.out]; exact hql
          have hoA : OwnA wE ao' c' ins := P.out.own
          have hoB : OwnA wy ao' c' ins := Own.mod hoA M3x.out (fun _ _ => List.not_mem_nil)
          obtain ⟨g, rfl, d1⟩ := hoB.at' hqi 1 _ (by omega) rfl
          obtain ⟨_, hg2, d2⟩ := hoB.at' hqi 2 _ (by omega) rfl; cases hg2
          obtain ⟨_, hg2, d3⟩ := hoB.at' hqi 3 _ (by omega) rfl; cases hg2
          obtain ⟨_, hg2, d4⟩ := hoB.at' hqi 4 _ (by omega) rfl; cases hg2
          obtain ⟨_, hg2, d5⟩ := hoB.at' hqi 5 _ (by omega) rfl; cases hg2
          obtain ⟨_, hg2, d6⟩ := hoB.at' hqi 6 _ (by omega) rfl; cases hg2
          obtain ⟨_, hg2, d7⟩ := hoB.at' hqi 7 _ (by omega) rfl; cases hg2
          obtain ⟨_, hg2, d8⟩ := hoB.at' hqi 8 _ (by omega) rfl; cases hg2
          have hsn := ofN_take ins v q hqi
          obtain ⟨⟨dd, N, c⟩, hx⟩ : ∃ x, ins[q] = x := ⟨_, rfl⟩
          rw [hx] at d1 d2 d3 d4 d5 d6 d7 d8 hsn
          dsimp only at d1 d2 d3 d4 d5 d6 d7 d8 hsn
          have HSN := Lib.hid hsn
          clear hsn hx hoA hoB
          have hqn : (q : Int) < (n : Int) := by omega
          by_cases hNv : N = v
          · have DN : (N == v) = true := by simpa using hNv
            have HNV := Lib.hid hNv
            have hb9 := heap_alloc_new wy (.cells #[.int .u32 (c.1.client : Int), .int .u32 (c.1.seq : Int), .int .u8 (c.1.kind : Int), .slice c.2.1 c.1.keys.length c.2.2, .string c.1.old, .string c.1.fresh, .int .i64 c.1.n] 36)
            have m9 := Mod.alloc [] wy (.cells #[.int .u32 (c.1.client : Int), .int .u32 (c.1.seq : Int), .int .u8 (c.1.kind : Int), .slice c.2.1 c.1.keys.length c.2.2, .string c.1.old, .string c.1.fresh, .int .i64 c.1.n] 36)
            have HSH := Lib.hid (showsC (x := c) hb9)
            have O9 : Hid (OwnC _ ao3 c3 (ys.map fun x => x.2.2)) := Lib.hid (Own.mod O3.out m9 (fun _ _ => List.not_mem_nil))
            have M9 := Lib.hid (M3x.out.trans' m9)
            have hol : (ys.map fun x => x.2.2).length = m3 := by rw [List.length_map]; exact HM3.out
            have hol6 : m3 + 1 ≤ 1000000 := by omega
            clear hb9 m9 hNv
            go_wp2_with (at_builtin; refine wpl_appC (dst := some 105) _ _ ao3 m3 c3 (ys.map fun x => x.2.2) rfl hol O9.out _ c rfl HSH.out hol6 ?_)
            intro ao4 c4 w4 o4 m4 n4
            have O4 := Lib.hid o4
            have M4 : Hid (Mod [] wE w4) := Lib.hid (M9.out.trans m4 (fun y hy hl => by have := N3.out y hy; omega))
            have N4 : Hid (∀ y, y ∈ blk ao4 → wE.heap.size ≤ y) := Lib.hid (fun y hy => by
              rcases n4.blk y hy with h2 | h2
              · exact N3.out y h2
              · exact Nat.le_trans M9.out.size h2)
            clear o4 m4 n4 hol
            go_wp2_with fail
            go_roundw
            case rel => exact ⟨q + 1, ys ++ [(dd, N, c)], m3 + 1, ao4, c4, rfl, by go_num, by omega, by rw [List.length_append, HM3.out]; rfl, by rw [HY.out, HSN.out, if_pos HNV.out, List.append_assoc], by rw [List.map_append]; exact O4.out, M4.out, N4.out⟩
            case measure => simp [intOf]; omega
          · have DN : (N == v) = false := by simpa using hNv
            have HNV := Lib.hid hNv
            clear hNv
            go_wp2_with fail
            go_roundw
            case rel => exact ⟨q + 1, ys, m3, ao3, c3, rfl, by go_num, by omega, HM3.out, by rw [HY.out, HSN.out, if_neg HNV.out, List.append_nil], O3.out, M3x.out, N3.out⟩
            case measure => simp [intOf]; omega
    obtain ⟨ab, off, rfl, ha⟩ := HS2.out.act hjl
    obtain ⟨_, _, -, -, hk0, hw0⟩ := HS2.out j hjl
    obtain ⟨⟨d, N, c⟩, hx⟩ : ∃ x, l[j] = x := ⟨_, rfl⟩
    rw [hx] at ha hk0 hw0
    dsimp only at ha hk0 hw0
    have HA := Lib.hid ha
    have HK := Lib.hid hk0
    have HW := Lib.hid hw0
    have hjl2 : (j : Int) < (l.length : Int) := by omega
    clear hx ha hk0 hw0
    obtain ⟨-, a1, -⟩ := HA.out w2 (Mod.refl _ _)
    have hab := World.block_lt_of_cell? w2 _ a1
    have habF : ab ∉ F' := fun hk => by have := P.out.fnew ab hk; have hab : ab < w2.heap.size := hab; omega
    have HAF := Lib.hid habF
    clear a1 hab
    go_upto_region 10 with (fail)
    refine rest_start F' 13 #[false, false, false, false, false, false, false, false, false, false, false, false, false] rfl (by kernel_rfl) (by kernel_rfl) ?_
    intro w6 m6
    have P6 := Lib.hid (P.out.still m6)
    obtain ⟨a0, a1, a2, a3, a4, a5, a6, a7, a8⟩ := HA.out w6 P6.out.mod
    have LC : Hid (∀ w', Mod F' w6 w' → w'.cell? ⟨ab, off + j * 9 + 2, none⟩ = some (.int .u32 (c.1.client : Int)) ∧ w'.cell? ⟨ab, off + j * 9 + 3, none⟩ = some (.int .u32 (c.1.seq : Int)) ∧ w'.cell? ⟨ab, off + j * 9 + 4, none⟩ = some (.int .u8 (c.1.kind : Int)) ∧ w'.cell? ⟨ab, off + j * 9 + 5, none⟩ = some (.slice c.2.1 c.1.keys.length c.2.2) ∧
      w'.cell? ⟨ab, off + j * 9 + 6, none⟩ = some (.string c.1.old) ∧ w'.cell? ⟨ab, off + j * 9 + 7, none⟩ = some (.string c.1.fresh) ∧ w'.cell? ⟨ab, off + j * 9 + 8, none⟩ = some (.int .i64 c.1.n)) := Lib.hid (fun w' m => ⟨m.cell a2 HAF.out, m.cell a3 HAF.out, m.cell a4 HAF.out, m.cell a5 HAF.out, m.cell a6 HAF.out, m.cell a7 HAF.out, m.cell a8 HAF.out⟩)
    have HPB := Lib.hid (bput_any b F' ba (an : Int) 0 ord (rA (an : Int) ins) c N w6 P6.out.bat (by omega) (by omega) (by omega) HW.out (HK.out.mod0 P6.out.mod) (fun hne k hk hf => by
      have := HK.out.lt hne k hk
      have := P6.out.fnew k hf
      omega) (HT.out.mod0 (M2.out.trans' P6.out.mod)))
    clear m6 a0 a2 a3 a4 a5 a6 a7 a8
    refine rest_got (i := 0) (v := ?v1) rfl (by kernel_rfl) (by kernel_rfl) (by kernel_rfl) (fun _ _ _ h => h) (by rfl) ?y1 ?r1
    case y1 => (intro w9q hSwq; clear hSwq; go_simp; with_reducible rfl)
    try simp only [Act.put, List.setIfInBounds_toArray, List.set_cons_zero, List.set_cons_succ]
    refine rest_got (i := 1) (v := ?v2) rfl (by kernel_rfl) (by kernel_rfl) (by kernel_rfl) (fun _ _ _ h => h) (by rfl) ?y2 ?r2
    case y2 => (intro w9q hSwq; clear hSwq; go_simp; with_reducible rfl)
    try simp only [Act.put, List.setIfInBounds_toArray, List.set_cons_zero, List.set_cons_succ]
    refine rest_got (i := 2) (v := ?v3) rfl (by kernel_rfl) (by kernel_rfl) (by kernel_rfl) (fun _ _ _ h => h) (by rfl) ?y3 ?r3
    case y3 => (intro w9q hSwq; clear hSwq; go_simp; with_reducible rfl)
    try simp only [Act.put, List.setIfInBounds_toArray, List.set_cons_zero, List.set_cons_succ]
    refine rest_got (i := 3) (v := ?v4) rfl (by kernel_rfl) (by kernel_rfl) (by kernel_rfl) (fun _ _ _ h => h) (by rfl) ?y4 ?r4
    case y4 => (intro w9q hSwq; clear hSwq; go_simp; with_reducible rfl)
    try simp only [Act.put, List.setIfInBounds_toArray, List.set_cons_zero, List.set_cons_succ]
    refine rest_got (i := 4) (v := ?v5) rfl (by kernel_rfl) (by kernel_rfl) (by kernel_rfl) (fun _ _ _ h => h) (by rfl) ?y5 ?r5
    case y5 => (intro w9q hSwq; clear hSwq; go_simp; with_reducible rfl)
    try simp only [Act.put, List.setIfInBounds_toArray, List.set_cons_zero, List.set_cons_succ]
    refine rest_got (i := 5) (v := ?v6) rfl (by kernel_rfl) (by kernel_rfl) (by kernel_rfl) (fun _ _ _ h => h) (by rfl) ?y6 ?r6
    case y6 => ((intro w9' hm9'; obtain ⟨hc0', hc1', hc2', hc3', hc4', hc5', hc6'⟩ := LC.out w9' hm9'; clear hm9'; go_simp; with_reducible rfl))
    try simp only [Act.put, List.setIfInBounds_toArray, List.set_cons_zero, List.set_cons_succ]
    refine rest_got (i := 6) (v := ?v7) rfl (by kernel_rfl) (by kernel_rfl) (by kernel_rfl) (fun _ _ _ h => h) (by rfl) ?y7 ?r7
    case y7 => (intro w9q hSwq; clear hSwq; go_simp; with_reducible rfl)
    try simp only [Act.put, List.setIfInBounds_toArray, List.set_cons_zero, List.set_cons_succ]
    refine rest_got (i := 7) (v := ?v8) rfl (by kernel_rfl) (by kernel_rfl) (by kernel_rfl) (fun _ _ _ h => h) (by rfl) ?y8 ?r8
    case y8 => (intro w9q hSwq; clear hSwq; go_simp; with_reducible rfl)
    try simp only [Act.put, List.setIfInBounds_toArray, List.set_cons_zero, List.set_cons_succ]
    refine rest_got (i := 8) (v := ?v9) rfl (by kernel_rfl) (by kernel_rfl) (by kernel_rfl) (fun _ _ _ h => h) (by rfl) ?y9 ?r9
    case y9 => (intro w9q hSwq; clear hSwq; go_simp; with_reducible rfl)
    try simp only [Act.put, List.setIfInBounds_toArray, List.set_cons_zero, List.set_cons_succ]
    refine rest_got (i := 9) (v := ?v10) rfl (by kernel_rfl) (by kernel_rfl) (by kernel_rfl) (fun _ _ _ h => h) (by rfl) ?y10 ?r10
    case y10 => (intro w9q hSwq; clear hSwq; go_simp; with_reducible rfl)
    try simp only [Act.put, List.setIfInBounds_toArray, List.set_cons_zero, List.set_cons_succ]
    refine rest_got (i := 10) (v := ?v11) rfl (by kernel_rfl) (by kernel_rfl) (by kernel_rfl) (fun _ _ _ h => h) (by rfl) ?y11 ?r11
    case y11 => ((intro w9' hm9'; have hc9' := Mod.cell hm9' a1 (by first | exact List.not_mem_nil | assumption | (simp; done) | (simp; omega)); clear hm9'; go_simp; with_reducible rfl))
    try simp only [Act.put, List.setIfInBounds_toArray, List.set_cons_zero, List.set_cons_succ]
    refine rest_one (i := 11) (by kernel_rfl) rfl (by rfl) ?_
    go_wp2_with fail
    refine HPB.out.mono ?_
    rintro e w7 ⟨rfl, ord7, oa, ob, F7, mv1, mv2, mv3⟩
    go_wp2_with fail
    refine back_to (K1 := []) mv2 (by simp) ?_
    have P7 := Lib.hid (P6.out.batE mv1 mv2 mv3)
    obtain ⟨v, hv⟩ : ∃ v, putE (an : Int) (rA (an : Int) ins) c.1 N = v := ⟨_, rfl⟩
    have hvc := putE_cases (an : Int) (rA (an : Int) ins) c.1 N
    rw [hv] at hvc ⊢
    have HVV := Lib.hid hv
    clear hv mv1 mv2 mv3 HPB P6 a1 LC habF
    rcases hvc with rfl | rfl | rfl
    case inl =>
      have hRl : putL (an : Int) 0 (rA (an : Int) ins) c.1 N = rA (an : Int) (ins ++ [(d, N, c)]) := by
        unfold putL
        rw [if_pos HVV.out]
        simp [rA]
      have hN2 := putE_zero HVV.out
      have P8 : Hid (OrS w2 w7 b F7 ba (an : Int) ord7 ao' c' ins (rA (an : Int) (ins ++ [(d, N, c)]))) := Lib.hid (by rw [← hRl]; exact P7.out)
      have HN2 := Lib.hid hN2
      clear hRl hN2 P7
      obtain ⟨a0, a1, a2, a3, a4, a5, a6, a7, a8⟩ := HA.out w7 P8.out.mod
      have hb9 := heap_alloc_new w7 (.cells #[.int .u8 (d : Int), .int .i64 N, .int .u32 (c.1.client : Int), .int .u32 (c.1.seq : Int), .int .u8 (c.1.kind : Int), .slice c.2.1 c.1.keys.length c.2.2, .string c.1.old, .string c.1.fresh, .int .i64 c.1.n] 38)
      have m9 := Mod.alloc [] w7 (.cells #[.int .u8 (d : Int), .int .i64 N, .int .u32 (c.1.client : Int), .int .u32 (c.1.seq : Int), .int .u8 (c.1.kind : Int), .slice c.2.1 c.1.keys.length c.2.2, .string c.1.old, .string c.1.fresh, .int .i64 c.1.n] 38)
      have HSH := Lib.hid (showsA (x := (d, N, c)) hb9)
      have P9 := Lib.hid (P8.out.still m9)
      have hol6 : n + 1 ≤ 1000000 := by omega
      clear hb9 m9 P8
      refine rest_got (i := 12) (v := ?v12) rfl (by kernel_rfl) (by kernel_rfl) (by kernel_rfl) (fun _ _ _ h => h) (by rfl) ?y12 ?r12
      case y12 => (intro w9q hSwq; clear hSwq; go_simp; with_reducible rfl)
      try simp only [Act.put, List.setIfInBounds_toArray, List.set_cons_zero, List.set_cons_succ]
      refine rest_done (by kernel_rfl) ?_ _
      go_wp2_with (first | (at_builtin; refine wpl_appA (dst := some 78) _ _ ao' n c' ins rfl HNN.out P9.out.own _ (d, N, c) 1 rfl HSH.out hol6 ?_) | fail)
      intro ao8 c8 w8 o8 m8 n8
      have P10 := Lib.hid (P9.out.push o8 m8 n8 ⟨HK.out, HW.out, HN2.out⟩)
      clear o8 m8 n8 a0 a1 a2 a3 a4 a5 a6 a7 a8
      go_wp2_with fail
      go_roundw
      case rel => exact ⟨j + 1, F7, ao8, c8, ins ++ [(d, N, c)], n + 1, ord7, rfl, by go_num, by omega, by rw [List.length_append, HNN.out]; rfl, P10.out, by omega, by omega, by omega⟩
      case measure => simp [intOf]; omega
    case inr.inl =>
      have hRl : putL (an : Int) 0 (rA (an : Int) ins) c.1 N = rA (an : Int) ins := putL_no (by rw [HVV.out]; decide)
      have P8 : Hid (OrS w2 w7 b F7 ba (an : Int) ord7 ao' c' ins (rA (an : Int) ins)) := Lib.hid (by rw [← hRl]; exact P7.out)
      clear hRl P7
      refine rest_got (i := 12) (v := ?v13) rfl (by kernel_rfl) (by kernel_rfl) (by kernel_rfl) (fun _ _ _ h => h) (by rfl) ?y13 ?r13
      case y13 => (intro w9q hSwq; clear hSwq; go_simp; with_reducible rfl)
      try simp only [Act.put, List.setIfInBounds_toArray, List.set_cons_zero, List.set_cons_succ]
      refine rest_done (by kernel_rfl) ?_ _
      go_wp2_with fail
      go_roundw
      case rel => exact ⟨j + 1, F7, ao', c', ins, n, ord7, rfl, by go_num, by omega, HNN.out, P8.out, by omega, by omega, by omega⟩
      case measure => simp [intOf]; omega
    case inr.inr =>
      have hRl : putL (an : Int) 0 (rA (an : Int) ins) c.1 N = rA (an : Int) ins := putL_no (by rw [HVV.out]; decide)
      have P8 : Hid (OrS w2 w7 b F7 ba (an : Int) ord7 ao' c' ins (rA (an : Int) ins)) := Lib.hid (by rw [← hRl]; exact P7.out)
      clear hRl P7
      refine rest_got (i := 12) (v := ?v14) rfl (by kernel_rfl) (by kernel_rfl) (by kernel_rfl) (fun _ _ _ h => h) (by rfl) ?y14 ?r14
      case y14 => (intro w9q hSwq; clear hSwq; go_simp; with_reducible rfl)
      try simp only [Act.put, List.setIfInBounds_toArray, List.set_cons_zero, List.set_cons_succ]
      refine rest_done (by kernel_rfl) ?_ _
      go_wp2_with fail
      go_roundw
      case rel => exact ⟨j + 1, F7, ao', c', ins, n, ord7, rfl, by go_num, by omega, HNN.out, P8.out, by omega, by omega, by omega⟩
      case measure => simp [intOf]; omega
end Go.Proofs.YtigamomoegpefaaDoor
