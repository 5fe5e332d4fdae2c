/- Texts put together (3 of 3): Ks6, Ks7, Ks8. -/
import Derived.Test.YtkkjbeakmimmmaaZ2
import Derived.KernelRfl
/- A batch's waves: the walk. -/
namespace Go.Proofs.Ytkkjbeakmimmmaa
open Go Go.RowKit Go.Lib Go.MapKept

def s0 : Fs := ⟨fun _ => 0, fun _ => 0, 0, 0⟩
noncomputable def runF (l : List Cd) : Fs × List Nat := l.foldl (fun p c => (putS p.1 c, p.2 ++ [waveOf p.1 c])) (s0, [])
theorem runF_snoc (l : List Cd) (c : Cd) : runF (l ++ [c]) = (putS (runF l).1 c, (runF l).2 ++ [waveOf (runF l).1 c]) := by
  unfold runF
  rw [List.foldl_append]
  rfl
theorem put_le {s : Fs} {N : Nat} (h : s.le N) (c : Cd) : (putS s c).le (N + 1) := by
  have hw := wave_le h c
  obtain ⟨h1, h2, h3, h4⟩ := h
  refine ⟨fun k => ?_, fun k => ?_, ?_, ?_⟩
  · show upd _ _ _ k ≤ _
    unfold upd
    split
    · omega
    · have := h1 k; omega
  · show upd _ _ _ k ≤ _
    unfold upd
    split
    · omega
    · have := h2 k; omega
  · show (if lone c = true then _ else _) ≤ _
    split <;> omega
  · show max _ _ ≤ _
    omega
theorem foldF_le : ∀ (l : List Cd) (p : Fs × List Nat) (N : Nat), p.1.le N → (l.foldl (fun p c => (putS p.1 c, p.2 ++ [waveOf p.1 c])) p).1.le (N + l.length) ∧ (l.foldl (fun p c => (putS p.1 c, p.2 ++ [waveOf p.1 c])) p).2.length = p.2.length + l.length
  | [], p, N, h => ⟨h, rfl⟩
  | c :: l, p, N, h => by
    obtain ⟨h1, h2⟩ := foldF_le l (putS p.1 c, p.2 ++ [waveOf p.1 c]) (N + 1) (put_le h c)
    rw [List.foldl_cons, List.length_cons]
    refine ⟨by rw [show N + (l.length + 1) = N + 1 + l.length by omega]; exact h1, ?_⟩
    rw [h2, List.length_append, List.length_singleton]
    omega
theorem runF_le (l : List Cd) : (runF l).1.le l.length ∧ (runF l).2.length = l.length := by
  have := foldF_le l (s0, []) 0 ⟨fun _ => Nat.le_refl _, fun _ => Nat.le_refl _, Nat.le_refl _, Nat.le_refl _⟩
  rw [Nat.zero_add] at this
  exact ⟨this.1, this.2.trans (Nat.zero_add _)⟩
def natV (n : Nat) : Value := .int .i64 (n : Int)
theorem infoInt : (Try.prog.info? 3).map (fun i => (i.zero, i.size, i.bytes)) = some (some (.int .i64 0), 1, 8) := by kernel_rfl
/-- What Waves tells. -/
def WavesR (w : World) (l : List Cd) (e : Ending) (w' : World) : Prop := ∃ ao cap, e = .returned (.slice ao l.length cap) ∧ OwnM natV w' 3 ao cap (runF l).2 ∧ (∀ k, k ∈ blk ao → w.heap.size ≤ k) ∧ Mod [] w w'
theorem made_front (w : World) : ∃ w3, ((w.alloc (.map #[] 0)).alloc (.map #[] 0)).alloc (.cells #[.map (some w.heap.size), .map (some (w.heap.size + 1)), .int .i64 0, .int .i64 0] 41) = w3 ∧
    Mod [] w w3 ∧ Front w3 (w.heap.size + 1 + 1) w.heap.size (w.heap.size + 1) s0 := by
  have e1 := MapF.made w .string
  have e2 := MapF.made (w.alloc (.map #[] 0)) (.int .u32)
  have z1 : (w.alloc (.map #[] 0)).heap.size = w.heap.size + 1 := by simp
  have z2 : ((w.alloc (.map #[] 0)).alloc (.map #[] 0)).heap.size = w.heap.size + 1 + 1 := by simp
  have m1 := Mod.alloc [] w (.map #[] 0)
  have m2 := Mod.alloc [] (w.alloc (.map #[] 0)) (.map #[] 0)
  have m3 := Mod.alloc [] ((w.alloc (.map #[] 0)).alloc (.map #[] 0)) (.cells #[.map (some w.heap.size), .map (some (w.heap.size + 1)), .int .i64 0, .int .i64 0] 41)
  have e3 := heap_alloc_new ((w.alloc (.map #[] 0)).alloc (.map #[] 0)) (.cells #[.map (some w.heap.size), .map (some (w.heap.size + 1)), .int .i64 0, .int .i64 0] 41)
  rw [z2] at e3
  rw [z1] at e2
  exact ⟨_, rfl, (m1.trans' m2).trans' m3, e3, ⟨0, _, (e1.mod0 m2).mod0 m3, fun _ => rfl⟩, ⟨0, _, e2.mod0 m3, fun _ => rfl⟩, by omega, by omega, by omega⟩

set_option maxRecDepth 100000 in
set_option maxHeartbeats 4000000 in
theorem waves_any (ao : Option Addr) (len cap : Nat) (l : List Cm) (w : World) (hl : l.length = len) (hs : SeesC w ao l) (hlen : len ≤ 100000) (hks : ∀ j (h : j < l.length), l[j].1.keys.length ≤ 100000) :
    Calls Try.prog 7 #[.slice ao len cap] w (WavesR w (l.map (·.1))) := by
  unfold WavesR
  rw [List.length_map, hl]
  have HS := Lib.hid hs
  have HL := Lib.hid hl
  have HKS := Lib.hid hks
  clear hs hl hks
  obtain ⟨w3, hw3, m3, f3⟩ := made_front w
  have HM3 := Lib.hid m3
  have HF3 := Lib.hid f3
  clear m3 f3
  go_enter Try.func7, Try.ntmps7
  go_wp2_with (first | (refine wpl_makemap (dst := some 7) _ ?_) | (refine wpl_makemap (dst := some 8) _ ?_) | fail)
  clear hw3
  obtain ⟨g, hg0⟩ : ∃ x, w.heap.size + 1 + 1 = x := ⟨_, rfl⟩
  obtain ⟨bc, hbc⟩ : ∃ x, w.heap.size + 1 = x := ⟨_, rfl⟩
  obtain ⟨bk, hbk⟩ : ∃ x, w.heap.size = x := ⟨_, rfl⟩
  have HG : Hid (w.heap.size ≤ g ∧ w.heap.size ≤ bc ∧ w.heap.size ≤ bk) := Lib.hid (by omega)
  rw [hg0, hbc, hbk] at HF3
  rw [hg0, hbc, hbk]
  clear hg0 hbc hbk
  go_loopw [4, 6, 13] (fun s4 _ i wr => ∃ (k : Nat) (oa : Option Addr) (oc : Nat), k ≤ len ∧ i = .int .i64 (k : Int) ∧ s4 = .slice oa k oc ∧ OwnM natV wr 3 oa oc (runF ((l.take k).map (·.1))).2 ∧ (∀ j, j ∈ blk oa → w.heap.size ≤ j ∧ j ≠ g ∧ j ≠ bk ∧ j ≠ bc) ∧ Front wr g bk bc (runF ((l.take k).map (·.1))).1 ∧ Mod [] w wr) (fun _ _ i _ => len - (intOf i).toNat)
  case atStart => exact ⟨0, none, 0, Nat.zero_le _, rfl, rfl, OwnM.nil _ _ _, fun j hj => by simp [blk] at hj, HF3.out, HM3.out⟩
  case round =>
    obtain ⟨k, oa, oc, hk, rfl, rfl, ho, hb, hf, hm⟩ := hrel
    have HO := Lib.hid ho
    have HB := Lib.hid hb
    have HF := Lib.hid hf
    have HM := Lib.hid hm
    clear ho hb hf hm
    by_cases hlt : k < len
    · have hkl : k < l.length := by rw [HL.out]; exact hlt
      have hln : (runF ((l.take k).map (·.1))).2.length = k := by rw [(runF_le _).2, List.length_map, List.length_take, HL.out]; omega
      have hle : (runF ((l.take k).map (·.1))).1.le k := by
        have := (runF_le ((l.take k).map (·.1))).1
        rwa [List.length_map, List.length_take, HL.out, Nat.min_eq_left (by omega)] at this
      have hsn := runF_snoc ((l.take k).map (·.1)) l[k].1
      have htk : (l.take (k + 1)).map (·.1) = (l.take k).map (·.1) ++ [l[k].1] := by rw [take_snoc l k hkl, List.map_append]; rfl
      rw [← htk] at hsn
      obtain ⟨⟨st, out⟩, hst⟩ : ∃ x, runF ((l.take k).map (·.1)) = x := ⟨_, rfl⟩
      rw [hst] at HO HF hln hle hsn
      obtain ⟨b, off, rfl, c0, c1, c2, c3, c4, c5, c6, ht, hfw⟩ := (HS.out.mod0 HM.out) k hkl
      have hky := HKS.out k hkl
      obtain ⟨cm, hx⟩ : ∃ x, l[k] = x := ⟨_, rfl⟩
      rw [hx] at c0 c1 c2 c3 c4 c5 c6 ht hky hsn
      obtain ⟨w4, hw4, m4, z4, q0, q1, q2, q3, q4, q5, q6⟩ := box_facts cm wr
      have HF4 := Lib.hid (HF.out)
      have hP := put_any g bk bc k st cm w4 (by
        obtain ⟨f1, f2, f3, f4⟩ := HF.out
        exact ⟨m4.get f1 List.not_mem_nil, f2.mod m4 List.not_mem_nil, f3.mod m4 List.not_mem_nil, f4⟩) (ht.mod0 m4) hky hle (by omega)
      obtain ⟨wv, hwv⟩ : ∃ x, waveOf st cm.1 = x := ⟨_, rfl⟩
      obtain ⟨st', hst'⟩ : ∃ x, putS st cm.1 = x := ⟨_, rfl⟩
      rw [hwv, hst'] at hP
      dsimp only at hsn
      rw [hwv, hst'] at hsn
      have HP := Lib.hid hP
      have HSN := Lib.hid hsn
      have HLN := Lib.hid hln
      have HM4 := Lib.hid (HM.out.trans' m4)
      have HO4 := Lib.hid (HO.out.mod0 m4)
      clear hwv hst' hP hsn hln hle htk hst ht hfw hky hx m4 HF4 HF HM HO
      obtain ⟨⟨client, seq, kind, keys, old, fresh, n⟩, kao, kcap⟩ := cm
      dsimp only at hw4 c0 c1 c2 c3 c4 c5 c6 q0 q1 q2 q3 q4 q5 q6
      go_wp2_with fail
      refine HP.out.mono ?_
      rintro e w5 ⟨rfl, hf5, m5⟩
      have HF5 := Lib.hid hf5
      have HM5 := Lib.hid (HM4.out.trans m5 (fun i hi hl => by have := HG.out; simp at hi; omega))
      have HO5 := Lib.hid (HO4.out.mod m5 (fun j hj => by have := HB.out j hj; simp; omega))
      have HZ5 : Hid (w.heap.size ≤ w5.heap.size) := Lib.hid HM5.out.size
      have m6 := Mod.alloc [] w5 (.cells #[.int .i64 (wv : Int)] 3)
      have SH : Hid (Shows (w5.alloc (.cells #[.int .i64 (wv : Int)] 3)) (some ⟨w5.heap.size, 0, none⟩) (List.map natV [wv])) := Lib.hid (shows_one (f := natV) (heap_alloc_new w5 (.cells #[.int .i64 (wv : Int)] 3)))
      have HO6 := Lib.hid (HO5.out.mod0 m6)
      have HM6 := Lib.hid (HM5.out.trans' m6)
      have HF6 : Hid (Front (w5.alloc (.cells #[.int .i64 (wv : Int)] 3)) g bk bc st') := Lib.hid (by
        obtain ⟨f1, f2, f3, f4⟩ := HF5.out
        exact ⟨m6.get f1 List.not_mem_nil, f2.mod m6 List.not_mem_nil, f3.mod m6 List.not_mem_nil, f4⟩)
      clear hf5 m5 m6 hw4 c0 c1 c2 c3 c4 c5 c6 q0 q1 q2 q3 q4 q5 q6 HO4 HM4 HP HO5 HM5 HF5
      go_wp2_with (first | (at_builtin; refine wpl_appM (f := natV) (dst := some 22) _ _ 25 _ 8 Try.underlying25 infoInt rfl (fun _ => rfl) k out rfl HLN.out HO6.out _ 1 1 [wv] rfl rfl SH.out (by omega) (by omega) ?_) | fail)
      intro a9 c9 w9 o9 m9 s9
      have HO9 := Lib.hid o9
      have HF9 : Hid (Front w9 g bk bc st') := Lib.hid (by
        obtain ⟨f1, f2, f3, f4⟩ := HF6.out
        have hn : ∀ x, (x = g ∨ x = bk ∨ x = bc) → x ∉ blk oa := fun x hx hx2 => by have := HB.out x hx2; omega
        exact ⟨m9.get f1 (hn _ (.inl rfl)), f2.mod m9 (hn _ (.inr (.inl rfl))), f3.mod m9 (hn _ (.inr (.inr rfl))), f4⟩)
      have HM9 := Lib.hid (HM6.out.trans m9 (fun i hi hl => by have := (HB.out i hi).1; omega))
      have HB9 : Hid (∀ j, j ∈ blk a9 → w.heap.size ≤ j ∧ j ≠ g ∧ j ≠ bk ∧ j ≠ bc) := Lib.hid (fun j hj => by
        rcases s9.blk j hj with h | h
        · exact HB.out j h
        · obtain ⟨f1, ⟨_, _, f2, _⟩, ⟨_, _, f3, _⟩, f4⟩ := HF6.out
          have := lt_of_block f1
          have := f2.lt
          have := f3.lt
          have := HM6.out.size
          omega)
      clear o9 m9 s9 HO6 HF6 HM6 SH
      go_wp2
      go_roundw
      case rel => exact ⟨k + 1, a9, c9, by omega, by go_num, by rfl, by rw [HSN.out]; exact HO9.out, HB9.out, by rw [HSN.out]; exact HF9.out, HM9.out⟩
      case measure => simp [intOf]; omega
    · have hke : k = len := by omega
      subst hke
      have ho := HO.out
      rw [List.take_of_length_le (by rw [HL.out]; exact Nat.le_refl _)] at ho
      have HO := Lib.hid ho
      clear ho
      go_wp2
      go_ret
      exact ⟨oa, oc, rfl, HO.out, fun j hj => (HB.out j hj).1, HM.out⟩
end Go.Proofs.Ytkkjbeakmimmmaa
/- Known batches: what their waves are. -/
namespace Go.Proofs.Ytkkjbeakmimmmaa
open Go Go.RowKit Go.Lib Go.MapKept

def kk (n : UInt8) : ByteArray := ⟨#[n]⟩
def cOf (client : Nat) (keys : List ByteArray) : Cd := ⟨client, 0, 7, keys, ⟨#[]⟩, ⟨#[]⟩, 0⟩
theorem tk_a : tk [kk 97] = [kk 97] := by kernel_rfl
theorem tk_b : tk [kk 98] = [kk 98] := by kernel_rfl
theorem tk_c : tk [kk 99] = [kk 99] := by kernel_rfl
theorem tk_sorted (l : List ByteArray) (h : (l.map bs8).Pairwise (fun x y => decide (x ≤ y) = true)) : tk l = (Lib.compact (l.map bs8)).map sb8 := by
  unfold tk tkB
  rw [List.mergeSort_of_pairwise h]
theorem tk_ab : tk [kk 97, kk 98] = [kk 97, kk 98] := (tk_sorted _ (by decide)).trans (by kernel_rfl)
theorem tk_p : tk [kk 112, kk 113, kk 114, kk 115, kk 116] = [kk 112, kk 113, kk 114, kk 115, kk 116] := (tk_sorted _ (by decide)).trans (by kernel_rfl)
theorem kk_inj (a b : UInt8) : (kk a = kk b) = (a = b) := by simp [kk]
theorem wake1 : (runF [cOf 1 [kk 97], cOf 2 [kk 98], cOf 3 [kk 97, kk 98], cOf 4 [kk 99], cOf 5 [kk 97]]).2 = [0, 0, 1, 0, 2] := by
  simp [runF, putS, waveOf, lone, upd, mx, s0, cOf, tk_a, tk_b, tk_c, tk_ab, kk_inj]
theorem wake2 : (runF [cOf 1 [kk 97], cOf 2 [kk 112, kk 113, kk 114, kk 115, kk 116], cOf 3 [kk 98]]).2 = [0, 1, 2] := by
  simp [runF, putS, waveOf, lone, upd, mx, s0, cOf, tk_a, tk_b, tk_p, kk_inj]
theorem wake3 : way (cOf 1 [kk 97]) (cOf 1 [kk 98]) = true := by
  simp [way, cOf]
theorem wake4 : way (cOf 1 [kk 97]) (cOf 2 [kk 98]) = false := by
  simp [way, lone, share, cOf, tk_a, tk_b]
  kernel_rfl
end Go.Proofs.Ytkkjbeakmimmmaa
/- The known batches: the walk. -/
namespace Go.Proofs.Ytkkjbeakmimmmaa
open Go Go.RowKit Go.Lib Go.MapKept

theorem made_keys (w : World) (l : List ByteArray) : ∃ w1, w.alloc (.cells (l.map Value.string).toArray 9) = w1 ∧ Mod [] w w1 ∧ SeesT w1 (some ⟨w.heap.size, 0, none⟩) l := by
  refine ⟨_, rfl, Mod.alloc _ _ _, fun j hj => ⟨_, _, rfl, ?_⟩⟩
  rw [cell_of_block (heap_alloc_new w _)]
  simp [hj]
theorem wf_of (client : Nat) (keys : List ByteArray) (h1 : client < 4294967296) (h2 : keys.length ≤ 100) (h3 : ∀ k ∈ keys, k.size ≤ 100) : Wf (cOf client keys) :=
  ⟨h1, by show (0 : Nat) < _; decide, by show (7 : Nat) < _; decide, by show keys.length ≤ _; omega, fun k hk => by have := h3 k hk; omega, by show (0 : Nat) ≤ _; omega, by show (0 : Nat) ≤ _; omega, by show _ ≤ (0 : Int); decide, by show (0 : Int) ≤ _; decide⟩
def cmdCells (c : Cm) : List Value := [.int .u32 (c.1.client : Int), .int .u32 (c.1.seq : Int), .int .u8 (c.1.kind : Int), .slice c.2.1 c.1.keys.length c.2.2, .string c.1.old, .string c.1.fresh, .int .i64 c.1.n]
theorem flat7 : ∀ (l : List Cm) (j i : Nat) (hj : j < l.length), i < 7 → (l.flatMap cmdCells)[j * 7 + i]? = (cmdCells l[j])[i]?
  | c :: l, 0, i, _, hi => by
    rw [List.flatMap_cons, List.getElem?_append_left (by simp [cmdCells]; omega)]
    simp
  | c :: l, j + 1, i, hj, hi => by
    rw [List.flatMap_cons, List.getElem?_append_right (by simp [cmdCells]; omega)]
    rw [show (j + 1) * 7 + i - (cmdCells c).length = j * 7 + i by simp [cmdCells]; omega]
    exact flat7 l j i (by simpa using hj) hi
theorem made_cmds (w : World) (l : List Cm) (hk : ∀ c, c ∈ l → SeesT w c.2.1 c.1.keys ∧ Wf c.1) : ∃ w1, w.alloc (.cells (l.flatMap cmdCells).toArray 32) = w1 ∧ Mod [] w w1 ∧ SeesC w1 (some ⟨w.heap.size, 0, none⟩) l := by
  refine ⟨_, rfl, Mod.alloc _ _ _, fun j hj => ⟨_, _, rfl, ?_⟩⟩
  have hb := heap_alloc_new w (.cells (l.flatMap cmdCells).toArray 32)
  obtain ⟨h1, h2⟩ := hk _ (List.getElem_mem hj)
  refine ⟨?_, ?_, ?_, ?_, ?_, ?_, ?_, h1.mod0 (Mod.alloc _ _ _), h2⟩
  · rw [cell_of_block hb, Nat.zero_add, List.getElem?_toArray]; exact flat7 l j 0 hj (by omega)
  · rw [cell_of_block hb, Nat.zero_add, List.getElem?_toArray]; exact flat7 l j 1 hj (by omega)
  · rw [cell_of_block hb, Nat.zero_add, List.getElem?_toArray]; exact flat7 l j 2 hj (by omega)
  · rw [cell_of_block hb, Nat.zero_add, List.getElem?_toArray]; exact flat7 l j 3 hj (by omega)
  · rw [cell_of_block hb, Nat.zero_add, List.getElem?_toArray]; exact flat7 l j 4 hj (by omega)
  · rw [cell_of_block hb, Nat.zero_add, List.getElem?_toArray]; exact flat7 l j 5 hj (by omega)
  · rw [cell_of_block hb, Nat.zero_add, List.getElem?_toArray]; exact flat7 l j 6 hj (by omega)
set_option maxRecDepth 100000 in
set_option maxHeartbeats 4000000 in
theorem of_any (client n cap : Nat) (ao : Option Addr) (w : World) :
    Calls Try.prog 14 #[.int .u32 (client : Int), .slice ao n cap] w fun e w' => e = .returned (.agg #[.int .u32 (client : Int), .int .u32 0, .int .u8 7, .slice ao n cap, .string ⟨#[]⟩, .string ⟨#[]⟩, .int .i64 0]) ∧ Mod [] w w' := by
  go_enter Try.func14, Try.ntmps14
  go_wp2
  ((try simp only [Exit.inBlock, Exit.then]); refine bodyPost_ret (by simp [results, Try.results14, go_sem, *]; try rfl) rfl ?_)
  exact ⟨rfl, Mod.ofBelow (by go_grown)⟩
set_option maxRecDepth 100000 in
set_option maxHeartbeats 8000000 in
theorem wakes12_any (w0 : World) : Calls Try.prog 6 #[] w0 fun e w' => e = .returned (.bool true) ∧ Mod [] w0 w' := by
  have HM0 := Lib.hid (Mod.refl [] w0)
  go_enter Try.func6, Try.ntmps6
  obtain ⟨w1, hw1, mw1, tw1⟩ := made_keys w0 [kk 97]
  replace hw1 : w0.alloc (.cells #[.string ⟨#[97]⟩] 9) = w1 := hw1
  have Kx0 := Lib.hid tw1
  have HM1 := Lib.hid (HM0.out.trans' mw1)
  clear mw1 tw1 HM0
  go_wp2_with fail
  refine (of_any 1 1 1 (some ⟨w0.heap.size, 0, none⟩) w1).mono ?_
  rintro e w2 ⟨rfl, mw2⟩
  replace Kx0 := Lib.hid (Kx0.out.mod0 mw2)
  have HM2 := Lib.hid (HM1.out.trans' mw2)
  clear mw2 HM1 hw1
  obtain ⟨w3, hw3, mw3, tw3⟩ := made_keys w2 [kk 98]
  replace hw3 : w2.alloc (.cells #[.string ⟨#[98]⟩] 9) = w3 := hw3
  replace Kx0 := Lib.hid (Kx0.out.mod0 mw3)
  have Kx1 := Lib.hid tw3
  have HM3 := Lib.hid (HM2.out.trans' mw3)
  clear mw3 tw3 HM2
  go_wp2_with fail
  refine (of_any 2 1 1 (some ⟨w2.heap.size, 0, none⟩) w3).mono ?_
  rintro e w4 ⟨rfl, mw4⟩
  replace Kx0 := Lib.hid (Kx0.out.mod0 mw4)
  replace Kx1 := Lib.hid (Kx1.out.mod0 mw4)
  have HM4 := Lib.hid (HM3.out.trans' mw4)
  clear mw4 HM3 hw3
  obtain ⟨w5, hw5, mw5, tw5⟩ := made_keys w4 [kk 97, kk 98]
  replace hw5 : w4.alloc (.cells #[.string ⟨#[97]⟩, .string ⟨#[98]⟩] 9) = w5 := hw5
  replace Kx0 := Lib.hid (Kx0.out.mod0 mw5)
  replace Kx1 := Lib.hid (Kx1.out.mod0 mw5)
  have Kx2 := Lib.hid tw5
  have HM5 := Lib.hid (HM4.out.trans' mw5)
  clear mw5 tw5 HM4
  go_wp2_with fail
  refine (of_any 3 2 2 (some ⟨w4.heap.size, 0, none⟩) w5).mono ?_
  rintro e w6 ⟨rfl, mw6⟩
  replace Kx0 := Lib.hid (Kx0.out.mod0 mw6)
  replace Kx1 := Lib.hid (Kx1.out.mod0 mw6)
  replace Kx2 := Lib.hid (Kx2.out.mod0 mw6)
  have HM6 := Lib.hid (HM5.out.trans' mw6)
  clear mw6 HM5 hw5
  obtain ⟨w7, hw7, mw7, tw7⟩ := made_keys w6 [kk 99]
  replace hw7 : w6.alloc (.cells #[.string ⟨#[99]⟩] 9) = w7 := hw7
  replace Kx0 := Lib.hid (Kx0.out.mod0 mw7)
  replace Kx1 := Lib.hid (Kx1.out.mod0 mw7)
  replace Kx2 := Lib.hid (Kx2.out.mod0 mw7)
  have Kx3 := Lib.hid tw7
  have HM7 := Lib.hid (HM6.out.trans' mw7)
  clear mw7 tw7 HM6
  go_wp2_with fail
  refine (of_any 4 1 1 (some ⟨w6.heap.size, 0, none⟩) w7).mono ?_
  rintro e w8 ⟨rfl, mw8⟩
  replace Kx0 := Lib.hid (Kx0.out.mod0 mw8)
  replace Kx1 := Lib.hid (Kx1.out.mod0 mw8)
  replace Kx2 := Lib.hid (Kx2.out.mod0 mw8)
  replace Kx3 := Lib.hid (Kx3.out.mod0 mw8)
  have HM8 := Lib.hid (HM7.out.trans' mw8)
  clear mw8 HM7 hw7
  obtain ⟨w9, hw9, mw9, tw9⟩ := made_keys w8 [kk 97]
  replace hw9 : w8.alloc (.cells #[.string ⟨#[97]⟩] 9) = w9 := hw9
  replace Kx0 := Lib.hid (Kx0.out.mod0 mw9)
  replace Kx1 := Lib.hid (Kx1.out.mod0 mw9)
  replace Kx2 := Lib.hid (Kx2.out.mod0 mw9)
  replace Kx3 := Lib.hid (Kx3.out.mod0 mw9)
  have Kx4 := Lib.hid tw9
  have HM9 := Lib.hid (HM8.out.trans' mw9)
  clear mw9 tw9 HM8
  go_wp2_with fail
  refine (of_any 5 1 1 (some ⟨w8.heap.size, 0, none⟩) w9).mono ?_
  rintro e w10 ⟨rfl, mw10⟩
  replace Kx0 := Lib.hid (Kx0.out.mod0 mw10)
  replace Kx1 := Lib.hid (Kx1.out.mod0 mw10)
  replace Kx2 := Lib.hid (Kx2.out.mod0 mw10)
  replace Kx3 := Lib.hid (Kx3.out.mod0 mw10)
  replace Kx4 := Lib.hid (Kx4.out.mod0 mw10)
  have HM10 := Lib.hid (HM9.out.trans' mw10)
  clear mw10 HM9 hw9
  obtain ⟨w11, hw11, mw11, tw11⟩ := made_cmds w10 [(cOf 1 [kk 97], some ⟨w0.heap.size, 0, none⟩, 1), (cOf 2 [kk 98], some ⟨w2.heap.size, 0, none⟩, 1), (cOf 3 [kk 97, kk 98], some ⟨w4.heap.size, 0, none⟩, 2), (cOf 4 [kk 99], some ⟨w6.heap.size, 0, none⟩, 1), (cOf 5 [kk 97], some ⟨w8.heap.size, 0, none⟩, 1)] (by
    intro c hc
    simp only [List.mem_cons, List.not_mem_nil, or_false] at hc
    rcases hc with rfl | rfl | rfl | rfl | rfl
    · exact ⟨Kx0.out, wf_of _ _ (by decide) (by decide) (by decide)⟩
    · exact ⟨Kx1.out, wf_of _ _ (by decide) (by decide) (by decide)⟩
    · exact ⟨Kx2.out, wf_of _ _ (by decide) (by decide) (by decide)⟩
    · exact ⟨Kx3.out, wf_of _ _ (by decide) (by decide) (by decide)⟩
    · exact ⟨Kx4.out, wf_of _ _ (by decide) (by decide) (by decide)⟩)
  replace hw11 : w10.alloc (.cells #[.int .u32 1, .int .u32 0, .int .u8 7, .slice (some ⟨w0.heap.size, 0, none⟩) 1 1, .string ⟨#[]⟩, .string ⟨#[]⟩, .int .i64 0, .int .u32 2, .int .u32 0, .int .u8 7, .slice (some ⟨w2.heap.size, 0, none⟩) 1 1, .string ⟨#[]⟩, .string ⟨#[]⟩, .int .i64 0, .int .u32 3, .int .u32 0, .int .u8 7, .slice (some ⟨w4.heap.size, 0, none⟩) 2 2, .string ⟨#[]⟩, .string ⟨#[]⟩, .int .i64 0, .int .u32 4, .int .u32 0, .int .u8 7, .slice (some ⟨w6.heap.size, 0, none⟩) 1 1, .string ⟨#[]⟩, .string ⟨#[]⟩, .int .i64 0, .int .u32 5, .int .u32 0, .int .u8 7, .slice (some ⟨w8.heap.size, 0, none⟩) 1 1, .string ⟨#[]⟩, .string ⟨#[]⟩, .int .i64 0] 32) = w11 := hw11
  have HM11 := Lib.hid (HM10.out.trans' mw11)
  have HWx : Hid (Calls Try.prog 7 #[.slice (some ⟨w10.heap.size, 0, none⟩) 5 5] w11 fun e w' => ∃ ao cap, e = .returned (.slice ao 5 cap) ∧ OwnM natV w' 3 ao cap [0, 0, 1, 0, 2] ∧ Mod [] w11 w') := Lib.hid ((waves_any (some ⟨w10.heap.size, 0, none⟩) 5 5 [(cOf 1 [kk 97], some ⟨w0.heap.size, 0, none⟩, 1), (cOf 2 [kk 98], some ⟨w2.heap.size, 0, none⟩, 1), (cOf 3 [kk 97, kk 98], some ⟨w4.heap.size, 0, none⟩, 2), (cOf 4 [kk 99], some ⟨w6.heap.size, 0, none⟩, 1), (cOf 5 [kk 97], some ⟨w8.heap.size, 0, none⟩, 1)] w11 rfl tw11 (by omega) (by
    intro j hj
    match j, hj with
    | 0, _ => exact (by decide : (1 : Nat) ≤ 100000)
    | 1, _ => exact (by decide : (1 : Nat) ≤ 100000)
    | 2, _ => exact (by decide : (2 : Nat) ≤ 100000)
    | 3, _ => exact (by decide : (1 : Nat) ≤ 100000)
    | 4, _ => exact (by decide : (1 : Nat) ≤ 100000))).mono fun e w2 h => by
    obtain ⟨ao, cap, h1, h2, -, h4⟩ := h
    exact ⟨ao, cap, h1, by rw [← wake1]; exact h2, h4⟩)
  clear mw11 tw11 HM10 Kx0 Kx1 Kx2 Kx3 Kx4
  go_wp2_with fail
  refine HWx.out.mono ?_
  rintro e w12 ⟨aox, capx, rfl, ox, mw12⟩
  have Ox := Lib.hid ox
  have HM12 := Lib.hid (HM11.out.trans' mw12)
  clear mw12 ox HM11 hw11 HWx
  obtain ⟨w13, hw13, mw13, tw13⟩ := made_keys w12 [kk 97]
  replace hw13 : w12.alloc (.cells #[.string ⟨#[97]⟩] 9) = w13 := hw13
  replace Ox := Lib.hid (Ox.out.mod0 mw13)
  have Ky0 := Lib.hid tw13
  have HM13 := Lib.hid (HM12.out.trans' mw13)
  clear mw13 tw13 HM12
  go_wp2_with fail
  refine (of_any 1 1 1 (some ⟨w12.heap.size, 0, none⟩) w13).mono ?_
  rintro e w14 ⟨rfl, mw14⟩
  replace Ox := Lib.hid (Ox.out.mod0 mw14)
  replace Ky0 := Lib.hid (Ky0.out.mod0 mw14)
  have HM14 := Lib.hid (HM13.out.trans' mw14)
  clear mw14 HM13 hw13
  obtain ⟨w15, hw15, mw15, tw15⟩ := made_keys w14 [kk 112, kk 113, kk 114, kk 115, kk 116]
  replace hw15 : w14.alloc (.cells #[.string ⟨#[112]⟩, .string ⟨#[113]⟩, .string ⟨#[114]⟩, .string ⟨#[115]⟩, .string ⟨#[116]⟩] 9) = w15 := hw15
  replace Ox := Lib.hid (Ox.out.mod0 mw15)
  replace Ky0 := Lib.hid (Ky0.out.mod0 mw15)
  have Ky1 := Lib.hid tw15
  have HM15 := Lib.hid (HM14.out.trans' mw15)
  clear mw15 tw15 HM14
  go_wp2_with fail
  refine (of_any 2 5 5 (some ⟨w14.heap.size, 0, none⟩) w15).mono ?_
  rintro e w16 ⟨rfl, mw16⟩
  replace Ox := Lib.hid (Ox.out.mod0 mw16)
  replace Ky0 := Lib.hid (Ky0.out.mod0 mw16)
  replace Ky1 := Lib.hid (Ky1.out.mod0 mw16)
  have HM16 := Lib.hid (HM15.out.trans' mw16)
  clear mw16 HM15 hw15
  obtain ⟨w17, hw17, mw17, tw17⟩ := made_keys w16 [kk 98]
  replace hw17 : w16.alloc (.cells #[.string ⟨#[98]⟩] 9) = w17 := hw17
  replace Ox := Lib.hid (Ox.out.mod0 mw17)
  replace Ky0 := Lib.hid (Ky0.out.mod0 mw17)
  replace Ky1 := Lib.hid (Ky1.out.mod0 mw17)
  have Ky2 := Lib.hid tw17
  have HM17 := Lib.hid (HM16.out.trans' mw17)
  clear mw17 tw17 HM16
  go_wp2_with fail
  refine (of_any 3 1 1 (some ⟨w16.heap.size, 0, none⟩) w17).mono ?_
  rintro e w18 ⟨rfl, mw18⟩
  replace Ox := Lib.hid (Ox.out.mod0 mw18)
  replace Ky0 := Lib.hid (Ky0.out.mod0 mw18)
  replace Ky1 := Lib.hid (Ky1.out.mod0 mw18)
  replace Ky2 := Lib.hid (Ky2.out.mod0 mw18)
  have HM18 := Lib.hid (HM17.out.trans' mw18)
  clear mw18 HM17 hw17
  obtain ⟨w19, hw19, mw19, tw19⟩ := made_cmds w18 [(cOf 1 [kk 97], some ⟨w12.heap.size, 0, none⟩, 1), (cOf 2 [kk 112, kk 113, kk 114, kk 115, kk 116], some ⟨w14.heap.size, 0, none⟩, 5), (cOf 3 [kk 98], some ⟨w16.heap.size, 0, none⟩, 1)] (by
    intro c hc
    simp only [List.mem_cons, List.not_mem_nil, or_false] at hc
    rcases hc with rfl | rfl | rfl
    · exact ⟨Ky0.out, wf_of _ _ (by decide) (by decide) (by decide)⟩
    · exact ⟨Ky1.out, wf_of _ _ (by decide) (by decide) (by decide)⟩
    · exact ⟨Ky2.out, wf_of _ _ (by decide) (by decide) (by decide)⟩)
  replace hw19 : w18.alloc (.cells #[.int .u32 1, .int .u32 0, .int .u8 7, .slice (some ⟨w12.heap.size, 0, none⟩) 1 1, .string ⟨#[]⟩, .string ⟨#[]⟩, .int .i64 0, .int .u32 2, .int .u32 0, .int .u8 7, .slice (some ⟨w14.heap.size, 0, none⟩) 5 5, .string ⟨#[]⟩, .string ⟨#[]⟩, .int .i64 0, .int .u32 3, .int .u32 0, .int .u8 7, .slice (some ⟨w16.heap.size, 0, none⟩) 1 1, .string ⟨#[]⟩, .string ⟨#[]⟩, .int .i64 0] 32) = w19 := hw19
  replace Ox := Lib.hid (Ox.out.mod0 mw19)
  have HM19 := Lib.hid (HM18.out.trans' mw19)
  have HWy : Hid (Calls Try.prog 7 #[.slice (some ⟨w18.heap.size, 0, none⟩) 3 3] w19 fun e w' => ∃ ao cap, e = .returned (.slice ao 3 cap) ∧ OwnM natV w' 3 ao cap [0, 1, 2] ∧ Mod [] w19 w') := Lib.hid ((waves_any (some ⟨w18.heap.size, 0, none⟩) 3 3 [(cOf 1 [kk 97], some ⟨w12.heap.size, 0, none⟩, 1), (cOf 2 [kk 112, kk 113, kk 114, kk 115, kk 116], some ⟨w14.heap.size, 0, none⟩, 5), (cOf 3 [kk 98], some ⟨w16.heap.size, 0, none⟩, 1)] w19 rfl tw19 (by omega) (by
    intro j hj
    match j, hj with
    | 0, _ => exact (by decide : (1 : Nat) ≤ 100000)
    | 1, _ => exact (by decide : (5 : Nat) ≤ 100000)
    | 2, _ => exact (by decide : (1 : Nat) ≤ 100000))).mono fun e w2 h => by
    obtain ⟨ao, cap, h1, h2, -, h4⟩ := h
    exact ⟨ao, cap, h1, by rw [← wake2]; exact h2, h4⟩)
  clear mw19 tw19 HM18 Ky0 Ky1 Ky2
  go_wp2_with fail
  refine HWy.out.mono ?_
  rintro e w20 ⟨aoy, capy, rfl, oy, mw20⟩
  replace Ox := Lib.hid (Ox.out.mod0 mw20)
  have Oy := Lib.hid oy
  have HM20 := Lib.hid (HM19.out.trans' mw20)
  clear mw20 oy HM19 hw19 HWy
  obtain ⟨gx, rfl, x0, -⟩ := OwnM.at' Ox.out (j := 0) (by decide)
  replace x0 : w20.cell? ⟨gx, 0, none⟩ = some (.int .i64 0) := x0
  obtain ⟨g', eg, x1, -⟩ := OwnM.at' Ox.out (j := 1) (by decide)
  cases eg
  replace x1 : w20.cell? ⟨gx, 1, none⟩ = some (.int .i64 0) := x1
  obtain ⟨g', eg, x2, -⟩ := OwnM.at' Ox.out (j := 2) (by decide)
  cases eg
  replace x2 : w20.cell? ⟨gx, 2, none⟩ = some (.int .i64 1) := x2
  obtain ⟨g', eg, x3, -⟩ := OwnM.at' Ox.out (j := 3) (by decide)
  cases eg
  replace x3 : w20.cell? ⟨gx, 3, none⟩ = some (.int .i64 0) := x3
  obtain ⟨g', eg, x4, -⟩ := OwnM.at' Ox.out (j := 4) (by decide)
  cases eg
  replace x4 : w20.cell? ⟨gx, 4, none⟩ = some (.int .i64 2) := x4
  clear Ox
  obtain ⟨gy, rfl, y0, -⟩ := OwnM.at' Oy.out (j := 0) (by decide)
  replace y0 : w20.cell? ⟨gy, 0, none⟩ = some (.int .i64 0) := y0
  obtain ⟨g', eg, y1, -⟩ := OwnM.at' Oy.out (j := 1) (by decide)
  cases eg
  replace y1 : w20.cell? ⟨gy, 1, none⟩ = some (.int .i64 1) := y1
  obtain ⟨g', eg, y2, -⟩ := OwnM.at' Oy.out (j := 2) (by decide)
  cases eg
  replace y2 : w20.cell? ⟨gy, 2, none⟩ = some (.int .i64 2) := y2
  clear Oy
  obtain ⟨w21, hw21, mw21, tw21⟩ := made_keys w20 [kk 97]
  replace hw21 : w20.alloc (.cells #[.string ⟨#[97]⟩] 9) = w21 := hw21
  have Kp0 := Lib.hid tw21
  have HM21 := Lib.hid (HM20.out.trans' mw21)
  clear mw21 tw21 HM20
  go_wp2_with fail
  refine (of_any 1 1 1 (some ⟨w20.heap.size, 0, none⟩) w21).mono ?_
  rintro e w22 ⟨rfl, mw22⟩
  replace Kp0 := Lib.hid (Kp0.out.mod0 mw22)
  have HM22 := Lib.hid (HM21.out.trans' mw22)
  clear mw22 HM21 hw21
  obtain ⟨w23, hw23, mw23, tw23⟩ := made_keys w22 [kk 98]
  replace hw23 : w22.alloc (.cells #[.string ⟨#[98]⟩] 9) = w23 := hw23
  replace Kp0 := Lib.hid (Kp0.out.mod0 mw23)
  have Kp1 := Lib.hid tw23
  have HM23 := Lib.hid (HM22.out.trans' mw23)
  clear mw23 tw23 HM22
  go_wp2_with fail
  refine (of_any 1 1 1 (some ⟨w22.heap.size, 0, none⟩) w23).mono ?_
  rintro e w24 ⟨rfl, mw24⟩
  replace Kp0 := Lib.hid (Kp0.out.mod0 mw24)
  replace Kp1 := Lib.hid (Kp1.out.mod0 mw24)
  have HM24 := Lib.hid (HM23.out.trans' mw24)
  clear mw24 HM23 hw23
  have HYp : Hid (Calls Try.prog 8 #[cmdV (cOf 1 [kk 97], some ⟨w20.heap.size, 0, none⟩, 1), cmdV (cOf 1 [kk 98], some ⟨w22.heap.size, 0, none⟩, 1)] w24 fun e w' => e = .returned (.bool true) ∧ Mod [] w24 w') := Lib.hid (by
    have h := way_any (cOf 1 [kk 97], some ⟨w20.heap.size, 0, none⟩, 1) (cOf 1 [kk 98], some ⟨w22.heap.size, 0, none⟩, 1) w24 Kp0.out (by show (1 : Nat) ≤ _; decide) Kp1.out (by show (1 : Nat) ≤ _; decide)
    rwa [show way ((cOf 1 [kk 97], some ⟨w20.heap.size, 0, none⟩, 1) : Cm).1 ((cOf 1 [kk 98], some ⟨w22.heap.size, 0, none⟩, 1) : Cm).1 = true from wake3] at h)
  clear Kp0 Kp1
  go_wp2_with fail
  refine HYp.out.mono ?_
  rintro e w25 ⟨rfl, mw25⟩
  have HM25 := Lib.hid (HM24.out.trans' mw25)
  clear mw25 HM24 HYp
  obtain ⟨w26, hw26, mw26, tw26⟩ := made_keys w25 [kk 97]
  replace hw26 : w25.alloc (.cells #[.string ⟨#[97]⟩] 9) = w26 := hw26
  have Kq0 := Lib.hid tw26
  have HM26 := Lib.hid (HM25.out.trans' mw26)
  clear mw26 tw26 HM25
  go_wp2_with fail
  refine (of_any 1 1 1 (some ⟨w25.heap.size, 0, none⟩) w26).mono ?_
  rintro e w27 ⟨rfl, mw27⟩
  replace Kq0 := Lib.hid (Kq0.out.mod0 mw27)
  have HM27 := Lib.hid (HM26.out.trans' mw27)
  clear mw27 HM26 hw26
  obtain ⟨w28, hw28, mw28, tw28⟩ := made_keys w27 [kk 98]
  replace hw28 : w27.alloc (.cells #[.string ⟨#[98]⟩] 9) = w28 := hw28
  replace Kq0 := Lib.hid (Kq0.out.mod0 mw28)
  have Kq1 := Lib.hid tw28
  have HM28 := Lib.hid (HM27.out.trans' mw28)
  clear mw28 tw28 HM27
  go_wp2_with fail
  refine (of_any 2 1 1 (some ⟨w27.heap.size, 0, none⟩) w28).mono ?_
  rintro e w29 ⟨rfl, mw29⟩
  replace Kq0 := Lib.hid (Kq0.out.mod0 mw29)
  replace Kq1 := Lib.hid (Kq1.out.mod0 mw29)
  have HM29 := Lib.hid (HM28.out.trans' mw29)
  clear mw29 HM28 hw28
  have HYq : Hid (Calls Try.prog 8 #[cmdV (cOf 1 [kk 97], some ⟨w25.heap.size, 0, none⟩, 1), cmdV (cOf 2 [kk 98], some ⟨w27.heap.size, 0, none⟩, 1)] w29 fun e w' => e = .returned (.bool false) ∧ Mod [] w29 w') := Lib.hid (by
    have h := way_any (cOf 1 [kk 97], some ⟨w25.heap.size, 0, none⟩, 1) (cOf 2 [kk 98], some ⟨w27.heap.size, 0, none⟩, 1) w29 Kq0.out (by show (1 : Nat) ≤ _; decide) Kq1.out (by show (1 : Nat) ≤ _; decide)
    rwa [show way ((cOf 1 [kk 97], some ⟨w25.heap.size, 0, none⟩, 1) : Cm).1 ((cOf 2 [kk 98], some ⟨w27.heap.size, 0, none⟩, 1) : Cm).1 = false from wake4] at h)
  clear Kq0 Kq1
  go_wp2_with fail
  refine HYq.out.mono ?_
  rintro e w30 ⟨rfl, mw30⟩
  have HM30 := Lib.hid (HM29.out.trans' mw30)
  clear mw30 HM29 HYq
  go_wp2
  go_ret
  exact ⟨rfl, HM30.out⟩
end Go.Proofs.Ytkkjbeakmimmmaa
