/- The walks that put a command behind bytes. -/
import Derived.Test.YtaagfoeedngdjaaDoorCmd2
import Derived.Test.YtaagfoeedngdjaaDoorVarintW
import Derived.Test.YtaagfoeedngdjaaDoorRef01
import Derived.Test.YtaagfoeedngdjaaDoorRegion
namespace Go.Proofs.YtaagfoeedngdjaaDoor
open Go Go.RowKit Go.Lib

/-- A text's bytes. -/
def txB (s : ByteArray) : List UInt8 := enc7 s.size ++ s.data.toList
def keysB (l : List ByteArray) : List UInt8 := l.flatMap txB
/-- A command's bytes. -/
def oneB (c : Cd) : List UInt8 :=
  enc7 c.client ++ enc7 c.seq ++ enc7 c.kind ++ enc7 c.keys.length ++ keysB c.keys ++ txB c.old ++ txB c.fresh ++ enc7 (zig c.n)
theorem txB_len (s : ByteArray) : (txB s).length ≤ 11 + s.size := by
  unfold txB; rw [List.length_append, size_data]; have := (enc7_length s.size).2; omega
theorem keysB_snoc (l : List ByteArray) (k : Nat) (h : k < l.length) : keysB (l.take (k + 1)) = keysB (l.take k) ++ txB l[k] := by
  unfold keysB; rw [take_snoc l k h, List.flatMap_append]; simp
/-- Parts that are no greater than the laws look at. -/
structure Small (c : Cd) : Prop where
  keys : c.keys.length ≤ 100
  key : ∀ k ∈ c.keys, k.size ≤ 500
  old : c.old.size ≤ 500
  fresh : c.fresh.size ≤ 500

theorem ptext_any (ao : Option Addr) (len cap : Nat) (s : ByteArray) (xs : List UInt8) (w : World) (hlen : xs.length = len) (hown : OwnB w ao cap xs) (hb : len ≤ 140737400000000) (hs : s.size ≤ 1000000) :
    Calls Tryd.prog 28 #[.slice ao len cap, .string s] w (RetApp w ao (xs ++ txB s)) := by
  unfold txB; rw [← List.append_assoc]; exact vtext_any ao len cap s xs w hlen hown hb hs
theorem ptextref_any (s : ByteArray) (w : World) (h1 : s.size ≤ 1000000) : Calls Tryd.prog 34 #[.string s] w (RetApp w none (txB s)) := refText_any s w h1

/-- Where bytes lie in a call that writes behind them, and what has turned since w. -/
structure PutR (w : World) (ao a : Option Addr) (c : Nat) (xs : List UInt8) (wr : World) : Prop where
  own : OwnB wr a c xs
  mod : Mod (blk ao) w wr
  new : SameOrNew w wr ao a
theorem PutR.step {w wr w' : World} {ao a a' : Option Addr} {c c' : Nat} {xs ys : List UInt8} (h : PutR w ao a c xs wr) (o : OwnB w' a' c' ys) (m : Mod (blk a) wr w') (n : SameOrNew wr w' a a') : PutR w ao a' c' ys w' :=
  ⟨o, h.mod.transNew m h.new (fun _ hk => hk), h.new.trans n h.mod.size m.size⟩
theorem PutR.still {w wr w' : World} {ao a : Option Addr} {c : Nat} {xs : List UInt8} (h : PutR w ao a c xs wr) (m : Mod [] wr w') : PutR w ao a c xs w' :=
  ⟨h.own.mod0 m, h.mod.trans0 m, h.new.imp id (fun ⟨b, h1, h2, h3⟩ => ⟨b, h1, h2, Nat.lt_of_lt_of_le h3 m.size⟩)⟩
theorem back_keys {w w' : World} {a a' : Option Addr} (n : SameOrNew w w' a a') : ∀ k, k ∈ blk a' → k < w.heap.size → k ∈ blk a := fun k hk hl => (n.blk k hk).elim id (fun h => absurd hl (by omega))
theorem PutR.fresh {w wr : World} {ao a : Option Addr} {c : Nat} {xs : List UInt8} {g : Nat} (h : PutR w ao a c xs wr) (hg : g < w.heap.size) (hn : g ∉ blk ao) : g ∉ blk a := fun hk => (h.new.blk g hk).elim hn (by omega)

theorem box_facts (c : Cm) (w : World) : ∃ w1, w.alloc (.cells #[.int .u32 (c.1.client : Int), .int .u32 (c.1.seq : Int), .int .u8 (c.1.kind : Int), .slice c.2.1 c.1.keys.length c.2.2, .string c.1.old, .string c.1.fresh, .int .i64 c.1.n] 36) = w1 ∧
    Mod [] w w1 ∧ w1.heap.size = w.heap.size + 1 ∧ w1.cell? ⟨w.heap.size, 0, none⟩ = some (.int .u32 (c.1.client : Int)) ∧ w1.cell? ⟨w.heap.size, 1, none⟩ = some (.int .u32 (c.1.seq : Int)) ∧ w1.cell? ⟨w.heap.size, 2, none⟩ = some (.int .u8 (c.1.kind : Int)) ∧
    w1.cell? ⟨w.heap.size, 3, none⟩ = some (.slice c.2.1 c.1.keys.length c.2.2) ∧ w1.cell? ⟨w.heap.size, 4, none⟩ = some (.string c.1.old) ∧ w1.cell? ⟨w.heap.size, 5, none⟩ = some (.string c.1.fresh) ∧ w1.cell? ⟨w.heap.size, 6, none⟩ = some (.int .i64 c.1.n) := by
  have hb := heap_alloc_new w (.cells #[.int .u32 (c.1.client : Int), .int .u32 (c.1.seq : Int), .int .u8 (c.1.kind : Int), .slice c.2.1 c.1.keys.length c.2.2, .string c.1.old, .string c.1.fresh, .int .i64 c.1.n] 36)
  exact ⟨_, rfl, Mod.alloc _ _ _, by simp, cell_of_block hb, cell_of_block hb, cell_of_block hb, cell_of_block hb, cell_of_block hb, cell_of_block hb, cell_of_block hb⟩

set_option maxRecDepth 100000 in
set_option maxHeartbeats 4000000 in
theorem put_any (ao : Option Addr) (len cap : Nat) (xs : List UInt8) (c : Cm) (w : World) (hlen : xs.length = len) (hown : OwnB w ao cap xs) (hb : len ≤ 140737000000000)
    (hw : Wf c.1) (hsm : Small c.1) (hk : SeesT w c.2.1 c.1.keys) (hd : c.1.keys ≠ [] → ∀ k, k ∈ blk c.2.1 → k ∉ blk ao) :
    Calls Tryd.prog 13 #[.slice ao len cap, cmdV c] w (RetApp w ao (xs ++ oneB c.1)) := by
  obtain ⟨⟨client, seq, kind, keys, old, fresh, n⟩, kao, kcap⟩ := c
  obtain ⟨hw1, hw2, hw3, hw4, -, hw6, hw7, hw8, hw9⟩ := hw
  obtain ⟨s1, s2, s3, s4⟩ := hsm
  dsimp only at hw1 hw2 hw3 hw4 hw6 hw7 hw8 hw9 hk hd s1 s2 s3 s4
  have hga : w.heap.size ∉ blk ao := fun h => by have := Own.lt hown _ h; omega
  obtain ⟨w1, hw1', M1, z1, q0, q1, q2, q3, q4, q5, q6⟩ := box_facts (⟨client, seq, kind, keys, old, fresh, n⟩, kao, kcap) w
  dsimp only at hw1' q0 q1 q2 q3 q4 q5 q6
  have P0 := Lib.hid (PutR.mk (hown.mod0 M1) (Mod.refl (blk ao) w1) (.inl rfl))
  have HK := Lib.hid (hk.mod0 M1)
  have HN : Hid (∀ wr a c ys, PutR w1 ao a c ys wr → w.heap.size ∉ blk a) := Lib.hid (fun wr a c ys h => h.fresh (by omega) hga)
  have HC : Hid (∀ wr a c ys i v, PutR w1 ao a c ys wr → w1.cell? ⟨w.heap.size, i, none⟩ = some v → wr.cell? ⟨w.heap.size, i, none⟩ = some v) := Lib.hid (fun wr a c ys i v h hc => h.mod.cell hc hga)
  have HT : Hid (∀ wr a c ys, PutR w1 ao a c ys wr → SeesT wr kao keys) := Lib.hid (fun wr a c ys h => HK.out.mod h.mod hd)
  have HE : Hid (∀ wr a c ys, PutR w1 ao a c ys wr → ∀ e, (∃ n', e = Ending.returned (.slice a n' c) ∧ ys.length = n') → RetApp w ao ys e wr) := Lib.hid (by
    rintro wr a c ys h e ⟨n', rfl, hn'⟩
    exact ⟨a, n', c, rfl, hn', h.own, M1.nil.trans' h.mod, h.new.imp id (fun ⟨b, h1, h2, h3⟩ => ⟨b, h1, Nat.le_trans M1.size h2, h3⟩)⟩)
  have S2 := Lib.hid s2
  subst hlen
  clear hk hd s2 hown HK
  show Calls Tryd.prog 13 #[.slice ao xs.length cap, .agg #[.int .u32 (client : Int), .int .u32 (seq : Int), .int .u8 (kind : Int), .slice kao keys.length kcap, .string old, .string fresh, .int .i64 n]] w (RetApp w ao (xs ++ oneB ⟨client, seq, kind, keys, old, fresh, n⟩))
  have l1 := (enc7_length client).2
  have l2 := (enc7_length seq).2
  have l3 := (enc7_length kind).2
  have l4 := (enc7_length keys.length).2
  go_enter Tryd.func13, Tryd.ntmps13
  go_wp2_with fail
  clear hw1'
  refine (vuint_any ao _ cap client xs w1 rfl P0.out.own (by omega) (by omega)).mono ?_
  rintro e w2 ⟨a2, k2, c2, rfl, hk2, o2, m2, n2⟩
  have P2 := Lib.hid (P0.out.step o2 m2 n2)
  have hb2 : k2 ≤ xs.length + 11 := by rw [← hk2, List.length_append]; omega
  have q1' := HC.out _ _ _ _ _ _ P2.out q1
  have HL2 := Lib.hid hk2
  clear hk2 o2 m2 n2 P0
  go_wp2_with fail
  refine (vuint_any a2 _ c2 seq _ w2 HL2.out P2.out.own (by omega) (by omega)).mono ?_
  rintro e w3 ⟨a3, k3, c3, rfl, hk3, o3, m3, n3⟩
  have P3 := Lib.hid (P2.out.step o3 m3 n3)
  have hb3 : k3 ≤ xs.length + 22 := by rw [← hk3, List.length_append, HL2.out]; omega
  have q2' := HC.out _ _ _ _ _ _ P3.out q2
  have HL3 := Lib.hid hk3
  clear hk3 o3 m3 n3 P2 q1' HL2
  go_wp2_with fail
  refine (vuint_any a3 _ c3 kind _ w3 HL3.out P3.out.own (by omega) (by omega)).mono ?_
  rintro e w4 ⟨a4, k4, c4, rfl, hk4, o4, m4, n4⟩
  have P4 := Lib.hid (P3.out.step o4 m4 n4)
  have hb4 : k4 ≤ xs.length + 33 := by rw [← hk4, List.length_append, HL3.out]; omega
  have q3' := HC.out _ _ _ _ _ _ P4.out q3
  have HL4 := Lib.hid hk4
  clear hk4 o4 m4 n4 P3 q2' HL3
  go_wp2_with fail
  refine (vuint_any a4 _ c4 keys.length _ w4 HL4.out P4.out.own (by omega) (by omega)).mono ?_
  rintro e w5 ⟨a5, k5, c5, rfl, hk5, o5, m5, n5⟩
  have P5 := Lib.hid (P4.out.step o5 m5 n5)
  have hb5 : k5 ≤ xs.length + 44 := by rw [← hk5, List.length_append, HL4.out]; omega
  have q3' := HC.out _ _ _ _ _ _ P5.out q3
  have HL5 := Lib.hid hk5
  clear hk5 o5 m5 n5 P4 HL4
  go_wp2_with fail
  obtain ⟨ys, hys⟩ : ∃ ys, xs ++ enc7 client ++ enc7 seq ++ enc7 kind ++ enc7 keys.length = ys := ⟨_, rfl⟩
  have HY := Lib.hid hys
  have P5' : Hid (PutR w1 ao a5 c5 ys w5) := Lib.hid (hys ▸ P5.out)
  have HL5' : Hid (ys.length = k5) := Lib.hid (hys ▸ HL5.out)
  clear P5 HL5 hys
  go_loopw [0, 31] (fun b i wr => ∃ (k : Nat) (a : Option Addr) (kk c : Nat), k ≤ keys.length ∧ i = .int .i64 (k : Int) ∧ b = .slice a kk c ∧ (ys ++ keysB (keys.take k)).length = kk ∧ kk ≤ k5 + 511 * k ∧ PutR w1 ao a c (ys ++ keysB (keys.take k)) wr) (fun _ i _ => keys.length - (intOf i).toNat)
  case atStart => exact ⟨0, a5, k5, c5, Nat.zero_le _, rfl, rfl, by simpa [keysB] using HL5'.out, by omega, by simpa [keysB] using P5'.out⟩
  case round =>
    obtain ⟨k, a, kk, c, hk, rfl, rfl, hkk, hkb, hp⟩ := hrel
    have P := Lib.hid hp
    have HL := Lib.hid hkk
    clear hp hkk P5' HL5'
    by_cases hlt : k < keys.length
    · obtain ⟨b, off, rfl, p0⟩ := (HT.out _ _ _ _ P.out) k hlt
      have hz := S2.out _ (List.getElem_mem hlt)
      have HS := Lib.hid (keysB_snoc keys k hlt)
      obtain ⟨t, ht⟩ : ∃ t, keys[k] = t := ⟨_, rfl⟩
      rw [ht] at p0 hz
      have HTT := Lib.hid ht
      clear ht
      go_wp2_with fail
      refine (ptext_any a _ c t _ wr HL.out P.out.own (by omega) (by omega)).mono ?_
      rintro e w6 ⟨a6, k6, c6, rfl, hk6, o6, m6, n6⟩
      have hE : ys ++ keysB (keys.take (k + 1)) = ys ++ keysB (keys.take k) ++ txB t := by rw [HS.out, HTT.out, List.append_assoc]
      rw [← hE] at hk6 o6
      have P6 := Lib.hid (P.out.step o6 m6 n6)
      have hl6 := txB_len t
      have hb6 : k6 ≤ k5 + 511 * (k + 1) := by rw [← hk6, hE, List.length_append, HL.out]; omega
      have HL6 := Lib.hid hk6
      clear hk6 o6 m6 n6 hE
      go_wp2_with fail
      go_roundw
      case rel => exact ⟨k + 1, a6, k6, c6, by omega, by go_num, rfl, HL6.out, hb6, P6.out⟩
      case measure => simp [intOf]; omega
    · have hke : k = keys.length := by omega
      subst hke
      have q4' := HC.out _ _ _ _ _ _ P.out q4
      have q5' := HC.out _ _ _ _ _ _ P.out q5
      have q6' := HC.out _ _ _ _ _ _ P.out q6
      have hna := HN.out _ _ _ _ P.out
      rw [List.take_length] at P HL
      go_upto_region 10 with (fail)
      have l5 := txB_len old
      have l6 := txB_len fresh
      refine rest_start (blk a) 11 #[false, false, false, false, false, false, false, false, false, false, false] rfl (by kernel_rfl) (by kernel_rfl) ?_
      intro w6 m6
      have q4' := m6.cell q4' List.not_mem_nil
      have q5' := m6.cell q5' List.not_mem_nil
      have q6' := m6.cell q6' List.not_mem_nil
      have P6 := Lib.hid (P.out.still m6)
      clear m6 P
      refine rest_got (i := 0) (v := ?v1) rfl (by kernel_rfl) (by kernel_rfl) (by kernel_rfl) (fun _ _ _ h => h) (by rfl) ?y1 ?r1
      case y1 => (intro w9q hSwq; clear hSwq; go_simp; with_reducible rfl)
      try simp only [Act.put, List.setIfInBounds_toArray, List.set_cons_zero, List.set_cons_succ]
      refine rest_got (i := 1) (v := ?v2) rfl (by kernel_rfl) (by kernel_rfl) (by kernel_rfl) (fun _ _ _ h => h) (by rfl) ?y2 ?r2
      case y2 => (intro w9q hSwq; clear hSwq; go_simp; with_reducible rfl)
      try simp only [Act.put, List.setIfInBounds_toArray, List.set_cons_zero, List.set_cons_succ]
      refine rest_got (i := 2) (v := ?v3) rfl (by kernel_rfl) (by kernel_rfl) (by kernel_rfl) (fun _ _ _ h => h) (by rfl) ?y3 ?r3
      case y3 => ((intro w9' hm9'; have hc9' := Mod.cell hm9' q4' (by first | exact List.not_mem_nil | assumption | (simp; done) | (simp; omega)); clear hm9'; go_simp; with_reducible rfl))
      try simp only [Act.put, List.setIfInBounds_toArray, List.set_cons_zero, List.set_cons_succ]
      refine rest_got (i := 4) (v := ?v4) rfl (by kernel_rfl) (by kernel_rfl) (by kernel_rfl) (fun _ _ _ h => h) (by rfl) ?y4 ?r4
      case y4 => (intro w9q hSwq; clear hSwq; go_simp; with_reducible rfl)
      try simp only [Act.put, List.setIfInBounds_toArray, List.set_cons_zero, List.set_cons_succ]
      refine rest_got (i := 5) (v := ?v5) rfl (by kernel_rfl) (by kernel_rfl) (by kernel_rfl) (fun _ _ _ h => h) (by rfl) ?y5 ?r5
      case y5 => ((intro w9' hm9'; have hc9' := Mod.cell hm9' q5' (by first | exact List.not_mem_nil | assumption | (simp; done) | (simp; omega)); clear hm9'; go_simp; with_reducible rfl))
      try simp only [Act.put, List.setIfInBounds_toArray, List.set_cons_zero, List.set_cons_succ]
      refine rest_got (i := 7) (v := ?v6) rfl (by kernel_rfl) (by kernel_rfl) (by kernel_rfl) (fun _ _ _ h => h) (by rfl) ?y6 ?r6
      case y6 => (intro w9q hSwq; clear hSwq; go_simp; with_reducible rfl)
      try simp only [Act.put, List.setIfInBounds_toArray, List.set_cons_zero, List.set_cons_succ]
      refine rest_got (i := 8) (v := ?v7) rfl (by kernel_rfl) (by kernel_rfl) (by kernel_rfl) (fun _ _ _ h => h) (by rfl) ?y7 ?r7
      case y7 => ((intro w9' hm9'; have hc9' := Mod.cell hm9' q6' (by first | exact List.not_mem_nil | assumption | (simp; done) | (simp; omega)); clear hm9'; go_simp; with_reducible rfl))
      try simp only [Act.put, List.setIfInBounds_toArray, List.set_cons_zero, List.set_cons_succ]
      refine rest_one (i := 3) (by kernel_rfl) rfl (by rfl) ?_
      go_wp2_with fail
      refine (ptext_any a _ c old _ w6 HL.out P6.out.own (by omega) (by omega)).mono ?_
      rintro e w7 ⟨a7, k7, c7, rfl, hk7, o7, m7, n7⟩
      have P7 := Lib.hid (P6.out.step o7 m7 n7)
      have hb7 : k7 ≤ kk + 511 := by rw [← hk7, List.length_append, HL.out]; omega
      have HL7 := Lib.hid hk7
      go_wp2_with fail
      refine back_to (K1 := blk a7) m7 (back_keys n7) ?_
      clear hk7 o7 m7 n7 P6 q4' q5' q6' hna
      
      refine rest_one (i := 6) (by kernel_rfl) rfl (by rfl) ?_
      go_wp2_with fail
      refine (ptext_any a7 _ c7 fresh _ w7 HL7.out P7.out.own (by omega) (by omega)).mono ?_
      rintro e w8 ⟨a8, k8, c8, rfl, hk8, o8, m8, n8⟩
      have P8 := Lib.hid (P7.out.step o8 m8 n8)
      have hb8 : k8 ≤ k7 + 511 := by rw [← hk8, List.length_append, HL7.out]; omega
      have HL8 := Lib.hid hk8
      go_wp2_with fail
      refine back_to (K1 := blk a8) m8 (back_keys n8) ?_
      clear hk8 o8 m8 n8 P7 HL7
      
      refine rest_one (i := 9) (by kernel_rfl) rfl (by rfl) ?_
      go_wp2_with fail
      refine (vint_any a8 _ c8 n _ w8 HL8.out P8.out.own (by omega) hw8 hw9).mono ?_
      rintro e w9 ⟨a9, k9, c9, rfl, hk9, o9, m9, n9⟩
      have P9 := Lib.hid (P8.out.step o9 m9 n9)
      have HL9 := Lib.hid hk9
      go_wp2_with fail
      refine back_to (K1 := blk a9) m9 (back_keys n9) ?_
      clear hk9 o9 m9 n9 P8 HL8
      refine rest_got (i := 10) (v := ?v8) rfl (by kernel_rfl) (by kernel_rfl) (by kernel_rfl) (fun _ _ _ h => h) (by rfl) ?y8 ?r8
      case y8 => (intro w9q hSwq; clear hSwq; go_simp; with_reducible rfl)
      try simp only [Act.put, List.setIfInBounds_toArray, List.set_cons_zero, List.set_cons_succ]
      refine rest_done (by kernel_rfl) ?_ _
      go_wp2
      go_ret
      have hE : xs ++ oneB ⟨client, seq, kind, keys, old, fresh, n⟩ = ys ++ keysB keys ++ txB old ++ txB fresh ++ enc7 (zig n) := by
        rw [← HY.out]; simp only [oneB, List.append_assoc]
      rw [hE]
      exact HE.out _ _ _ _ P9.out _ ⟨k9, rfl, HL9.out⟩
end Go.Proofs.YtaagfoeedngdjaaDoor
