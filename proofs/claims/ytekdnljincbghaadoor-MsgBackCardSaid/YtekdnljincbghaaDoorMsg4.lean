/- A message's bytes; the walks of msg.lay and what it calls. -/
import Derived.Test.YtekdnljincbghaaDoorMsg3
import Derived.Test.YtekdnljincbghaaDoorBallot3
import Derived.Test.YtekdnljincbghaaDoorStr
import Derived.Test.YtekdnljincbghaaDoorRead
import Derived.Deep.CutRange
namespace Go.Proofs.YtekdnljincbghaaDoor
open Go Go.RowKit Go.Lib

def txL (l : List UInt8) : List UInt8 := enc7 l.length ++ l
def ballB (n : Nat) (r : Int) : List UInt8 := enc7 n ++ enc7 r.toNat
def voteB (v : Vd × List UInt8) : List UInt8 := enc7 v.1.slot ++ ballB v.1.n v.1.r ++ txL v.2
/-- A field's bytes, by its letter. -/
def fieldB (d : Md) (c : UInt8) : List UInt8 :=
  if c = 98 then ballB d.h.bn d.h.br else if c = 99 then enc7 d.h.commit else if c = 102 then enc7 d.h.first else if c = 108 then enc7 d.h.last else if c = 112 then txL d.snap
  else if c = 115 then enc7 d.batches.length ++ d.batches.flatMap txL else if c = 118 then enc7 d.votes.length ++ d.votes.flatMap voteB else []
/-- What lies behind the sum. -/
def insideB (d : Md) : List UInt8 := enc7 d.h.kind ++ (Fl d.h.kind).flatMap (fieldB d)
theorem txL_len (l : List UInt8) : (txL l).length ≤ l.length + 11 := by
  unfold txL
  rw [List.length_append]
  have := (enc7_length l.length).2
  omega
/-- Where bytes lie in a call that writes behind them, and what has turned since w. -/
structure PutR (w : World) (ao a : Option Addr) (c : Nat) (xs : List UInt8) (wr : World) : Prop where
  own : OwnB wr a c xs
  mod : Mod (blk ao) w wr
  new : SameOrNew w wr ao a
theorem PutR.start {w : World} {ao : Option Addr} {c : Nat} {xs : List UInt8} (h : OwnB w ao c xs) : PutR w ao ao c xs w := ⟨h, Mod.refl _ _, .inl rfl⟩
theorem PutR.step {w wr w' : World} {ao a a' : Option Addr} {c c' : Nat} {xs ys : List UInt8} (h : PutR w ao a c xs wr) (o : OwnB w' a' c' ys) (m : Mod (blk a) wr w') (n : SameOrNew wr w' a a') : PutR w ao a' c' ys w' :=
  ⟨o, h.mod.transNew m h.new (fun _ hk => hk), h.new.trans n h.mod.size m.size⟩
theorem PutR.still {w wr w' : World} {ao a : Option Addr} {c : Nat} {xs : List UInt8} (h : PutR w ao a c xs wr) (m : Mod [] wr w') : PutR w ao a c xs w' :=
  ⟨h.own.mod0 m, h.mod.trans0 m, h.new.imp id (fun ⟨b, h1, h2, h3⟩ => ⟨b, h1, h2, Nat.lt_of_lt_of_le h3 m.size⟩)⟩
theorem back_keys {w w' : World} {a a' : Option Addr} (n : SameOrNew w w' a a') : ∀ k, k ∈ blk a' → k < w.heap.size → k ∈ blk a := fun k hk hl => (n.blk k hk).elim id (fun h => absurd hl (by omega))
theorem PutR.fresh {w wr : World} {ao a : Option Addr} {c : Nat} {xs : List UInt8} {g : Nat} (h : PutR w ao a c xs wr) (hg : g < w.heap.size) (hn : g ∉ blk ao) : g ∉ blk a := fun hk => (h.new.blk g hk).elim hn (by omega)
/-- From an earlier world, where nothing was known of the bytes' place. -/
theorem PutR.ret {w0 w wr : World} {ao a : Option Addr} {c : Nat} {xs : List UInt8} {n : Nat} (h : PutR w ao a c xs wr) (m : Mod [] w0 w) (hn : xs.length = n) : RetApp w0 ao xs (.returned (.slice a n c)) wr :=
  ⟨a, n, c, rfl, hn, h.own, m.nil.trans' h.mod, h.new.imp id (fun ⟨b, h1, h2, h3⟩ => ⟨b, h1, Nat.le_trans m.size h2, h3⟩)⟩
theorem PutR.base {W w wr : World} {ao a : Option Addr} {c : Nat} {xs : List UInt8} (h : PutR w ao a c xs wr) (m : Mod [] W w) (hd : ∀ k, k ∈ blk ao → W.heap.size ≤ k) : Mod [] W wr :=
  m.trans h.mod (fun k hk hl => by have := hd k hk; omega)
theorem PutR.off {W w wr : World} {ao a : Option Addr} {c : Nat} {xs : List UInt8} (h : PutR w ao a c xs wr) (m : Mod [] W w) (hd : ∀ k, k ∈ blk ao → W.heap.size ≤ k) : ∀ k, k ∈ blk a → W.heap.size ≤ k := fun k hk => by
  rcases h.new.blk k hk with h1 | h1
  · exact hd k h1
  · exact Nat.le_trans m.size h1

theorem text_any (ao : Option Addr) (len cap : Nat) (l xs : List UInt8) (w : World) (hlen : xs.length = len) (hown : OwnB w ao cap xs) (hb : len ≤ 140737400000000) (hs : l.length ≤ 1000000) :
    Calls Tryd.prog 51 #[.slice ao len cap, .string ⟨l.toArray⟩] w (RetApp w ao (xs ++ txL l)) := by
  unfold txL
  rw [← List.append_assoc]
  have h := vtext_any ao len cap ⟨l.toArray⟩ xs w hlen hown hb (by show l.toArray.size ≤ _; simpa using hs)
  have e1 : (⟨l.toArray⟩ : ByteArray).size = l.length := by show l.toArray.size = _; simp
  rw [e1] at h
  exact h
/-- lay's inner function for a batch. -/
theorem lay1_any (ao : Option Addr) (len cap : Nat) (xs : List UInt8) (x : Bs) (w : World) (hlen : xs.length = len) (hown : OwnB w ao cap xs) (hb : len ≤ 140737400000000) (hx : Sees w x.2.1 x.1) (hl : x.1.length ≤ 1000000) :
    Calls Tryd.prog 53 #[.slice ao len cap, .slice x.2.1 x.1.length x.2.2] w (RetApp w ao (xs ++ txL x.1)) := by
  obtain ⟨l, xo, xc⟩ := x
  dsimp only at hx hl ⊢
  have HX := Lib.hid hx
  have HT := Lib.hid (text_any ao len cap l xs w hlen hown hb hl)
  clear hx hown hlen
  go_enter Tryd.func53, Tryd.ntmps53
  go_wp2_with (first | (refine wpl_str (dst := some 7) _ xo _ xc l rfl rfl HX.out (by rfl) ?_) | fail)
  refine HT.out.mono ?_
  rintro e w1 ⟨a, n, c, rfl, h1⟩
  have H1 := Lib.hid h1
  clear h1 HT
  go_wp2_with fail
  go_ret
  exact ⟨a, n, c, rfl, H1.out⟩

theorem flat_take {α : Type} (f : α → List UInt8) (l : List α) (k : Nat) (hk : k < l.length) : (l.take (k + 1)).flatMap f = (l.take k).flatMap f ++ f l[k] := by
  rw [List.take_succ_eq_append_getElem hk, List.flatMap_append]
  simp
set_option maxRecDepth 100000 in
set_option maxHeartbeats 4000000 in
theorem row1_any (ao : Option Addr) (len cap : Nat) (xs : List UInt8) (so : Option Addr) (sc : Nat) (bs : List Bs) (W w : World) (hlen : xs.length = len) (hown : OwnB w ao cap xs) (hb : len ≤ 100000000) (hW : Mod [] W w) (hd : ∀ k, k ∈ blk ao → W.heap.size ≤ k)
    (hs : SeesBs W so bs) (hn : bs.length ≤ 300) (hl : ∀ b ∈ bs, b.1.length ≤ 10000) :
    Calls Tryd.prog 52 #[.slice ao len cap, .slice so bs.length sc, .func (.func 53) #[] #[]] w (RetApp w ao (xs ++ (enc7 bs.length ++ (dB bs).flatMap txL))) := by
  obtain ⟨bl, hbl⟩ : ∃ n, bs.length = n := ⟨_, rfl⟩
  have P0 := Lib.hid (PutR.start hown)
  have HBL := Lib.hid hbl
  have HW := Lib.hid hW
  have HD := Lib.hid hd
  have HS := Lib.hid hs
  have HL := Lib.hid hl
  have HXL := Lib.hid hlen
  rw [hbl] at hn ⊢
  have el := (enc7_length bl).2
  clear hown hbl hW hd hs hl hlen
  have e1 : IntKind.u64.wrap (bl : Int) = (bl : Int) := IntWalk.u64_in _ (by omega)
  go_enter Tryd.func52, Tryd.ntmps52
  go_wp2_with fail
  clear e1
  refine (vuint_any ao len cap bl xs w HXL.out P0.out.own (by omega) (by omega)).mono ?_
  rintro e w1 ⟨a1, n1, c1, rfl, k1, o1, m1, s1⟩
  have P1 := Lib.hid (P0.out.step o1 m1 s1)
  have HK1 := Lib.hid k1
  have hn1 : n1 ≤ len + 11 := by rw [← k1, List.length_append, HXL.out]; omega
  clear k1 o1 m1 s1 P0
  go_wp2_with fail
  go_loopw [0, 16] (fun s0 s16 wr => ∃ (k : Nat) (a : Option Addr) (kk c : Nat), k ≤ bl ∧ s16 = .int .i64 (k : Int) ∧ s0 = .slice a kk c ∧ (xs ++ enc7 bl ++ ((dB bs).take k).flatMap txL).length = kk ∧ kk ≤ n1 + 10011 * k ∧ PutR w ao a c (xs ++ enc7 bl ++ ((dB bs).take k).flatMap txL) wr) (fun _ s16 _ => bl - (intOf s16).toNat)
  case atStart => exact ⟨0, a1, n1, c1, Nat.zero_le _, rfl, rfl, by simpa using HK1.out, by omega, by simpa using P1.out⟩
  case round =>
    obtain ⟨k, a, kk, c, hk, rfl, rfl, hkk, hkb, hp⟩ := hrel
    rename World => wr
    have P := Lib.hid hp
    have HKK := Lib.hid hkk
    clear hp hkk P1 HK1
    by_cases hlt : k < bl
    · have hkl : k < bs.length := by rw [HBL.out]; exact hlt
      have hlt2 : (k : Int) < (bl : Int) := by omega
      obtain ⟨b, off, rfl, hc⟩ := HS.out.batch hkl
      obtain ⟨p0, p1⟩ := hc wr (P.out.base HW.out HD.out)
      have hz := HL.out _ (List.getElem_mem hkl)
      have hft := flat_take txL (dB bs) k (by rw [dB_length]; exact hkl)
      have hg : (dB bs)[k]'(by rw [dB_length]; exact hkl) = bs[k].1 := by unfold dB; rw [List.getElem_map]
      rw [hg] at hft
      obtain ⟨⟨l, xo, xc⟩, hx⟩ : ∃ x, bs[k] = x := ⟨_, rfl⟩
      rw [hx] at p0 p1 hz hft
      dsimp only at p0 p1 hz hft
      have HFT := Lib.hid hft
      have HC := Lib.hid (lay1_any a kk c _ (l, xo, xc) wr HKK.out P.out.own (by omega) p1 (by dsimp only; omega))
      clear hc hx hft hg p1
      go_wp2_with fail
      refine HC.out.mono ?_
      rintro e w2 ⟨a2, n2, c2, rfl, k2, o2, m2, s2⟩
      have hE : xs ++ enc7 bl ++ ((dB bs).take (k + 1)).flatMap txL = xs ++ enc7 bl ++ ((dB bs).take k).flatMap txL ++ txL l := by rw [HFT.out, List.append_assoc, List.append_assoc, List.append_assoc]
      rw [← hE] at k2 o2
      have P2 := Lib.hid (P.out.step o2 m2 s2)
      have hl2 := txL_len l
      have hb2 : n2 ≤ n1 + 10011 * (k + 1) := by rw [← k2, hE, List.length_append, HKK.out]; omega
      have HK2 := Lib.hid k2
      clear k2 o2 m2 s2 hE HC p0 HFT
      go_wp2_with fail
      go_roundw
      case rel => exact ⟨k + 1, a2, n2, c2, by omega, by go_num, rfl, HK2.out, hb2, P2.out⟩
      case measure => simp [intOf]; omega
    · have hke : k = bl := by omega
      subst hke
      have hT : (dB bs).take k = dB bs := List.take_of_length_le (by rw [dB_length, HBL.out]; exact Nat.le_refl _)
      rw [hT, List.append_assoc] at P HKK
      clear hT
      go_wp2_with fail
      go_ret
      exact P.out.ret (Mod.refl _ _) HKK.out

theorem reads_strE {K : List Nat} {w : World} {dst : Option Tmp} {ty : TypeId} {pos : String} {after : Array Edge} {gd : Option (Nat × Bool)} (ev : Operand → Value) (x : Operand)
    (so : Option Addr) (m c : Nat) (l : List UInt8) (hx : ev x = .slice so m c) (hl : l.length = m) (hsees : Sees w so l) (hk : l ≠ [] → ∀ k, k ∈ blk so → k ∉ K) :
    ∀ w', Mod K w w' → (execOp ev ⟨dst, .convert 27 9 x, ty, pos, after, gd⟩).run Tryd.prog w' = .ok (.value (.string ⟨l.toArray⟩)) w' := by
  subst hl
  intro w' hm
  have hr := run_string_of (P := Tryd.prog) w' 27 9 5 Tryd.underlying27 Tryd.underlying5 Tryd.underlying9 so c l (hsees.mod' hm hk)
  unfold execOp
  simp [hx, hr]
/-- lay's inner function for a vote. -/
theorem lay2_any (ao : Option Addr) (len cap : Nat) (xs : List UInt8) (v : Vm) (w : World) (hlen : xs.length = len) (hown : OwnB w ao cap xs) (hb : len ≤ 140737000000000) (hx : Sees w v.2.2.1 v.2.1) (hd : v.2.1 ≠ [] → ∀ k, k ∈ blk v.2.2.1 → k ∉ blk ao) (hl : v.2.1.length ≤ 1000000)
    (hw : WfV v.1) (hr : 0 ≤ v.1.r) :
    Calls Tryd.prog 55 #[.slice ao len cap, .agg #[.int .u64 (v.1.slot : Int), .int .u64 (v.1.n : Int), .int .i64 v.1.r, .slice v.2.2.1 v.2.1.length v.2.2.2]] w (RetApp w ao (xs ++ voteB (v.1, v.2.1))) := by
  obtain ⟨⟨slot, n, r⟩, l, xo, xc⟩ := v
  unfold WfV at hw
  dsimp only at hx hl hw hr hd ⊢
  obtain ⟨rn, rfl⟩ : ∃ rn : Nat, r = (rn : Int) := ⟨r.toNat, by omega⟩
  have hlt := Own.lt hown
  have hbk : w.heap.size ∉ blk ao := fun h => by have := hlt _ h; omega
  obtain ⟨w1, hw1, A1, m1⟩ : ∃ x, w.alloc (.cells #[.int .u64 (slot : Int), .int .u64 (n : Int), .int .i64 (rn : Int), .slice xo l.length xc] 52) = x ∧ x.heap[w.heap.size]? = some (.cells #[.int .u64 (slot : Int), .int .u64 (n : Int), .int .i64 (rn : Int), .slice xo l.length xc] 52 (0, 0)) ∧ Mod [] w x := ⟨_, rfl, heap_alloc_new w _, Mod.alloc _ _ _⟩
  have P1 := Lib.hid (PutR.start (hown.mod0 m1))
  have HX := Lib.hid (hx.mod0 m1)
  have HA := Lib.hid A1
  have M1 := Lib.hid m1
  have HD := Lib.hid hd
  have HXL := Lib.hid hlen
  have l1 := (enc7_length slot).2
  have l2 := (enc7_length n).2
  have l3 := (enc7_length rn).2
  clear hown hx A1 m1 hd hlt hlen
  go_enter Tryd.func55, Tryd.ntmps55
  go_upto_region 1 with (fail)
  clear hw1
  refine rest_start (blk ao) 12 #[false, false, false, false, false, false, false, false, false, false, false, false] rfl (by kernel_rfl) (by kernel_rfl) ?_
  intro w2 m2
  have b0 := cell_of_block (i := 0) (m2.get HA.out List.not_mem_nil)
  have b1 := cell_of_block (i := 1) (m2.get HA.out List.not_mem_nil)
  have b2 := cell_of_block (i := 2) (m2.get HA.out List.not_mem_nil)
  have b3 := cell_of_block (i := 3) (m2.get HA.out List.not_mem_nil)
  have HX2 := Lib.hid (HX.out.mod0 m2)
  have P2 := Lib.hid (P1.out.still m2)
  clear m2 P1 HX
  refine rest_got (i := 0) (v := ?v1) rfl (by kernel_rfl) (by kernel_rfl) (by kernel_rfl) (fun _ _ _ h => h) (by rfl) ?y1 ?r1
  case y1 => (intro w9q hSwq; clear hSwq; go_simp; with_reducible rfl)
  try simp only [Act.put, List.setIfInBounds_toArray, List.set_cons_zero, List.set_cons_succ]
  refine rest_got (i := 1) (v := ?v2) rfl (by kernel_rfl) (by kernel_rfl) (by kernel_rfl) (fun _ _ _ h => h) (by rfl) ?y2 ?r2
  case y2 => (intro w9q hSwq; clear hSwq; go_simp; with_reducible rfl)
  try simp only [Act.put, List.setIfInBounds_toArray, List.set_cons_zero, List.set_cons_succ]
  refine rest_got (i := 2) (v := ?v3) rfl (by kernel_rfl) (by kernel_rfl) (by kernel_rfl) (fun _ _ _ h => h) (by rfl) ?y3 ?r3
  case y3 => ((intro w9' hm9'; have hc9' := Mod.cell hm9' b0 (by first | exact List.not_mem_nil | assumption | (simp; done) | (simp; omega)); clear hm9'; go_simp; with_reducible rfl))
  try simp only [Act.put, List.setIfInBounds_toArray, List.set_cons_zero, List.set_cons_succ]
  refine rest_got (i := 4) (v := ?v4) rfl (by kernel_rfl) (by kernel_rfl) (by kernel_rfl) (fun _ _ _ h => h) (by rfl) ?y4 ?r4
  case y4 => (intro w9q hSwq; clear hSwq; go_simp; with_reducible rfl)
  try simp only [Act.put, List.setIfInBounds_toArray, List.set_cons_zero, List.set_cons_succ]
  refine rest_got (i := 5) (v := ?v5) rfl (by kernel_rfl) (by kernel_rfl) (by kernel_rfl) (fun _ _ _ h => h) (by rfl) ?y5 ?r5
  case y5 => ((intro w9' hm9'; have hc9' := Mod.cell hm9' b1 (by first | exact List.not_mem_nil | assumption | (simp; done) | (simp; omega)); have hd9' := Mod.cell hm9' b2 (by first | exact List.not_mem_nil | assumption | (simp; done) | (simp; omega)); clear hm9'; go_simp; with_reducible rfl))
  try simp only [Act.put, List.setIfInBounds_toArray, List.set_cons_zero, List.set_cons_succ]
  refine rest_got (i := 7) (v := ?v6) rfl (by kernel_rfl) (by kernel_rfl) (by kernel_rfl) (fun _ _ _ h => h) (by rfl) ?y6 ?r6
  case y6 => (intro w9q hSwq; clear hSwq; go_simp; with_reducible rfl)
  try simp only [Act.put, List.setIfInBounds_toArray, List.set_cons_zero, List.set_cons_succ]
  refine rest_got (i := 8) (v := ?v7) rfl (by kernel_rfl) (by kernel_rfl) (by kernel_rfl) (fun _ _ _ h => h) (by rfl) ?y7 ?r7
  case y7 => ((intro w9' hm9'; have hc9' := Mod.cell hm9' b3 (by first | exact List.not_mem_nil | assumption | (simp; done) | (simp; omega)); clear hm9'; go_simp; with_reducible rfl))
  try simp only [Act.put, List.setIfInBounds_toArray, List.set_cons_zero, List.set_cons_succ]
  refine rest_got (i := 9) (v := ?v8) rfl (by kernel_rfl) (by kernel_rfl) (by kernel_rfl) (fun _ _ _ h => h) (by rfl) ?y8 ?r8
  case y8 => ((intro w9' hm9'; refine Eq.trans (reads_strE _ _ xo l.length xc l rfl rfl HX2.out HD.out w9' hm9') ?_; with_reducible rfl))
  try simp only [Act.put, List.setIfInBounds_toArray, List.set_cons_zero, List.set_cons_succ]
  refine rest_one (i := 3) (by kernel_rfl) rfl (by rfl) ?_
  go_wp2_with fail
  refine (vuint_any ao len cap slot xs w2 HXL.out P2.out.own (by omega) (by omega)).mono ?_
  rintro e w3 ⟨a3, n3, c3, rfl, k3, o3, m3, s3⟩
  have P3 := Lib.hid (P2.out.step o3 m3 s3)
  have hn3 : n3 ≤ len + 11 := by rw [← k3, List.length_append, HXL.out]; omega
  have HK3 := Lib.hid k3
  go_wp2_with fail
  refine back_to (K1 := blk a3) m3 (back_keys s3) ?_
  clear k3 o3 m3 s3 P2 b0 b1 b2 b3 HX2 hbk
  
  refine rest_one (i := 6) (by kernel_rfl) rfl (by rfl) ?_
  go_wp2_with fail
  refine (put_any a3 n3 c3 n rn _ w3 HK3.out P3.out.own (by omega) (by omega) (by omega)).mono ?_
  rintro e w4 ⟨a4, n4, c4, rfl, k4, o4, m4, s4⟩
  have P4 := Lib.hid (P3.out.step o4 m4 s4)
  have hn4 : n4 ≤ n3 + 22 := by rw [← k4, List.length_append, List.length_append, HK3.out]; omega
  have HK4 := Lib.hid k4
  go_wp2_with fail
  refine back_to (K1 := blk a4) m4 (back_keys s4) ?_
  clear k4 o4 m4 s4 P3
  
  refine rest_one (i := 10) (by kernel_rfl) rfl (by rfl) ?_
  go_wp2_with fail
  refine (text_any a4 n4 c4 l _ w4 HK4.out P4.out.own (by omega) hl).mono ?_
  rintro e w5 ⟨a5, n5, c5, rfl, k5, o5, m5, s5⟩
  have P5 := Lib.hid (P4.out.step o5 m5 s5)
  have HK5 := Lib.hid k5
  go_wp2_with fail
  refine back_to (K1 := blk a5) m5 (back_keys s5) ?_
  clear k5 o5 m5 s5 P4
  refine rest_got (i := 11) (v := ?v9) rfl (by kernel_rfl) (by kernel_rfl) (by kernel_rfl) (fun _ _ _ h => h) (by rfl) ?y9 ?r9
  case y9 => (intro w9q hSwq; clear hSwq; go_simp; with_reducible rfl)
  try simp only [Act.put, List.setIfInBounds_toArray, List.set_cons_zero, List.set_cons_succ]
  refine rest_done (by kernel_rfl) ?_ _
  go_wp2
  go_ret
  have hE : xs ++ voteB (⟨slot, n, (rn : Int)⟩, l) = xs ++ enc7 slot ++ enc7 n ++ enc7 rn ++ txL l := by
    unfold voteB ballB
    simp only [List.append_assoc, Int.toNat_natCast]
  rw [hE]
  exact P5.out.ret M1.out HK5.out

theorem voteB_len (v : Vd × List UInt8) : (voteB v).length ≤ v.2.length + 44 := by
  unfold voteB ballB
  have h1 := (enc7_length v.1.slot).2
  have h2 := (enc7_length v.1.n).2
  have h3 := (enc7_length v.1.r.toNat).2
  have h4 := txL_len v.2
  simp only [List.length_append]
  omega
set_option maxRecDepth 100000 in
set_option maxHeartbeats 4000000 in
theorem row2_any (ao : Option Addr) (len cap : Nat) (xs : List UInt8) (so : Option Addr) (sc : Nat) (vs : List Vm) (W w : World) (hlen : xs.length = len) (hown : OwnB w ao cap xs) (hb : len ≤ 100000000) (hW : Mod [] W w) (hd : ∀ k, k ∈ blk ao → W.heap.size ≤ k)
    (hs : SeesVs W so vs) (hn : vs.length ≤ 300) (hl : ∀ v ∈ vs, v.2.1.length ≤ 10000) (hw : ∀ v ∈ vs, WfV v.1) (hr : ∀ v ∈ vs, 0 ≤ v.1.r) :
    Calls Tryd.prog 54 #[.slice ao len cap, .slice so vs.length sc, .func (.func 55) #[] #[]] w (RetApp w ao (xs ++ (enc7 vs.length ++ (dV vs).flatMap voteB))) := by
  obtain ⟨bl, hbl⟩ : ∃ n, vs.length = n := ⟨_, rfl⟩
  have P0 := Lib.hid (PutR.start hown)
  have HBL := Lib.hid hbl
  have HW := Lib.hid hW
  have HD := Lib.hid hd
  have HS := Lib.hid hs
  have HL := Lib.hid hl
  have HWV := Lib.hid hw
  have HR := Lib.hid hr
  have HXL := Lib.hid hlen
  rw [hbl] at hn ⊢
  have el := (enc7_length bl).2
  clear hown hbl hW hd hs hl hlen hw hr
  have e1 : IntKind.u64.wrap (bl : Int) = (bl : Int) := IntWalk.u64_in _ (by omega)
  go_enter Tryd.func54, Tryd.ntmps54
  go_wp2_with fail
  clear e1
  refine (vuint_any ao len cap bl xs w HXL.out P0.out.own (by omega) (by omega)).mono ?_
  rintro e w1 ⟨a1, n1, c1, rfl, k1, o1, m1, s1⟩
  have P1 := Lib.hid (P0.out.step o1 m1 s1)
  have HK1 := Lib.hid k1
  have hn1 : n1 ≤ len + 11 := by rw [← k1, List.length_append, HXL.out]; omega
  clear k1 o1 m1 s1 P0
  go_wp2_with fail
  go_loopw [0, 16] (fun s0 s16 wr => ∃ (k : Nat) (a : Option Addr) (kk c : Nat), k ≤ bl ∧ s16 = .int .i64 (k : Int) ∧ s0 = .slice a kk c ∧ (xs ++ enc7 bl ++ ((dV vs).take k).flatMap voteB).length = kk ∧ kk ≤ n1 + 10044 * k ∧ PutR w ao a c (xs ++ enc7 bl ++ ((dV vs).take k).flatMap voteB) wr) (fun _ s16 _ => bl - (intOf s16).toNat)
  case atStart => exact ⟨0, a1, n1, c1, Nat.zero_le _, rfl, rfl, by simpa using HK1.out, by omega, by simpa using P1.out⟩
  case round =>
    obtain ⟨k, a, kk, c, hk, rfl, rfl, hkk, hkb, hp⟩ := hrel
    rename World => wr
    have P := Lib.hid hp
    have HKK := Lib.hid hkk
    clear hp hkk P1 HK1
    by_cases hlt : k < bl
    · have hkl : k < vs.length := by rw [HBL.out]; exact hlt
      have hlt2 : (k : Int) < (bl : Int) := by omega
      obtain ⟨b, off, rfl, hc⟩ := HS.out.vote hkl
      have hWr := P.out.base HW.out HD.out
      have hsz := hWr.size
      obtain ⟨p0, p1, p2, p3, p4⟩ := hc wr hWr
      have hz := HL.out _ (List.getElem_mem hkl)
      have hwv := HWV.out _ (List.getElem_mem hkl)
      have hrv := HR.out _ (List.getElem_mem hkl)
      have hft := flat_take voteB (dV vs) k (by rw [dV_length]; exact hkl)
      have hg : (dV vs)[k]'(by rw [dV_length]; exact hkl) = (vs[k].1, vs[k].2.1) := by unfold dV; rw [List.getElem_map]
      rw [hg] at hft
      have hpW := (hc W (Mod.refl _ _)).2.2.2.2
      have hoff := P.out.off HW.out HD.out
      obtain ⟨⟨⟨slot, n, r⟩, l, xo, xc⟩, hx⟩ : ∃ x, vs[k] = x := ⟨_, rfl⟩
      rw [hx] at p0 p1 p2 p3 p4 hz hft hwv hrv hpW
      dsimp only at p0 p1 p2 p3 p4 hz hft hrv hpW
      have HFT := Lib.hid hft
      obtain ⟨w1, hw1, A1, m1⟩ : ∃ x, wr.alloc (.cells #[.int .u64 (slot : Int), .int .u64 (n : Int), .int .i64 r, .slice xo l.length xc] 52) = x ∧ x.heap[wr.heap.size]? = some (.cells #[.int .u64 (slot : Int), .int .u64 (n : Int), .int .i64 r, .slice xo l.length xc] 52 (0, 0)) ∧ Mod [] wr x := ⟨_, rfl, heap_alloc_new wr _, Mod.alloc _ _ _⟩
      have b0 := cell_of_block (i := 0) A1
      have b1 := cell_of_block (i := 1) A1
      have b2 := cell_of_block (i := 2) A1
      have b3 := cell_of_block (i := 3) A1
      have P1 := Lib.hid (P.out.still m1)
      have HC := Lib.hid (lay2_any a kk c _ (⟨slot, n, r⟩, l, xo, xc) w1 HKK.out P1.out.own (by omega) (p4.mod0 m1) (fun hne k hk ha => by
        have h1 := hpW.lt hne k hk
        have h2 := hoff k ha
        omega) (by dsimp only; omega) hwv hrv)
      clear hc hx hft hg p4 A1 m1 P hpW hoff hWr hwv
      go_wp2_with fail
      refine HC.out.mono ?_
      rintro e w2 ⟨a2, n2, c2, rfl, k2, o2, m2, s2⟩
      have hE : xs ++ enc7 bl ++ ((dV vs).take (k + 1)).flatMap voteB = xs ++ enc7 bl ++ ((dV vs).take k).flatMap voteB ++ voteB (⟨slot, n, r⟩, l) := by rw [HFT.out, List.append_assoc, List.append_assoc, List.append_assoc]
      rw [← hE] at k2 o2
      have P2 := Lib.hid (P1.out.step o2 m2 s2)
      have hl2 := voteB_len (⟨slot, n, r⟩, l)
      dsimp only at hl2
      have hb2 : n2 ≤ n1 + 10044 * (k + 1) := by rw [← k2, hE, List.length_append, HKK.out]; omega
      have HK2 := Lib.hid k2
      clear k2 o2 m2 s2 hE HC p0 p1 p2 p3 HFT hw1 b0 b1 b2 b3
      go_wp2_with fail
      go_roundw
      case rel => exact ⟨k + 1, a2, n2, c2, by omega, by go_num, rfl, HK2.out, hb2, P2.out⟩
      case measure => simp [intOf]; omega
    · have hke : k = bl := by omega
      subst hke
      have hT : (dV vs).take k = dV vs := List.take_of_length_le (by rw [dV_length, HBL.out]; exact Nat.le_refl _)
      rw [hT, List.append_assoc] at P HKK
      clear hT
      go_wp2_with fail
      go_ret
      exact P.out.ret (Mod.refl _ _) HKK.out
end Go.Proofs.YtekdnljincbghaaDoor
