/- The pool laws' reference is made. -/
import Derived.Test.YtfpmdacpmcdleaaRef04
namespace Go.Proofs.Ytfpmdacpmcdleaa
open Go Go.RowKit Go.Lib

def rep (k : Nat) : List Bm := List.replicate k ([], 0, false)
theorem rep_succ (k : Nat) : rep (k + 1) = rep k ++ [([], 0, false)] := by simp [rep, List.replicate_succ']
theorem rep_len (k : Nat) : (rep k).length = k := by simp [rep]
/-- What a round of the reference's New keeps. -/
def RN (w0 : World) (h sz k1 k2 k3 k4 : Nat) (ba : Option Addr) (bc : Nat) (ga : Option Addr) (gc : Nat) (ta : Option Addr) (tc : Nat) (na : Option Addr) (nc : Nat) (w : World) : Prop :=
  w.heap[h]? = some (.cells #[.int .i64 (sz : Int), .slice ba k1 bc, .slice ga k2 gc, .slice ta k3 tc, .slice na k4 nc] 49 (0, 0)) ∧
  OwnM fB w 9 ba bc (rep k1) ∧ OwnM fG w 27 ga gc (rep k2) ∧ OwnM fL w 4 ta tc (rep k3) ∧ OwnM intV w 3 na nc (List.range k4) ∧
  (h ∉ blk ba ∧ h ∉ blk ga ∧ h ∉ blk ta ∧ h ∉ blk na) ∧ (Dis ba ga ∧ Dis ba ta ∧ Dis ba na ∧ Dis ga ta ∧ Dis ga na ∧ Dis ta na) ∧
  (w0.heap.size ≤ h ∧ (∀ j, j ∈ blk ba → w0.heap.size ≤ j) ∧ (∀ j, j ∈ blk ga → w0.heap.size ≤ j) ∧ (∀ j, j ∈ blk ta → w0.heap.size ≤ j) ∧ (∀ j, j ∈ blk na → w0.heap.size ≤ j)) ∧ Mod [] w0 w
theorem sn_old {w w3 : World} {o : Obj} {x a : Option Addr} {B : Nat} (s : SameOrNew (w.alloc o) w3 x a) (hx : ∀ j, j ∈ blk x → B ≤ j) (hB : B ≤ w.heap.size) : ∀ j, j ∈ blk a → B ≤ j := fun j hj => by
  rcases s.blk j hj with h | h
  · exact hx j h
  · simp at h; omega
theorem rn_b {w0 w w3 : World} {o : Obj} {h sz k1 k2 k3 k4 : Nat} {ba : Option Addr} {bc : Nat} {ga : Option Addr} {gc : Nat} {ta : Option Addr} {tc : Nat} {na : Option Addr} {nc : Nat} (H : RN w0 h sz k1 k2 k3 k4 ba bc ga gc ta tc na nc w) {a : Option Addr} {c : Nat}
    (h3' : OwnM fB w3 9 a c (rep k1 ++ [([], 0, false)])) (m : Mod (blk ba) (w.alloc o) w3) (s : SameOrNew (w.alloc o) w3 ba a) :
    RN w0 h sz (k1 + 1) k2 k3 k4 a c ga gc ta tc na nc (w3.setCell ⟨h, 1, none⟩ (.slice a (k1 + 1) c)) := by
  obtain ⟨h1, h2, h3, h4, h5, ⟨n1, n2, n3, n4⟩, ⟨d1, d2, d3, d4, d5, d6⟩, ⟨p1, p2, p3, p4, p5⟩, m0⟩ := H
  have ma := Mod.alloc [] w o
  have lh := lt_of_block h1
  have na' : h ∉ blk a := off_new n1 s (by simp; omega)
  have m5 := Mod.setCell (S := [h]) w3 ⟨h, 1, none⟩ (.slice a (k1 + 1) c) (by simp)
  have oh : ∀ y : Option Addr, h ∉ blk y → ∀ j, j ∈ blk y → j ∉ [h] := fun y hy j hj hm => by simp at hm; subst hm; exact hy hj
  have G := heap_setCell_same (i := 1) (m.get (ma.get h1 (by simp)) n1) (.slice a (k1 + 1) c)
  refine ⟨by rw [G]; simp, (by rw [rep_succ]; exact h3'.mod m5 (oh _ na')), (((h3.mod0 ma).mod m d1.symm).mod m5 (oh _ n2)), (((h4.mod0 ma).mod m d2.symm).mod m5 (oh _ n3)), (((h5.mod0 ma).mod m d3.symm).mod m5 (oh _ n4)), ⟨na', n2, n3, n4⟩, ⟨Dis.new d1 s (fun j hj => Nat.lt_of_lt_of_le (h3.lt j hj) ma.size), Dis.new d2 s (fun j hj => Nat.lt_of_lt_of_le (h4.lt j hj) ma.size), Dis.new d3 s (fun j hj => Nat.lt_of_lt_of_le (h5.lt j hj) ma.size), d4, d5, d6⟩, ⟨p1, sn_old s p2 m0.size, p3, p4, p5⟩, ?_⟩
  exact ((m0.trans' ma).trans m (fun j hj hl => by have := p2 j hj; omega)).trans m5 (fun j hj hl => by simp at hj; omega)
theorem rn_g {w0 w w3 : World} {o : Obj} {h sz k1 k2 k3 k4 : Nat} {ba : Option Addr} {bc : Nat} {ga : Option Addr} {gc : Nat} {ta : Option Addr} {tc : Nat} {na : Option Addr} {nc : Nat} (H : RN w0 h sz k1 k2 k3 k4 ba bc ga gc ta tc na nc w) {a : Option Addr} {c : Nat}
    (h3' : OwnM fG w3 27 a c (rep k2 ++ [([], 0, false)])) (m : Mod (blk ga) (w.alloc o) w3) (s : SameOrNew (w.alloc o) w3 ga a) :
    RN w0 h sz k1 (k2 + 1) k3 k4 ba bc a c ta tc na nc (w3.setCell ⟨h, 2, none⟩ (.slice a (k2 + 1) c)) := by
  obtain ⟨h1, h2, h3, h4, h5, ⟨n1, n2, n3, n4⟩, ⟨d1, d2, d3, d4, d5, d6⟩, ⟨p1, p2, p3, p4, p5⟩, m0⟩ := H
  have ma := Mod.alloc [] w o
  have lh := lt_of_block h1
  have na' : h ∉ blk a := off_new n2 s (by simp; omega)
  have m5 := Mod.setCell (S := [h]) w3 ⟨h, 2, none⟩ (.slice a (k2 + 1) c) (by simp)
  have oh : ∀ y : Option Addr, h ∉ blk y → ∀ j, j ∈ blk y → j ∉ [h] := fun y hy j hj hm => by simp at hm; subst hm; exact hy hj
  have G := heap_setCell_same (i := 2) (m.get (ma.get h1 (by simp)) n2) (.slice a (k2 + 1) c)
  refine ⟨by rw [G]; simp, (((h2.mod0 ma).mod m d1).mod m5 (oh _ n1)), (by rw [rep_succ]; exact h3'.mod m5 (oh _ na')), (((h4.mod0 ma).mod m d4.symm).mod m5 (oh _ n3)), (((h5.mod0 ma).mod m d5.symm).mod m5 (oh _ n4)), ⟨n1, na', n3, n4⟩, ⟨(Dis.new d1.symm s (fun j hj => Nat.lt_of_lt_of_le (h2.lt j hj) ma.size)).symm, d2, d3, Dis.new d4 s (fun j hj => Nat.lt_of_lt_of_le (h4.lt j hj) ma.size), Dis.new d5 s (fun j hj => Nat.lt_of_lt_of_le (h5.lt j hj) ma.size), d6⟩, ⟨p1, p2, sn_old s p3 m0.size, p4, p5⟩, ?_⟩
  exact ((m0.trans' ma).trans m (fun j hj hl => by have := p3 j hj; omega)).trans m5 (fun j hj hl => by simp at hj; omega)
theorem rn_t {w0 w w3 : World} {o : Obj} {h sz k1 k2 k3 k4 : Nat} {ba : Option Addr} {bc : Nat} {ga : Option Addr} {gc : Nat} {ta : Option Addr} {tc : Nat} {na : Option Addr} {nc : Nat} (H : RN w0 h sz k1 k2 k3 k4 ba bc ga gc ta tc na nc w) {a : Option Addr} {c : Nat}
    (h3' : OwnM fL w3 4 a c (rep k3 ++ [([], 0, false)])) (m : Mod (blk ta) (w.alloc o) w3) (s : SameOrNew (w.alloc o) w3 ta a) :
    RN w0 h sz k1 k2 (k3 + 1) k4 ba bc ga gc a c na nc (w3.setCell ⟨h, 3, none⟩ (.slice a (k3 + 1) c)) := by
  obtain ⟨h1, h2, h3, h4, h5, ⟨n1, n2, n3, n4⟩, ⟨d1, d2, d3, d4, d5, d6⟩, ⟨p1, p2, p3, p4, p5⟩, m0⟩ := H
  have ma := Mod.alloc [] w o
  have lh := lt_of_block h1
  have na' : h ∉ blk a := off_new n3 s (by simp; omega)
  have m5 := Mod.setCell (S := [h]) w3 ⟨h, 3, none⟩ (.slice a (k3 + 1) c) (by simp)
  have oh : ∀ y : Option Addr, h ∉ blk y → ∀ j, j ∈ blk y → j ∉ [h] := fun y hy j hj hm => by simp at hm; subst hm; exact hy hj
  have G := heap_setCell_same (i := 3) (m.get (ma.get h1 (by simp)) n3) (.slice a (k3 + 1) c)
  refine ⟨by rw [G]; simp, (((h2.mod0 ma).mod m d2).mod m5 (oh _ n1)), (((h3.mod0 ma).mod m d4).mod m5 (oh _ n2)), (by rw [rep_succ]; exact h3'.mod m5 (oh _ na')), (((h5.mod0 ma).mod m d6.symm).mod m5 (oh _ n4)), ⟨n1, n2, na', n4⟩, ⟨d1, (Dis.new d2.symm s (fun j hj => Nat.lt_of_lt_of_le (h2.lt j hj) ma.size)).symm, d3, (Dis.new d4.symm s (fun j hj => Nat.lt_of_lt_of_le (h3.lt j hj) ma.size)).symm, d5, Dis.new d6 s (fun j hj => Nat.lt_of_lt_of_le (h5.lt j hj) ma.size)⟩, ⟨p1, p2, p3, sn_old s p4 m0.size, p5⟩, ?_⟩
  exact ((m0.trans' ma).trans m (fun j hj hl => by have := p4 j hj; omega)).trans m5 (fun j hj hl => by simp at hj; omega)
theorem rn_n {w0 w w3 : World} {o : Obj} {h sz k1 k2 k3 k4 : Nat} {ba : Option Addr} {bc : Nat} {ga : Option Addr} {gc : Nat} {ta : Option Addr} {tc : Nat} {na : Option Addr} {nc : Nat} (H : RN w0 h sz k1 k2 k3 k4 ba bc ga gc ta tc na nc w) {a : Option Addr} {c : Nat}
    (h3' : OwnM intV w3 3 a c (List.range k4 ++ [k4])) (m : Mod (blk na) (w.alloc o) w3) (s : SameOrNew (w.alloc o) w3 na a) :
    RN w0 h sz k1 k2 k3 (k4 + 1) ba bc ga gc ta tc a c (w3.setCell ⟨h, 4, none⟩ (.slice a (k4 + 1) c)) := by
  obtain ⟨h1, h2, h3, h4, h5, ⟨n1, n2, n3, n4⟩, ⟨d1, d2, d3, d4, d5, d6⟩, ⟨p1, p2, p3, p4, p5⟩, m0⟩ := H
  have ma := Mod.alloc [] w o
  have lh := lt_of_block h1
  have na' : h ∉ blk a := off_new n4 s (by simp; omega)
  have m5 := Mod.setCell (S := [h]) w3 ⟨h, 4, none⟩ (.slice a (k4 + 1) c) (by simp)
  have oh : ∀ y : Option Addr, h ∉ blk y → ∀ j, j ∈ blk y → j ∉ [h] := fun y hy j hj hm => by simp at hm; subst hm; exact hy hj
  have G := heap_setCell_same (i := 4) (m.get (ma.get h1 (by simp)) n4) (.slice a (k4 + 1) c)
  refine ⟨by rw [G]; simp, (((h2.mod0 ma).mod m d3).mod m5 (oh _ n1)), (((h3.mod0 ma).mod m d5).mod m5 (oh _ n2)), (((h4.mod0 ma).mod m d6).mod m5 (oh _ n3)), (by rw [List.range_succ]; exact h3'.mod m5 (oh _ na')), ⟨n1, n2, n3, na'⟩, ⟨d1, d2, (Dis.new d3.symm s (fun j hj => Nat.lt_of_lt_of_le (h2.lt j hj) ma.size)).symm, d4, (Dis.new d5.symm s (fun j hj => Nat.lt_of_lt_of_le (h3.lt j hj) ma.size)).symm, (Dis.new d6.symm s (fun j hj => Nat.lt_of_lt_of_le (h4.lt j hj) ma.size)).symm⟩, ⟨p1, p2, p3, p4, sn_old s p5 m0.size⟩, ?_⟩
  exact ((m0.trans' ma).trans m (fun j hj hl => by have := p5 j hj; omega)).trans m5 (fun j hj hl => by simp at hj; omega)

set_option maxRecDepth 100000 in
set_option maxHeartbeats 4000000 in
theorem rnew_any (n sz : Nat) (w : World) (h2 : n ≤ 4096) :
    Calls Try.prog 12 #[.int .i64 (n : Int), .int .i64 (sz : Int)] w fun e w' => ∃ h F, e = .returned (.pointer (some ⟨h, 0, none⟩)) ∧
      RefW w' h F sz (List.replicate n ([], 0, false)) (List.range n) ∧ Mod [] w w' ∧ ∀ j, j ∈ F → w.heap.size ≤ j := by
  have ma := Mod.alloc [] w (.cells #[.int .i64 (sz : Int), .slice none 0 0, .slice none 0 0, .slice none 0 0, .slice none 0 0] 49)
  have ea := heap_alloc_new w (.cells #[.int .i64 (sz : Int), .slice none 0 0, .slice none 0 0, .slice none 0 0, .slice none 0 0] 49)
  have R0 : Hid (RN w w.heap.size sz 0 0 0 0 none 0 none 0 none 0 none 0 (w.alloc (.cells #[.int .i64 (sz : Int), .slice none 0 0, .slice none 0 0, .slice none 0 0, .slice none 0 0] 49))) :=
    ⟨ea, OwnM.nil _ _ _, OwnM.nil _ _ _, OwnM.nil _ _ _, OwnM.nil _ _ _, by simp [blk], by simp [Dis, blk], by simp [blk], ma⟩
  clear ma ea
  go_enter Try.func12, Try.ntmps12
  go_wp2
  generalize hh : w.heap.size = h at *
  have HH := Lib.hid hh
  clear hh
  go_loopw [6] (fun i wr => ∃ (k : Nat) (ba : Option Addr) (bc : Nat) (ga : Option Addr) (gc : Nat) (ta : Option Addr) (tc : Nat) (na : Option Addr) (nc : Nat), k ≤ n ∧ i = .int .i64 (k : Int) ∧ RN w h sz k k k k ba bc ga gc ta tc na nc wr) (fun i _ => n - (intOf i).toNat)
  case atStart => exact ⟨0, none, 0, none, 0, none, 0, none, 0, Nat.zero_le _, rfl, R0.out⟩
  case round =>
    obtain ⟨k, ba, bc, ga, gc, ta, tc, na, nc, hk, rfl, hrel⟩ := hrel
    have HR := Lib.hid hrel
    by_cases hlt : k < n
    · have LB : Hid ((rep k).length = k) := rep_len k
      have LN : Hid ((List.range k).length = k) := List.length_range
      have c0 := cell_of_block (i := 1) hrel.1
      have lw0 := lt_of_block hrel.1
      have HR0 := Lib.hid hrel
      have S0 := Lib.hid (shows_one (f := fB) (x := ([], 0, false)) (heap_alloc_new wr (.cells #[.string ⟨#[]⟩] 9)))
      have O0 := Lib.hid (hrel.2.1.mod0 (Mod.alloc [] wr (.cells #[.string ⟨#[]⟩] 9)))
      clear hrel
      go_wp2_with (first | (at_builtin; refine wpl_appM (dst := some 21) _ _ 44 _ 16 Try.underlying44 infoStr rfl (fun _ => rfl) k (rep k) rfl LB.out O0.out _ 1 1 [([], 0, false)] rfl rfl S0.out (by omega) (by omega) ?_) | fail)
      intro a0 b0 w0 o0 m0 s0
      have R0 := rn_b HR0.out o0 m0 s0
      have e0 := (m0.get ((Mod.alloc [] wr (.cells #[.string ⟨#[]⟩] 9)).get HR0.out.1 (by simp)) (HR0.out.2.2.2.2.2.1.1))
      have y0 := cell_of_block (i := 1) e0
      have z0 := free_of_block (i := 1) e0
      have RH0 := Lib.hid R0
      clear c0 lw0 HR0 S0 O0 o0 m0 s0 R0 e0
      go_upto_region 6 with (fail)
      have R0 := RH0.out
      clear RH0 y0 z0
      generalize w0.setCell ⟨h, 1, none⟩ (.slice a0 (k + 1) b0) = v0 at *
      have c1 := cell_of_block (i := 2) R0.1
      have lw1 := lt_of_block R0.1
      have HR1 := Lib.hid R0
      have S1 := Lib.hid (shows_one (f := fG) (x := ([], 0, false)) (heap_alloc_new v0 (.cells #[.int .u32 0] 27)))
      have O1 := Lib.hid (R0.2.2.1.mod0 (Mod.alloc [] v0 (.cells #[.int .u32 0] 27)))
      clear R0
      go_wp2_with (first | (at_builtin; refine wpl_appM (dst := some 30) _ _ 45 _ 4 Try.underlying45 infoU32 rfl (fun _ => rfl) k (rep k) rfl LB.out O1.out _ 1 1 [([], 0, false)] rfl rfl S1.out (by omega) (by omega) ?_) | fail)
      intro a1 b1 w1 o1 m1 s1
      have R1 := rn_g HR1.out o1 m1 s1
      have e1 := (m1.get ((Mod.alloc [] v0 (.cells #[.int .u32 0] 27)).get HR1.out.1 (by simp)) (HR1.out.2.2.2.2.2.1.2.1))
      have y1 := cell_of_block (i := 2) e1
      have z1 := free_of_block (i := 2) e1
      have RH1 := Lib.hid R1
      clear c1 lw1 HR1 S1 O1 o1 m1 s1 R1 e1
      go_upto_region 7 with (fail)
      have R1 := RH1.out
      clear RH1 y1 z1
      generalize w1.setCell ⟨h, 2, none⟩ (.slice a1 (k + 1) b1) = v1 at *
      have c2 := cell_of_block (i := 3) R1.1
      have lw2 := lt_of_block R1.1
      have HR2 := Lib.hid R1
      have S2 := Lib.hid (shows_one (f := fL) (x := ([], 0, false)) (heap_alloc_new v1 (.cells #[.bool false] 4)))
      have O2 := Lib.hid (R1.2.2.2.1.mod0 (Mod.alloc [] v1 (.cells #[.bool false] 4)))
      clear R1
      go_wp2_with (first | (at_builtin; refine wpl_appM (dst := some 39) _ _ 46 _ 1 Try.underlying46 infoBool rfl (fun _ => rfl) k (rep k) rfl LB.out O2.out _ 1 1 [([], 0, false)] rfl rfl S2.out (by omega) (by omega) ?_) | fail)
      intro a2 b2 w2 o2 m2 s2
      have R2 := rn_t HR2.out o2 m2 s2
      have e2 := (m2.get ((Mod.alloc [] v1 (.cells #[.bool false] 4)).get HR2.out.1 (by simp)) (HR2.out.2.2.2.2.2.1.2.2.1))
      have y2 := cell_of_block (i := 3) e2
      have z2 := free_of_block (i := 3) e2
      have RH2 := Lib.hid R2
      clear c2 lw2 HR2 S2 O2 o2 m2 s2 R2 e2
      go_upto_region 8 with (fail)
      have R2 := RH2.out
      clear RH2 y2 z2
      generalize w2.setCell ⟨h, 3, none⟩ (.slice a2 (k + 1) b2) = v2 at *
      have c3 := cell_of_block (i := 4) R2.1
      have lw3 := lt_of_block R2.1
      have HR3 := Lib.hid R2
      have S3 := Lib.hid (shows_one (f := intV) (x := k) (heap_alloc_new v2 (.cells #[.int .i64 (k : Int)] 3)))
      have O3 := Lib.hid (R2.2.2.2.2.1.mod0 (Mod.alloc [] v2 (.cells #[.int .i64 (k : Int)] 3)))
      clear R2
      go_wp2_with (first | (at_builtin; refine wpl_appM (dst := some 49) _ _ 47 _ 8 Try.underlying47 infoInt rfl (fun _ => rfl) k (List.range k) rfl LN.out O3.out _ 1 1 [k] rfl rfl S3.out (by omega) (by omega) ?_) | fail)
      intro a3 b3 w3 o3 m3 s3
      have R3 := rn_n HR3.out o3 m3 s3
      have e3 := (m3.get ((Mod.alloc [] v2 (.cells #[.int .i64 (k : Int)] 3)).get HR3.out.1 (by simp)) (HR3.out.2.2.2.2.2.1.2.2.2))
      have y3 := cell_of_block (i := 4) e3
      have z3 := free_of_block (i := 4) e3
      have RH3 := Lib.hid R3
      clear c3 lw3 HR3 S3 O3 o3 m3 s3 R3 e3
      go_wp2
      have R3 := RH3.out
      go_roundw
      case rel => exact ⟨k + 1, a0, b0, a1, b1, a2, b2, a3, b3, by omega, by go_num, R3⟩
      case measure => simp [intOf]; omega
    · have hke : k = n := by omega
      subst hke
      clear hrel
      go_wp2
      go_ret
      obtain ⟨h1, h2, h3, h4, h5, h6, h7, ⟨p1, p2, p3, p4, p5⟩, m0⟩ := HR.out
      refine ⟨h, _, rfl, ⟨ba, bc, ga, gc, ta, tc, na, nc, ⟨?_, h2, h3, h4, h5, h6, h7⟩, rfl⟩, m0, ?_⟩
      · rw [List.length_replicate, List.length_range]; exact h1
      · intro j hj
        simp only [List.mem_cons, List.mem_append] at hj
        rcases hj with rfl | hj | hj | hj | hj
        · exact p1
        · exact p2 j hj
        · exact p3 j hj
        · exact p4 j hj
        · exact p5 j hj
end Go.Proofs.Ytfpmdacpmcdleaa
