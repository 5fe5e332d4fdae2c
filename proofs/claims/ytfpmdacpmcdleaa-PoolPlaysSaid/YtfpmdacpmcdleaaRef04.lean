/- The walks of the pool laws' reference. -/
import Derived.Test.YtfpmdacpmcdleaaPool7
import Derived.Test.YtfpmdacpmcdleaaOwnM
namespace Go.Proofs.Ytfpmdacpmcdleaa
open Go Go.RowKit Go.Lib

def fB (x : Bm) : Value := strV x.1
def fG (x : Bm) : Value := .int .u32 x.2.1
def fL (x : Bm) : Value := .bool x.2.2
theorem infoStr : (Try.prog.info? 9).map (fun i => (i.zero, i.size, i.bytes)) = some (some (.string ⟨#[]⟩), 1, 16) := by kernel_rfl
theorem infoU32 : (Try.prog.info? 27).map (fun i => (i.zero, i.size, i.bytes)) = some (some (.int .u32 0), 1, 4) := by kernel_rfl
theorem infoBool : (Try.prog.info? 4).map (fun i => (i.zero, i.size, i.bytes)) = some (some (.bool false), 1, 1) := by kernel_rfl

/-- The reference's pool. -/
def RefF (w : World) (h : Nat) (sz : Nat) (ba : Option Addr) (bc : Nat) (ga : Option Addr) (gc : Nat) (ta : Option Addr) (tc : Nat) (na : Option Addr) (nc : Nat) (L : List Bm) (nx : List Nat) : Prop :=
  w.heap[h]? = some (.cells #[.int .i64 (sz : Int), .slice ba L.length bc, .slice ga L.length gc, .slice ta L.length tc, .slice na nx.length nc] 49 (0, 0)) ∧
  OwnM fB w 9 ba bc L ∧ OwnM fG w 27 ga gc L ∧ OwnM fL w 4 ta tc L ∧ OwnM intV w 3 na nc nx ∧
  (h ∉ blk ba ∧ h ∉ blk ga ∧ h ∉ blk ta ∧ h ∉ blk na) ∧ (Dis ba ga ∧ Dis ba ta ∧ Dis ba na ∧ Dis ga ta ∧ Dis ga na ∧ Dis ta na)
def RefW (w : World) (h : Nat) (F : List Nat) (sz : Nat) (L : List Bm) (nx : List Nat) : Prop :=
  ∃ ba bc ga gc ta tc na nc, RefF w h sz ba bc ga gc ta tc na nc L nx ∧ F = h :: (blk ba ++ (blk ga ++ (blk ta ++ blk na)))
theorem RefF.mod {S : List Nat} {w w' : World} {h sz : Nat} {ba : Option Addr} {bc : Nat} {ga : Option Addr} {gc : Nat} {ta : Option Addr} {tc : Nat} {na : Option Addr} {nc : Nat} {L : List Bm} {nx : List Nat} (H : RefF w h sz ba bc ga gc ta tc na nc L nx) (hm : Mod S w w') (hs : ∀ k, k ∈ h :: (blk ba ++ (blk ga ++ (blk ta ++ blk na))) → k ∉ S) : RefF w' h sz ba bc ga gc ta tc na nc L nx := by
  obtain ⟨h1, h2, h3, h4, h5, h6⟩ := H
  exact ⟨hm.get h1 (hs h (by simp)), h2.mod hm (fun k hk => hs k (by simp [hk])), h3.mod hm (fun k hk => hs k (by simp [hk])), h4.mod hm (fun k hk => hs k (by simp [hk])), h5.mod hm (fun k hk => hs k (by simp [hk])), h6⟩
theorem RefW.mod {S : List Nat} {w w' : World} {h : Nat} {F : List Nat} {sz : Nat} {L : List Bm} {nx : List Nat} (H : RefW w h F sz L nx) (hm : Mod S w w') (hs : ∀ k, k ∈ F → k ∉ S) : RefW w' h F sz L nx := by
  obtain ⟨ba, bc, ga, gc, ta, tc, na, nc, h1, rfl⟩ := H
  exact ⟨ba, bc, ga, gc, ta, tc, na, nc, h1.mod hm hs, rfl⟩
theorem RefW.mod0 {w w' : World} {h : Nat} {F : List Nat} {sz : Nat} {L : List Bm} {nx : List Nat} (H : RefW w h F sz L nx) (hm : Mod [] w w') : RefW w' h F sz L nx := H.mod hm (by simp)
theorem RefW.lt {w : World} {h : Nat} {F : List Nat} {sz : Nat} {L : List Bm} {nx : List Nat} (H : RefW w h F sz L nx) : ∀ k, k ∈ F → k < w.heap.size := by
  obtain ⟨ba, bc, ga, gc, ta, tc, na, nc, ⟨h1, h2, h3, h4, h5, h6⟩, rfl⟩ := H
  intro k hk
  simp only [List.mem_cons, List.mem_append] at hk
  rcases hk with rfl | hk | hk | hk | hk
  · exact lt_of_block h1
  · exact h2.lt k hk
  · exact h3.lt k hk
  · exact h4.lt k hk
  · exact h5.lt k hk
def RMoved (w w' : World) (h : Nat) (F : List Nat) (sz : Nat) (L : List Bm) (nx : List Nat) : Prop :=
  ∃ F', RefW w' h F' sz L nx ∧ Mod F w w' ∧ ∀ k, k ∈ F' → k ∈ F ∨ w.heap.size ≤ k

set_option maxRecDepth 100000 in
theorem rget_none (h : Nat) (F : List Nat) (sz : Nat) (L : List Bm) (w : World) (H : RefW w h F sz L []) :
    Calls Try.prog 13 #[.pointer (some ⟨h, 0, none⟩)] w fun e w' => e = .returned (.int .i64 (-1)) ∧ w' = w := by
  obtain ⟨ba, bc, ga, gc, ta, tc, na, nc, ⟨h1, h2⟩, rfl⟩ := H
  have c4 := cell_of_block (i := 4) h1
  clear h1 h2
  go_enter Try.func13, Try.ntmps13
  go_wp2
  go_ret
  exact ⟨rfl, rfl⟩

set_option maxRecDepth 100000 in
set_option maxHeartbeats 2000000 in
theorem good_any (h : Nat) (F : List Nat) (sz : Nat) (L : List Bm) (nx : List Nat) (i gn : Int) (w : World) (H : RefW w h F sz L nx) (b : Bool) (hb : GoodM L i gn ↔ b = true) :
    Calls Try.prog 16 #[.pointer (some ⟨h, 0, none⟩), .int .i64 i, .int .u32 gn] w fun e w' => e = .returned (.bool b) ∧ w' = w := by
  obtain ⟨ba, bc, ga, gc, ta, tc, na, nc, ⟨h1, h2, h3, h4, h5, h6⟩, rfl⟩ := H
  have c1 := cell_of_block (i := 1) h1
  have c2 := cell_of_block (i := 2) h1
  have c3 := cell_of_block (i := 3) h1
  have hB := Lib.hid hb
  have hlc := h4.le
  have hgc := h3.le
  have hcm := Own.cap_le h4
  have hcm2 := Own.cap_le h3
  unfold maxLen at hcm hcm2
  by_cases hi : i < 0
  · have hbf : b = false := by
      cases b with
      | false => rfl
      | true => obtain ⟨k, rfl, _⟩ := hb.2 rfl; omega
    subst hbf
    clear h1 h2 h3 h4 h5 h6 hb hlc hgc hcm hcm2
    have hd : decide (0 ≤ i) = false := by simpa using hi
    go_enter Try.func16, Try.ntmps16
    go_wp2
    go_ret
    exact ⟨rfl, rfl⟩
  · obtain ⟨k, rfl⟩ : ∃ k : Nat, i = (k : Int) := ⟨i.toNat, by omega⟩
    by_cases hk : k < L.length
    · obtain ⟨tb, rfl, t1, _⟩ := h4.at' hk
      obtain ⟨gb, rfl, g1, _⟩ := h3.at' hk
      have hbb : b = (L[k].2.2 && decide (L[k].2.1 = gn)) := by
        rw [Bool.eq_iff_iff, ← hb, Bool.and_eq_true, decide_eq_true_iff]
        constructor
        · rintro ⟨k', hk', _, e1, e2⟩
          obtain rfl : k' = k := by omega
          exact ⟨e1, e2⟩
        · rintro ⟨e1, e2⟩
          exact ⟨k, rfl, hk, e1, e2⟩
      subst hbb
      obtain ⟨tx, gx, lx, hx⟩ : ∃ tx gx lx, L[k] = (tx, gx, lx) := ⟨_, _, _, rfl⟩
      rw [hx] at t1 g1 ⊢
      unfold fL at t1
      unfold fG at g1
      dsimp only at t1 g1 ⊢
      have hki : (k : Int) < (L.length : Int) := by omega
      clear h1 h2 h3 h4 h5 h6 hb hx hi hB
      cases lx with
      | false =>
        go_enter Try.func16, Try.ntmps16
        go_wp2
        go_ret
        exact ⟨rfl, rfl⟩
      | true =>
        by_cases hg : gx = gn
        · subst hg
          rw [decide_eq_true rfl]
          go_enter Try.func16, Try.ntmps16
          go_wp2
          go_ret
          exact ⟨rfl, rfl⟩
        · rw [decide_eq_false hg]
          have hgb : (gx == gn) = false := by simpa using hg
          go_enter Try.func16, Try.ntmps16
          go_wp2
          go_ret
          exact ⟨rfl, rfl⟩
    · have hbf : b = false := by
        cases b with
        | false => rfl
        | true => obtain ⟨k', hk', h', _⟩ := hb.2 rfl; omega
      subst hbf
      clear h1 h2 h3 h4 h5 h6 hb hlc hgc hcm hcm2 hi
      have hk' : L.length ≤ k := by omega
      go_enter Try.func16, Try.ntmps16
      go_wp2
      go_ret
      exact ⟨rfl, rfl⟩

set_option maxRecDepth 100000 in
set_option maxHeartbeats 2000000 in
theorem rset_stale (h : Nat) (F : List Nat) (sz : Nat) (L : List Bm) (nx : List Nat) (i gn : Int) (l : List UInt8) (w : World) (H : RefW w h F sz L nx) (hb : ¬ GoodM L i gn) :
    Calls Try.prog 15 #[.pointer (some ⟨h, 0, none⟩), .int .i64 i, .int .u32 gn, strV l] w fun e w' => e = .returned (.int .i64 15) ∧ w' = w := by
  unfold strV
  go_enter Try.func15, Try.ntmps15
  go_wp2_with fail
  refine (good_any h F sz L nx i gn w H false (by simpa using hb)).mono ?_
  rintro e w1 ⟨rfl, rfl⟩
  go_wp2
  go_ret
  exact ⟨rfl, rfl⟩
set_option maxRecDepth 100000 in
set_option maxHeartbeats 2000000 in
theorem rset_long (h : Nat) (F : List Nat) (sz : Nat) (L : List Bm) (nx : List Nat) (i gn : Int) (l : List UInt8) (w : World) (H : RefW w h F sz L nx) (hb : GoodM L i gn) (hl : sz < l.length) :
    Calls Try.prog 15 #[.pointer (some ⟨h, 0, none⟩), .int .i64 i, .int .u32 gn, strV l] w fun e w' => e = .returned (.int .i64 3) ∧ w' = w := by
  have c0 : w.cell? ⟨h, 0, none⟩ = some (.int .i64 (sz : Int)) := by
    obtain ⟨ba, bc, ga, gc, ta, tc, na, nc, ⟨h1, _⟩, _⟩ := H
    rw [cell_of_block h1]; rfl
  have hz : (⟨l.toArray⟩ : ByteArray).size = l.length := by simp [ByteArray.size]
  have hd : sz < (⟨l.toArray⟩ : ByteArray).size := by rw [hz]; exact hl
  clear hz hl
  unfold strV
  go_enter Try.func15, Try.ntmps15
  go_wp2_with fail
  refine (good_any h F sz L nx i gn w H true (by simpa using hb)).mono ?_
  rintro e w1 ⟨rfl, rfl⟩
  go_wp2
  go_ret
  exact ⟨rfl, rfl⟩
theorem setB (l : List UInt8) (L : List Bm) (k : Nat) (hk : k < L.length) {w : World} {g cap : Nat} (h : OwnM fB w 9 (some ⟨g, 0, none⟩) cap L) : OwnM fB (w.setCell ⟨g, k, none⟩ (strV l)) 9 (some ⟨g, 0, none⟩) cap (L.set k (l, L[k].2.1, L[k].2.2)) := OwnM.set (f := fB) h (l, L[k].2.1, L[k].2.2)
theorem setL (b : Bool) (L : List Bm) (k : Nat) (hk : k < L.length) {w : World} {g cap : Nat} (h : OwnM fL w 4 (some ⟨g, 0, none⟩) cap L) : OwnM fL (w.setCell ⟨g, k, none⟩ (.bool b)) 4 (some ⟨g, 0, none⟩) cap (L.set k (L[k].1, L[k].2.1, b)) := OwnM.set (f := fL) h (L[k].1, L[k].2.1, b)
theorem setG (n : Int) (L : List Bm) (k : Nat) (hk : k < L.length) {w : World} {g cap : Nat} (h : OwnM fG w 27 (some ⟨g, 0, none⟩) cap L) : OwnM fG (w.setCell ⟨g, k, none⟩ (.int .u32 n)) 27 (some ⟨g, 0, none⟩) cap (L.set k (L[k].1, n, L[k].2.2)) := OwnM.set (f := fG) h (L[k].1, n, L[k].2.2)
/-- What a row shows when another one's part of an element is set. -/
theorem OwnM.same {α : Type} {f : α → Value} {w : World} {e : TypeId} {ao : Option Addr} {cap : Nat} {l l' : List α} (h : OwnM f w e ao cap l) (hm : l'.map f = l.map f) : OwnM f w e ao cap l' := by
  have hl : l'.length = l.length := by simpa using congrArg List.length hm
  unfold OwnM at *
  rw [hl, hm]
  exact h
theorem map_set_same {α : Type} (f : α → Value) (L : List α) (k : Nat) (hk : k < L.length) (x : α) (h : f x = f L[k]) : (L.set k x).map f = L.map f := by
  rw [List.map_set, h, ← List.getElem_map f (h := by simpa using hk)]
  exact List.set_getElem_self (by simpa using hk)

set_option maxRecDepth 100000 in
set_option maxHeartbeats 2000000 in
theorem rset_ok (h : Nat) (F : List Nat) (sz : Nat) (L : List Bm) (nx : List Nat) (k : Nat) (gn : Int) (l : List UInt8) (w : World) (hk : k < L.length) (H : RefW w h F sz L nx) (hl : L[k].2.2 = true) (hg : L[k].2.1 = gn) (hn : l.length ≤ sz) :
    Calls Try.prog 15 #[.pointer (some ⟨h, 0, none⟩), .int .i64 (k : Int), .int .u32 gn, strV l] w fun e w' => e = .returned (.int .i64 0) ∧ RMoved w w' h F sz (L.set k (l, gn, true)) nx := by
  have hgood : GoodM L (k : Int) gn := ⟨k, rfl, hk, hl, hg⟩
  have HG := Lib.hid hgood
  have HH := Lib.hid H
  obtain ⟨ba, bc, ga, gc, ta, tc, na, nc, ⟨h1, h2, h3, h4, h5, ⟨n1, n2, n3, n4⟩, d1, d2, d3, d4, d5, d6⟩, rfl⟩ := H
  obtain ⟨b, rfl, b1, b2⟩ := h2.at' hk
  have c0 := cell_of_block (i := 0) h1
  have c1 := cell_of_block (i := 1) h1
  have hle := h2.le
  have hcm := Own.cap_le h2
  unfold maxLen at hcm
  have hz : (⟨l.toArray⟩ : ByteArray).size = l.length := by simp [ByteArray.size]
  have hd : ¬ sz < (⟨l.toArray⟩ : ByteArray).size := by rw [hz]; omega
  have hki : (k : Int) < (L.length : Int) := by omega
  have m1 := Mod.setCell (S := [b]) w ⟨b, k, none⟩ (strV l) (by simp)
  have hset : L.set k (l, L[k].2.1, L[k].2.2) = L.set k (l, gn, true) := by rw [hl, hg]
  have X2 := setB l L k hk h2
  rw [hset] at X2
  have hlen : (L.set k (l, gn, true)).length = L.length := by simp
  have hhb : h ≠ b := fun e => n1 (by simp [blk, e])
  have hR : RMoved w (w.setCell ⟨b, k, none⟩ (strV l)) h (h :: (blk (some ⟨b, 0, none⟩) ++ (blk ga ++ (blk ta ++ blk na)))) sz (L.set k (l, gn, true)) nx := by
    refine ⟨_, ⟨some ⟨b, 0, none⟩, bc, ga, gc, ta, tc, na, nc, ⟨?_, X2, ?_, ?_, h5.mod m1 (fun j hj => by simp; rintro rfl; exact d3 j (by simp [blk]) hj), ⟨n1, n2, n3, n4⟩, d1, d2, d3, d4, d5, d6⟩, rfl⟩, m1.weaken (by simp [blk]), fun _ hk => .inl hk⟩
    · rw [hlen]; exact m1.get h1 (by simp; exact hhb)
    · exact (h3.mod m1 (fun j hj => by simp; rintro rfl; exact d1 j (by simp [blk]) hj)).same (map_set_same fG L k hk _ (by simp [fG, hg]))
    · exact (h4.mod m1 (fun j hj => by simp; rintro rfl; exact d2 j (by simp [blk]) hj)).same (map_set_same fL L k hk _ (by simp [fL, hl]))
  have HR := Lib.hid hR
  unfold strV at HR
  clear hR X2 m1 hset h1 h2 h3 h4 h5 n1 n2 n3 n4 d1 d2 d3 d4 d5 d6 hz hn hlen hl hg hgood
  unfold strV
  go_enter Try.func15, Try.ntmps15
  go_wp2_with fail
  refine (good_any h _ sz L nx k gn w HH.out true ⟨fun _ => rfl, fun _ => HG.out⟩).mono ?_
  rintro e w1 ⟨rfl, rfl⟩
  go_wp2
  go_ret
  exact ⟨rfl, HR.out⟩

set_option maxRecDepth 100000 in
set_option maxHeartbeats 2000000 in
theorem rback_stale (h : Nat) (F : List Nat) (sz : Nat) (L : List Bm) (nx : List Nat) (i gn : Int) (w : World) (H : RefW w h F sz L nx) (hb : ¬ GoodM L i gn) :
    Calls Try.prog 14 #[.pointer (some ⟨h, 0, none⟩), .int .i64 i, .int .u32 gn] w fun e w' => e = .returned (.int .i64 15) ∧ w' = w := by
  go_enter Try.func14, Try.ntmps14
  go_wp2_with fail
  refine (good_any h F sz L nx i gn w H false (by simpa using hb)).mono ?_
  rintro e w1 ⟨rfl, rfl⟩
  go_wp2
  go_ret
  exact ⟨rfl, rfl⟩

set_option maxRecDepth 100000 in
set_option maxHeartbeats 2000000 in
theorem rback_ok (h : Nat) (F : List Nat) (sz : Nat) (L : List Bm) (nx : List Nat) (k : Nat) (gn : Int) (w : World) (hk : k < L.length) (H : RefW w h F sz L nx) (hl : L[k].2.2 = true) (hg : L[k].2.1 = gn) (hn : nx.length ≤ 100000) :
    Calls Try.prog 14 #[.pointer (some ⟨h, 0, none⟩), .int .i64 (k : Int), .int .u32 gn] w fun e w' => e = .returned (.int .i64 0) ∧ RMoved w w' h F sz (L.set k (L[k].1, gn, false)) (k :: nx) := by
  have hgood : GoodM L (k : Int) gn := ⟨k, rfl, hk, hl, hg⟩
  have HG := Lib.hid hgood
  have HH := Lib.hid H
  obtain ⟨ba, bc, ga, gc, ta, tc, na, nc, ⟨h1, h2, h3, h4, h5, ⟨n1, n2, n3, n4⟩, d1, d2, d3, d4, d5, d6⟩, rfl⟩ := H
  obtain ⟨b, rfl, b1, b2⟩ := h4.at' hk
  have c3 := cell_of_block (i := 3) h1
  have c4 := cell_of_block (i := 4) h1
  have hle := h4.le
  have hcm := Own.cap_le h4
  unfold maxLen at hcm
  have hki : (k : Int) < (L.length : Int) := by omega
  have hhb : h ≠ b := fun e => n3 (by simp [blk, e])
  have hlth := lt_of_block h1
  have m1 := Mod.setCell (S := [b]) w ⟨b, k, none⟩ (.bool false) (by simp)
  have G1 := Lib.hid (m1.get h1 (by simp; exact hhb))
  have B1 := Lib.hid (h2.mod m1 (fun j hj => by simp; rintro rfl; exact d2 j hj (by simp [blk])))
  have C1 := Lib.hid (h3.mod m1 (fun j hj => by simp; rintro rfl; exact d4 j hj (by simp [blk])))
  have D1 := Lib.hid (setL false L k hk h4)
  have E1 := Lib.hid (h5.mod m1 (fun j hj => by simp; rintro rfl; exact d6 j (by simp [blk]) hj))
  have M1 := Lib.hid m1
  have NN := Lib.hid (And.intro n1 (And.intro n2 (And.intro n3 n4)))
  have DD := Lib.hid (And.intro d1 (And.intro d2 (And.intro d3 (And.intro d4 (And.intro d5 d6)))))
  have LL := Lib.hid (And.intro (h2.lt) (And.intro h3.lt (And.intro h4.lt h5.lt)))
  have HL := Lib.hid (And.intro hl hg)
  clear h1 h2 h3 h4 h5 n1 n2 n3 n4 d1 d2 d3 d4 d5 d6 m1 hgood hl hg
  go_enter Try.func14, Try.ntmps14
  go_wp2_with fail
  refine (good_any h _ sz L nx k gn w HH.out true ⟨fun _ => rfl, fun _ => HG.out⟩).mono ?_
  rintro e w1 ⟨rfl, rfl⟩
  have ma := Mod.alloc [] (w1.setCell ⟨b, k, none⟩ (.bool false)) (.cells #[.int .i64 (k : Int)] 3)
  have OK := Lib.hid (OwnM.one (f := intV) (x := k) (heap_alloc_new (w1.setCell ⟨b, k, none⟩ (.bool false)) (.cells #[.int .i64 (k : Int)] 3)))
  have zk : (w1.setCell ⟨b, k, none⟩ (.bool false)).heap.size = w1.heap.size := by simp [World.setCell]
  rw [zk] at OK
  have SH := Lib.hid (E1.out.mod0 ma).shows
  have G2 := Lib.hid (ma.get G1.out (by simp))
  have B2 := Lib.hid (B1.out.mod0 ma)
  have C2 := Lib.hid (C1.out.mod0 ma)
  have D2 := Lib.hid (D1.out.mod0 ma)
  have M2 := Lib.hid (M1.out.trans0 ma)
  have Z2 : Hid (((w1.setCell ⟨b, k, none⟩ (.bool false)).alloc (.cells #[.int .i64 (k : Int)] 3)).heap.size = w1.heap.size + 1) := by rw [heap_size_alloc, zk]; exact Lib.hid rfl
  clear ma zk G1 B1 C1 D1 E1 M1
  go_wp2_with (first | (at_builtin; refine wpl_appM (dst := some 25) _ _ 47 _ 8 Try.underlying47 infoInt rfl (fun _ => rfl) 1 [k] rfl rfl OK.out na nx.length nc nx rfl rfl SH.out (by omega) (by omega) ?_) | fail)
  intro a3 c3' w3 o3 m3 s3
  have nh3 : h ∉ blk (some (⟨w1.heap.size, 0, none⟩ : Addr)) := fun hm => by simp [blk] at hm; omega
  have N3 : Hid (∀ j, j ∈ blk a3 → w1.heap.size ≤ j) := fun j hj => by
    rcases s3.blk j hj with h | h
    · simp [blk] at h; omega
    · have := Z2.out; omega
  have nd : ∀ x : Option Addr, (∀ j, j ∈ blk x → j < w1.heap.size) → ∀ j, j ∈ blk x → j ∉ blk (some (⟨w1.heap.size, 0, none⟩ : Addr)) := fun x hx j hj hm => by have := hx j hj; simp [blk] at hm; omega
  have G3 := Lib.hid (m3.get G2.out nh3)
  have B3 := Lib.hid (B2.out.mod m3 (nd _ LL.out.1))
  have C3 := Lib.hid (C2.out.mod m3 (nd _ LL.out.2.1))
  have D3 := Lib.hid (D2.out.mod m3 (nd _ LL.out.2.2.1))
  have O3 := Lib.hid o3
  have M3 : Hid (Mod [b] w1 w3) := M2.out.trans m3 (fun j hj hl => by simp [blk] at hj; omega)
  clear o3 m3 s3 nh3 nd G2 B2 C2 D2 M2 SH OK Z2 b1 b2 c3 c4
  have c4 := cell_of_block (i := 4) G3.out
  have f4 := free_of_block (i := 4) G3.out
  have m5 := Mod.setCell (S := [h]) w3 ⟨h, 4, none⟩ (.slice a3 (1 + nx.length) c3') (by simp)
  have G5 := heap_setCell_same (i := 4) G3.out (.slice a3 (1 + nx.length) c3')
  have hlen : (L.set k (L[k].1, gn, false)).length = L.length := by simp
  have hset : L.set k (L[k].1, L[k].2.1, false) = L.set k (L[k].1, gn, false) := by rw [HL.out.2]
  have hR : RMoved w1 (w3.setCell ⟨h, 4, none⟩ (.slice a3 (1 + nx.length) c3')) h (h :: (blk ba ++ (blk ga ++ (blk (some ⟨b, 0, none⟩) ++ blk na)))) sz (L.set k (L[k].1, gn, false)) (k :: nx) := by
    have oh : ∀ x : Option Addr, h ∉ blk x → ∀ j, j ∈ blk x → j ∉ [h] := fun x hx j hj hm => by simp at hm; subst hm; exact hx hj
    refine ⟨_, ⟨ba, bc, ga, gc, some ⟨b, 0, none⟩, tc, a3, c3', ⟨?_, ?_, ?_, ?_, O3.out.mod m5 (fun j hj => by have := N3.out j hj; simp; omega), ⟨NN.out.1, NN.out.2.1, NN.out.2.2.1, fun hj => by have := N3.out h hj; omega⟩, DD.out.1, DD.out.2.1, (Dis.fresh N3.out LL.out.1).symm, DD.out.2.2.2.1, (Dis.fresh N3.out LL.out.2.1).symm, (Dis.fresh N3.out LL.out.2.2.1).symm⟩, rfl⟩, ?_, ?_⟩
    · rw [hlen, G5]; simp [Nat.add_comm]
    · exact (B3.out.mod m5 (oh _ NN.out.1)).same (map_set_same fB L k hk _ (by simp [fB]))
    · exact (C3.out.mod m5 (oh _ NN.out.2.1)).same (map_set_same fG L k hk _ (by simp [fG, HL.out.2]))
    · rw [← hset]; exact D3.out.mod m5 (oh _ NN.out.2.2.1)
    · exact (M3.out.weaken (fun j hj => by simp at hj; simp [hj, blk])).trans m5 (fun j hj _ => by simp at hj; simp [hj])
    · intro j hj
      simp only [List.mem_cons, List.mem_append] at hj ⊢
      rcases hj with h | h | h | h | h
      · simp [h]
      · simp [h]
      · simp [h]
      · simp [h]
      · exact .inr (N3.out j h)
  have HR := Lib.hid hR
  clear hR m5 G5 hlen hset
  go_wp2
  go_ret
  exact ⟨rfl, HR.out⟩

/-- What Get's four stores leave. -/
theorem rget_end (h sz : Nat) (L : List Bm) (nx : List Nat) (i : Nat) (w w2 : World) (b g t bc gc tc : Nat) (a2 : Option Addr) (c2 nb nc : Nat) (hi : i < L.length) (M2 : Mod [] w w2) (N2 : ∀ j, j ∈ blk a2 → w.heap.size ≤ j) (O2 : OwnM intV w2 3 a2 c2 nx)
    (G2 : w2.heap[h]? = some (.cells #[.int .i64 (sz : Int), .slice (some ⟨b, 0, none⟩) L.length bc, .slice (some ⟨g, 0, none⟩) L.length gc, .slice (some ⟨t, 0, none⟩) L.length tc, .slice (some ⟨nb, 0, none⟩) (nx.length + 1) nc] 49 (0, 0)))
    (B2 : OwnM fB w2 9 (some ⟨b, 0, none⟩) bc L) (C2 : OwnM fG w2 27 (some ⟨g, 0, none⟩) gc L) (D2 : OwnM fL w2 4 (some ⟨t, 0, none⟩) tc L)
    (hn : h ≠ b ∧ h ≠ g ∧ h ≠ t ∧ b ≠ g ∧ b ≠ t ∧ g ≠ t ∧ h < w.heap.size ∧ b < w.heap.size ∧ g < w.heap.size ∧ t < w.heap.size) :
    RMoved w ((((w2.setCell ⟨h, 4, none⟩ (.slice a2 nx.length c2)).setCell ⟨b, i, none⟩ (strV [])).setCell ⟨g, i, none⟩ (.int .u32 (IntKind.u32.wrap (L[i].2.1 + 1)))).setCell ⟨t, i, none⟩ (.bool true)) h (h :: b :: g :: t :: [nb]) sz (L.set i ([], IntKind.u32.wrap (L[i].2.1 + 1), true)) nx := by
  obtain ⟨e1, e2, e3, e4, e5, e6, l1, l2, l3, l4⟩ := hn
  have m1 := Mod.setCell (S := [h]) w2 ⟨h, 4, none⟩ (.slice a2 nx.length c2) (by simp)
  have G3 := heap_setCell_same (i := 4) G2 (.slice a2 nx.length c2)
  have B3 := B2.mod m1 (fun j hj => by simp [blk] at hj; subst hj; simp; exact Ne.symm e1)
  have C3 := C2.mod m1 (fun j hj => by simp [blk] at hj; subst hj; simp; exact Ne.symm e2)
  have D3 := D2.mod m1 (fun j hj => by simp [blk] at hj; subst hj; simp; exact Ne.symm e3)
  have O3 := O2.mod m1 (fun j hj => by have := N2 j hj; simp; omega)
  generalize w2.setCell ⟨h, 4, none⟩ (.slice a2 nx.length c2) = w3 at *
  have m2 := Mod.setCell (S := [b]) w3 ⟨b, i, none⟩ (strV []) (by simp)
  have G4 := m2.get G3 (by simp; exact e1)
  have B4 := setB [] L i hi B3
  have C4 := C3.mod m2 (fun j hj => by simp [blk] at hj; subst hj; simp; exact Ne.symm e4)
  have D4 := D3.mod m2 (fun j hj => by simp [blk] at hj; subst hj; simp; exact Ne.symm e5)
  have O4 := O3.mod m2 (fun j hj => by have := N2 j hj; simp; omega)
  generalize w3.setCell ⟨b, i, none⟩ (strV []) = w4 at *
  have m3 := Mod.setCell (S := [g]) w4 ⟨g, i, none⟩ (.int .u32 (IntKind.u32.wrap (L[i].2.1 + 1))) (by simp)
  have G5 := m3.get G4 (by simp; exact e2)
  have B5 := B4.mod m3 (fun j hj => by simp [blk] at hj; subst hj; simp; exact e4)
  have C5 := setG (IntKind.u32.wrap (L[i].2.1 + 1)) L i hi C4
  have D5 := D4.mod m3 (fun j hj => by simp [blk] at hj; subst hj; simp; exact Ne.symm e6)
  have O5 := O4.mod m3 (fun j hj => by have := N2 j hj; simp; omega)
  generalize w4.setCell ⟨g, i, none⟩ (.int .u32 (IntKind.u32.wrap (L[i].2.1 + 1))) = w5 at *
  have m4 := Mod.setCell (S := [t]) w5 ⟨t, i, none⟩ (.bool true) (by simp)
  have G6 := m4.get G5 (by simp; exact e3)
  have B6 := B5.mod m4 (fun j hj => by simp [blk] at hj; subst hj; simp; exact e5)
  have C6 := C5.mod m4 (fun j hj => by simp [blk] at hj; subst hj; simp; exact e6)
  have D6 := setL true L i hi D5
  have O6 := O5.mod m4 (fun j hj => by have := N2 j hj; simp; omega)
  have hlen : (L.set i ([], IntKind.u32.wrap (L[i].2.1 + 1), true)).length = L.length := by simp
  have na2 : ∀ x, x < w.heap.size → x ∉ blk a2 := fun x hx hm => by have := N2 x hm; omega
  have nd : ∀ x, x < w.heap.size → Dis (some ⟨x, 0, none⟩) a2 := fun x hx j hj => by simp [blk] at hj; subst hj; exact na2 _ hx
  have ds : ∀ x y : Nat, x ≠ y → Dis (some ⟨x, 0, none⟩) (some ⟨y, 0, none⟩) := fun x y hxy j hj hk => by simp [blk] at hj hk; omega
  refine ⟨h :: (blk (some ⟨b, 0, none⟩) ++ (blk (some ⟨g, 0, none⟩) ++ (blk (some ⟨t, 0, none⟩) ++ blk a2))), ⟨some ⟨b, 0, none⟩, bc, some ⟨g, 0, none⟩, gc, some ⟨t, 0, none⟩, tc, a2, c2, ⟨?_, ?_, ?_, ?_, O6, ⟨by simp [blk]; exact e1, by simp [blk]; exact e2, by simp [blk]; exact e3, na2 h l1⟩, ds _ _ e4, ds _ _ e5, nd b l2, ds _ _ e6, nd g l3, nd t l4⟩, rfl⟩, ?_, ?_⟩
  · rw [hlen, G6]; simp
  · exact B6.same (by rw [List.map_set, List.map_set]; rfl)
  · exact C6.same (by rw [List.map_set, List.map_set]; rfl)
  · exact D6.same (by rw [List.map_set, List.map_set]; rfl)
  · refine (((M2.nil.trans m1 ?_).trans m2 ?_).trans m3 ?_).trans m4 ?_ <;> (intro j hj _; simp at hj; subst hj; simp)
  · intro j hj
    simp only [blk, List.mem_cons, List.mem_append, List.not_mem_nil, or_false] at hj ⊢
    rcases hj with h | h | h | h | h
    · simp [h]
    · simp [h]
    · simp [h]
    · simp [h]
    · exact .inr (N2 j h)

set_option maxRecDepth 100000 in
set_option maxHeartbeats 4000000 in
theorem rget_ok (h : Nat) (F : List Nat) (sz : Nat) (L : List Bm) (nx : List Nat) (i : Nat) (w : World) (hi : i < L.length) (H : RefW w h F sz L (i :: nx)) (hn : nx.length ≤ 100000) :
    Calls Try.prog 13 #[.pointer (some ⟨h, 0, none⟩)] w fun e w' => e = .returned (.int .i64 (i : Int)) ∧ RMoved w w' h F sz (L.set i ([], IntKind.u32.wrap (L[i].2.1 + 1), true)) nx := by
  obtain ⟨ba, bc, ga, gc, ta, tc, na, nc, ⟨h1, h2, h3, h4, h5, ⟨n1, n2, n3, n4⟩, d1, d2, d3, d4, d5, d6⟩, rfl⟩ := H
  obtain ⟨b, rfl, _⟩ := h2.at' hi
  obtain ⟨g, rfl, _⟩ := h3.at' hi
  obtain ⟨t, rfl, _⟩ := h4.at' hi
  obtain ⟨nb, rfl, hcap, sh⟩ := h5.tail
  obtain ⟨nb', hnb, p1, _⟩ := h5.at' (j := 0) (by simp)
  cases hnb
  simp only [List.getElem_cons_zero] at p1
  unfold intV at p1
  have hcl := h5.le
  have hcm5 := Own.cap_le h5
  have hle2 := h2.le
  have hcm2 := Own.cap_le h2
  have hle3 := h3.le
  have hcm3 := Own.cap_le h3
  have hle4 := h4.le
  have hcm4 := Own.cap_le h4
  unfold maxLen at hcm2 hcm3 hcm4 hcm5
  simp only [List.length_cons] at hcl h1
  have hki : (i : Int) < (L.length : Int) := by omega
  have hnh : h ≠ b ∧ h ≠ g ∧ h ≠ t ∧ b ≠ g ∧ b ≠ t ∧ g ≠ t := ⟨fun e => n1 (by simp [blk, e]), fun e => n2 (by simp [blk, e]), fun e => n3 (by simp [blk, e]), fun e => d1 b (by simp [blk]) (by simp [blk, e]), fun e => d2 b (by simp [blk]) (by simp [blk, e]), fun e => d4 g (by simp [blk]) (by simp [blk, e])⟩
  have HN := Lib.hid (show h ≠ b ∧ h ≠ g ∧ h ≠ t ∧ b ≠ g ∧ b ≠ t ∧ g ≠ t ∧ h < w.heap.size ∧ b < w.heap.size ∧ g < w.heap.size ∧ t < w.heap.size from ⟨hnh.1, hnh.2.1, hnh.2.2.1, hnh.2.2.2.1, hnh.2.2.2.2.1, hnh.2.2.2.2.2, lt_of_block h1, h2.lt b (by simp [blk]), h3.lt g (by simp [blk]), h4.lt t (by simp [blk])⟩)
  obtain ⟨e1, e2, e3, e4, e5, e6⟩ := hnh
  have H1 := Lib.hid h1
  have H2 := Lib.hid h2
  have H3 := Lib.hid h3
  have H4 := Lib.hid h4
  have c1 := cell_of_block (i := 1) h1
  have c2 := cell_of_block (i := 2) h1
  have c3 := cell_of_block (i := 3) h1
  have c4 := cell_of_block (i := 4) h1
  have f4 := free_of_block (i := 4) h1
  have SH0 := Lib.hid sh
  clear h1 h2 h3 h4 h5 n1 n2 n3 n4 d1 d2 d3 d4 d5 d6 sh
  by_cases hc : nc = 1
  · subst hc
    have hnx : nx = [] := List.eq_nil_of_length_eq_zero (by omega)
    subst hnx
    have SH : Hid (Shows w (some ⟨nb, 0, none⟩) (([] : List Nat).map intV)) := Shows.nil _ _
    clear hcap SH0 hcl hcm5
    go_enter Try.func13, Try.ntmps13
    go_wp2_with (first | (at_builtin; refine wpl_appM (dst := some 22) _ _ 47 _ 8 Try.underlying47 infoInt rfl (fun _ => rfl) 0 [] rfl rfl (OwnM.nil intV _ _) _ 0 _ [] rfl rfl SH.out (by omega) (by omega) ?_) | fail)
    intro a2 c2' w2 o2 m2 s2
    have M2 := Lib.hid m2
    have N2 : Hid (∀ j, j ∈ blk a2 → w.heap.size ≤ j) := fun j hj => by
      rcases s2.blk j hj with h | h
      · simp [blk] at h
      · exact h
    have O2 := Lib.hid o2
    have G2 := m2.get H1.out (by simp [blk])
    have B2 := H2.out.mod0 m2
    have C2 := H3.out.mod0 m2
    have D2 := H4.out.mod0 m2
    clear o2 m2 s2 c1 c2 c3 c4 f4 p1
    have c1 := cell_of_block (i := 1) G2
    have c2 := cell_of_block (i := 2) G2
    have c3 := cell_of_block (i := 3) G2
    have c4 := cell_of_block (i := 4) G2
    have f4 := free_of_block (i := 4) G2
    have hl2 := lt_of_block G2
    obtain ⟨b', e, b1, b2⟩ := B2.at' hi
    cases e
    obtain ⟨g', e, g1, g2⟩ := C2.at' hi
    cases e
    obtain ⟨t', e, t1, t2⟩ := D2.at' hi
    cases e
    unfold fB at b1
    unfold fG at g1
    unfold fL at t1
    have GG2 := Lib.hid G2
    have BB2 := Lib.hid B2
    have CC2 := Lib.hid C2
    have DD2 := Lib.hid D2
    clear G2 B2 C2 D2
    go_wp2
    go_ret
    refine ⟨rfl, ?_⟩
    have := rget_end h sz L [] i w w2 b g t bc gc tc a2 c2' nb 1 hi M2.out N2.out O2.out GG2.out BB2.out CC2.out DD2.out HN.out
    simpa [blk, strV, IntKind.wrap_u32'] using this
  · have SH := SH0
    have hc2 : 1 < nc := by omega
    have hc3 : (1 : Int) < (nc : Int) := by omega
    clear hcap SH0
    go_enter Try.func13, Try.ntmps13
    go_wp2_with (first | (at_builtin; refine wpl_appM (dst := some 22) _ _ 47 _ 8 Try.underlying47 infoInt rfl (fun _ => rfl) 0 [] rfl rfl (OwnM.nil intV _ _) _ nx.length _ nx rfl rfl SH.out (by omega) (by omega) ?_) | fail)
    intro a2 c2' w2 o2 m2 s2
    have M2 := Lib.hid m2
    have N2 : Hid (∀ j, j ∈ blk a2 → w.heap.size ≤ j) := fun j hj => by
      rcases s2.blk j hj with h | h
      · simp [blk] at h
      · exact h
    have O2 := Lib.hid o2
    have G2 := m2.get H1.out (by simp [blk])
    have B2 := H2.out.mod0 m2
    have C2 := H3.out.mod0 m2
    have D2 := H4.out.mod0 m2
    clear o2 m2 s2 c1 c2 c3 c4 f4 p1
    have c1 := cell_of_block (i := 1) G2
    have c2 := cell_of_block (i := 2) G2
    have c3 := cell_of_block (i := 3) G2
    have c4 := cell_of_block (i := 4) G2
    have f4 := free_of_block (i := 4) G2
    have hl2 := lt_of_block G2
    obtain ⟨b', e, b1, b2⟩ := B2.at' hi
    cases e
    obtain ⟨g', e, g1, g2⟩ := C2.at' hi
    cases e
    obtain ⟨t', e, t1, t2⟩ := D2.at' hi
    cases e
    unfold fB at b1
    unfold fG at g1
    unfold fL at t1
    have GG2 := Lib.hid G2
    have BB2 := Lib.hid B2
    have CC2 := Lib.hid C2
    have DD2 := Lib.hid D2
    clear G2 B2 C2 D2
    go_wp2
    go_ret
    refine ⟨rfl, ?_⟩
    have := rget_end h sz L nx i w w2 b g t bc gc tc a2 c2' nb nc hi M2.out N2.out O2.out GG2.out BB2.out CC2.out DD2.out HN.out
    simpa [blk, strV, IntKind.wrap_u32'] using this
end Go.Proofs.Ytfpmdacpmcdleaa
