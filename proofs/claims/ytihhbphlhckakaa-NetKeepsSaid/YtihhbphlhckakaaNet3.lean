/- The walks of the net package: what is done with a letter at a place. -/
import Derived.Test.YtihhbphlhckakaaNet2
namespace Go.Proofs.Ytihhbphlhckakaa
open Go Go.RowKit Go.Lib

set_option maxRecDepth 100000 in
set_option maxHeartbeats 1000000 in
theorem with_double (g : Nat) (ra : Option Addr) (rc : Nat) (l : List Lt) (k : Nat) (hk : k < l.length) (caps : Array Value) (R : Int → World → Prop) (w : World) (h : NetF w g ra rc l)
    (hdo : Calls Try.prog 26 (#[.agg #[.int .i64 l[k].1, .int .i64 l[k].2.1, .slice l[k].2.2.1 l[k].2.2.2.2.length l[k].2.2.2.1]] ++ caps) w (fun e w' => ∃ v, e = .returned (.int .i64 v) ∧ R v w')) :
    Calls Try.prog 25 #[.pointer (some ⟨g, 0, none⟩), .int .i64 (k : Int), .func (.func 26) #[] caps] w (fun e w' => ∃ v, e = .returned (.int .i64 v) ∧ R v w') := by
  have c0 := cell_of_block (i := 0) h.1
  obtain ⟨b, rfl, p0, p1, p2⟩ := OwnL.at' h.2.1 hk
  have HD := Lib.hid hdo
  clear h hdo
  go_enter Try.func25, Try.ntmps25
  go_wp2_with fail
  refine HD.out.mono ?_
  rintro e w1 ⟨v, rfl, hR⟩
  have HR := Lib.hid hR
  clear hR HD
  go_wp2
  go_ret
  exact ⟨v, rfl, HR.out⟩
set_option maxRecDepth 100000 in
set_option maxHeartbeats 1000000 in
theorem with_spoil (g : Nat) (ra : Option Addr) (rc : Nat) (l : List Lt) (k : Nat) (hk : k < l.length) (caps : Array Value) (R : Int → World → Prop) (w : World) (h : NetF w g ra rc l)
    (hdo : Calls Try.prog 27 (#[.agg #[.int .i64 l[k].1, .int .i64 l[k].2.1, .slice l[k].2.2.1 l[k].2.2.2.2.length l[k].2.2.2.1]] ++ caps) w (fun e w' => ∃ v, e = .returned (.int .i64 v) ∧ R v w')) :
    Calls Try.prog 25 #[.pointer (some ⟨g, 0, none⟩), .int .i64 (k : Int), .func (.func 27) #[] caps] w (fun e w' => ∃ v, e = .returned (.int .i64 v) ∧ R v w') := by
  have c0 := cell_of_block (i := 0) h.1
  obtain ⟨b, rfl, p0, p1, p2⟩ := OwnL.at' h.2.1 hk
  have HD := Lib.hid hdo
  clear h hdo
  go_enter Try.func25, Try.ntmps25
  go_wp2_with fail
  refine HD.out.mono ?_
  rintro e w1 ⟨v, rfl, hR⟩
  have HR := Lib.hid hR
  clear hR HD
  go_wp2
  go_ret
  exact ⟨v, rfl, HR.out⟩
set_option maxRecDepth 100000 in
set_option maxHeartbeats 1000000 in
theorem with_take (g : Nat) (ra : Option Addr) (rc : Nat) (l : List Lt) (k : Nat) (hk : k < l.length) (caps : Array Value) (R : Int → World → Prop) (w : World) (h : NetF w g ra rc l)
    (hdo : Calls Try.prog 28 (#[.agg #[.int .i64 l[k].1, .int .i64 l[k].2.1, .slice l[k].2.2.1 l[k].2.2.2.2.length l[k].2.2.2.1]] ++ caps) w (fun e w' => ∃ v, e = .returned (.int .i64 v) ∧ R v w')) :
    Calls Try.prog 25 #[.pointer (some ⟨g, 0, none⟩), .int .i64 (k : Int), .func (.func 28) #[] caps] w (fun e w' => ∃ v, e = .returned (.int .i64 v) ∧ R v w') := by
  have c0 := cell_of_block (i := 0) h.1
  obtain ⟨b, rfl, p0, p1, p2⟩ := OwnL.at' h.2.1 hk
  have HD := Lib.hid hdo
  clear h hdo
  go_enter Try.func25, Try.ntmps25
  go_wp2_with fail
  refine HD.out.mono ?_
  rintro e w1 ⟨v, rfl, hR⟩
  have HR := Lib.hid hR
  clear hR HD
  go_wp2
  go_ret
  exact ⟨v, rfl, HR.out⟩
set_option maxRecDepth 100000 in
set_option maxHeartbeats 1000000 in
theorem with_hold (g : Nat) (ra : Option Addr) (rc : Nat) (l : List Lt) (k : Nat) (hk : k < l.length) (caps : Array Value) (R : Int → World → Prop) (w : World) (h : NetF w g ra rc l)
    (hdo : Calls Try.prog 32 (#[.agg #[.int .i64 l[k].1, .int .i64 l[k].2.1, .slice l[k].2.2.1 l[k].2.2.2.2.length l[k].2.2.2.1]] ++ caps) w (fun e w' => ∃ v, e = .returned (.int .i64 v) ∧ R v w')) :
    Calls Try.prog 25 #[.pointer (some ⟨g, 0, none⟩), .int .i64 (k : Int), .func (.func 32) #[] caps] w (fun e w' => ∃ v, e = .returned (.int .i64 v) ∧ R v w') := by
  have c0 := cell_of_block (i := 0) h.1
  obtain ⟨b, rfl, p0, p1, p2⟩ := OwnL.at' h.2.1 hk
  have HD := Lib.hid hdo
  clear h hdo
  go_enter Try.func25, Try.ntmps25
  go_wp2_with fail
  refine HD.out.mono ?_
  rintro e w1 ⟨v, rfl, hR⟩
  have HR := Lib.hid hR
  clear hR HD
  go_wp2
  go_ret
  exact ⟨v, rfl, HR.out⟩
set_option maxRecDepth 100000 in
set_option maxHeartbeats 1000000 in
theorem with_out (g : Nat) (ra : Option Addr) (rc : Nat) (l : List Lt) (k : Int) (hk : k < 0 ∨ (l.length : Int) ≤ k) (fv : Value) (w : World) (h : NetF w g ra rc l) :
    Calls Try.prog 25 #[.pointer (some ⟨g, 0, none⟩), .int .i64 k, fv] w (fun e w' => e = .returned (.int .i64 1) ∧ w' = w) := by
  have c0 := cell_of_block (i := 0) h.1
  clear h
  rcases hk with hk | hk
  · go_enter Try.func25, Try.ntmps25
    go_wp2
    go_ret
    exact ⟨rfl, rfl⟩
  · have hk0 : ¬ k < 0 := by omega
    go_enter Try.func25, Try.ntmps25
    go_wp2
    go_ret
    exact ⟨rfl, rfl⟩
set_option maxRecDepth 100000 in
theorem with_nil (k : Int) (fv : Value) (w : World) :
    Calls Try.prog 25 #[.pointer none, .int .i64 k, fv] w (fun e w' => e = .returned (.int .i64 2) ∧ w' = w) := by
  go_enter Try.func25, Try.ntmps25
  go_wp2
  go_ret
  exact ⟨rfl, rfl⟩
set_option maxRecDepth 100000 in
set_option maxHeartbeats 1000000 in
theorem send_bad (gp : Option Addr) (fr to : Int) (ao : Option Addr) (n c : Nat) (w : World) (hb : ¬ (0 ≤ fr ∧ fr < 7) ∨ ¬ (0 ≤ to ∧ to < 7) ∨ fr = to) (hg : gp.isSome = true) :
    Calls Try.prog 10 #[.pointer gp, .agg #[.int .i64 fr, .int .i64 to, .slice ao n c]] w (fun e w' => e = .returned (.int .i64 1) ∧ Mod [] w w') := by
  obtain ⟨gp, rfl⟩ := Option.isSome_iff_exists.1 hg
  have M1 := Lib.hid (Mod.alloc [] w (.cells #[.int .i64 fr, .int .i64 to, .slice ao n c] 29))
  cases hf : decide (0 ≤ fr ∧ fr < 7) with
  | false =>
    clear hb
    go_enter Try.func10, Try.ntmps10
    go_wp2_with fail
    refine (replica_any fr false _ hf).mono ?_
    rintro e w1 ⟨rfl, rfl⟩
    go_wp2
    go_ret
    exact ⟨rfl, M1.out⟩
  | true =>
    cases ht : decide (0 ≤ to ∧ to < 7) with
    | false =>
      clear hb
      go_enter Try.func10, Try.ntmps10
      go_wp2_with fail
      refine (replica_any fr true _ hf).mono ?_
      rintro e w1 ⟨rfl, rfl⟩
      go_wp2_with fail
      refine (replica_any to false _ ht).mono ?_
      rintro e w1 ⟨rfl, rfl⟩
      go_wp2
      go_ret
      exact ⟨rfl, M1.out⟩
    | true =>
      have he : fr = to := by simp at hf ht; omega
      subst he
      clear hb
      go_enter Try.func10, Try.ntmps10
      go_wp2_with fail
      refine (replica_any fr true _ hf).mono ?_
      rintro e w1 ⟨rfl, rfl⟩
      go_wp2_with fail
      refine (replica_any fr true _ hf).mono ?_
      rintro e w1 ⟨rfl, rfl⟩
      go_wp2
      go_ret
      exact ⟨rfl, M1.out⟩
set_option maxRecDepth 100000 in
theorem send_nil (v : Value) (fr to : Int) (ao : Option Addr) (n c : Nat) (w : World) :
    Calls Try.prog 10 #[.pointer none, .agg #[.int .i64 fr, .int .i64 to, .slice ao n c]] w (fun e w' => e = .returned (.int .i64 2) ∧ Mod [] w w') := by
  have M1 := Lib.hid (Mod.alloc [] w (.cells #[.int .i64 fr, .int .i64 to, .slice ao n c] 29))
  go_enter Try.func10, Try.ntmps10
  go_wp2
  go_ret
  exact ⟨rfl, M1.out⟩
/-- A net of letters that are known by from, to and bytes; F: all its blocks. -/
def stripL (x : Lt) : Int × Int × List UInt8 := (x.1, x.2.1, x.2.2.2.2)
def NetW (w : World) (g : Nat) (F : List Nat) (L : List (Int × Int × List UInt8)) : Prop :=
  ∃ ra rc l, NetF w g ra rc l ∧ l.map stripL = L ∧ F = g :: (blk ra ++ fpL l)
def Moved (w w' : World) (g : Nat) (F : List Nat) (L : List (Int × Int × List UInt8)) : Prop :=
  ∃ F', NetW w' g F' L ∧ Mod F w w' ∧ ∀ k, k ∈ F' → k ∈ F ∨ w.heap.size ≤ k
theorem NetW.mod {S : List Nat} {w w' : World} {g : Nat} {F : List Nat} {L : List (Int × Int × List UInt8)} (h : NetW w g F L) (hm : Mod S w w') (hs : ∀ k, k ∈ F → k ∉ S) : NetW w' g F L := by
  obtain ⟨ra, rc, l, h1, h2, rfl⟩ := h
  exact ⟨ra, rc, l, h1.mod hm hs, h2, rfl⟩
theorem NetW.mod0 {w w' : World} {g : Nat} {F : List Nat} {L : List (Int × Int × List UInt8)} (h : NetW w g F L) (hm : Mod [] w w') : NetW w' g F L := h.mod hm (by simp)
theorem NetW.lt {w : World} {g : Nat} {F : List Nat} {L : List (Int × Int × List UInt8)} (h : NetW w g F L) : ∀ k, k ∈ F → k < w.heap.size := by
  obtain ⟨ra, rc, l, h1, h2, rfl⟩ := h
  exact h1.lt
theorem Moved.later {a b c : World} {g : Nat} {F : List Nat} {L : List (Int × Int × List UInt8)} (hm : Mod [] a b) (h : Moved b c g F L) : Moved a c g F L := by
  obtain ⟨F', h1, h2, h3⟩ := h
  exact ⟨F', h1, hm.nil.trans' h2, fun k hk => (h3 k hk).imp id (fun h => Nat.le_trans hm.size h)⟩
set_option maxRecDepth 100000 in
set_option maxHeartbeats 1000000 in
theorem behind_w (g : Nat) (F : List Nat) (L : List (Int × Int × List UInt8)) (fr to : Int) (ao : Option Addr) (n c : Nat) (bs : List UInt8) (w : World) (h : NetW w g F L) (hl : L.length < 256) (hn : bs.length = n) (ho : OwnB w ao c bs) (hx : ∀ k, k ∈ blk ao → k ∉ F) :
    Calls Try.prog 23 #[.pointer (some ⟨g, 0, none⟩), .agg #[.int .i64 fr, .int .i64 to, .slice ao n c]] w fun e w' => e = .returned (.int .i64 0) ∧
      ∃ F', NetW w' g F' (L ++ [(fr, to, bs)]) ∧ Mod F w w' ∧ (∀ k, k ∈ F' → k ∈ F ∨ k ∈ blk ao ∨ w.heap.size ≤ k) := by
  obtain ⟨ra, rc, l, h1, rfl, rfl⟩ := h
  refine (behind_ok g ra rc l fr to ao n c bs w h1 (by simpa using hl) hn ho hx).mono ?_
  rintro e w' ⟨rfl, ra', rc', h2, h3, h4⟩
  refine ⟨rfl, g :: (blk ra' ++ fpL (l ++ [(fr, to, ao, c, bs)])), ⟨ra', rc', _, h2, by simp [stripL], rfl⟩, h3.weaken (fun k hk => ?_), fun k hk => ?_⟩
  · rcases List.mem_cons.1 hk with h | h
    · exact List.mem_cons.2 (.inl h)
    · exact List.mem_cons.2 (.inr (List.mem_append.2 (.inl h)))
  · rw [fpL_append] at hk
    simp only [List.mem_cons, List.mem_append] at hk ⊢
    rcases hk with h | h | h | h
    · exact .inl (.inl h)
    · rcases h4.blk k h with h | h
      · exact .inl (.inr (.inl h))
      · exact .inr (.inr h)
    · exact .inl (.inr (.inr h))
    · exact .inr (.inl h)
theorem behind_fullw (g : Nat) (F : List Nat) (L : List (Int × Int × List UInt8)) (fr to : Int) (ao : Option Addr) (n c : Nat) (w : World) (h : NetW w g F L) (hl : L.length = 256) :
    Calls Try.prog 23 #[.pointer (some ⟨g, 0, none⟩), .agg #[.int .i64 fr, .int .i64 to, .slice ao n c]] w fun e w' => e = .returned (.int .i64 30) ∧ Mod [] w w' := by
  obtain ⟨ra, rc, l, h1, rfl, rfl⟩ := h
  exact behind_full g ra rc l fr to ao n c w h1 (by simpa using hl)
set_option maxRecDepth 100000 in
set_option maxHeartbeats 1000000 in
theorem send_full (g : Nat) (F : List Nat) (L : List (Int × Int × List UInt8)) (fr to : Int) (ao : Option Addr) (n c : Nat) (bs : List UInt8) (w : World) (h : NetW w g F L) (hl : L.length = 256) (hn : bs.length = n) (hs : Sees w ao bs) (hb : n ≤ 140737488355000)
    (hf : decide (0 ≤ fr ∧ fr < 7) = true) (ht : decide (0 ≤ to ∧ to < 7) = true) (hne : ¬ fr = to) :
    Calls Try.prog 10 #[.pointer (some ⟨g, 0, none⟩), .agg #[.int .i64 fr, .int .i64 to, .slice ao n c]] w (fun e w' => e = .returned (.int .i64 30) ∧ Mod [] w w') := by
  have m1 := Mod.alloc [] w (.cells #[.int .i64 fr, .int .i64 to, .slice ao n c] 29)
  have H := Lib.hid (h.mod0 m1)
  have HS := Lib.hid (hs.mod0 m1)
  have M1 := Lib.hid m1
  clear h hs m1
  go_enter Try.func10, Try.ntmps10
  go_wp2_with fail
  refine (replica_any fr true _ hf).mono ?_
  rintro e w1 ⟨rfl, rfl⟩
  go_wp2_with fail
  refine (replica_any to true _ ht).mono ?_
  rintro e w1 ⟨rfl, rfl⟩
  go_wp2_with fail
  refine (copied_any fr to ao n c bs _ hn HS.out hb).mono ?_
  rintro e w2 ⟨a2, c2, rfl, o2, m2, s2⟩
  have H2 := Lib.hid (H.out.mod0 m2)
  have M2 := Lib.hid (M1.out.trans' m2)
  clear o2 m2 s2
  go_wp2_with fail
  refine (behind_fullw g F L fr to a2 n c2 _ H2.out hl).mono ?_
  rintro e w3 ⟨rfl, m3⟩
  have M3 := Lib.hid (M2.out.trans' m3)
  clear m3
  go_wp2
  go_ret
  exact ⟨rfl, M3.out⟩
set_option maxRecDepth 100000 in
set_option maxHeartbeats 1000000 in
theorem send_ok (g : Nat) (F : List Nat) (L : List (Int × Int × List UInt8)) (fr to : Int) (ao : Option Addr) (n c : Nat) (bs : List UInt8) (w : World) (h : NetW w g F L) (hl : L.length < 256) (hn : bs.length = n) (hs : Sees w ao bs) (hb : n ≤ 140737488355000)
    (hf : decide (0 ≤ fr ∧ fr < 7) = true) (ht : decide (0 ≤ to ∧ to < 7) = true) (hne : ¬ fr = to) :
    Calls Try.prog 10 #[.pointer (some ⟨g, 0, none⟩), .agg #[.int .i64 fr, .int .i64 to, .slice ao n c]] w (fun e w' => e = .returned (.int .i64 0) ∧ Moved w w' g F (L ++ [(fr, to, bs)])) := by
  have m1 := Mod.alloc [] w (.cells #[.int .i64 fr, .int .i64 to, .slice ao n c] 29)
  have HF := Lib.hid h.lt
  have H := Lib.hid (h.mod0 m1)
  have HS := Lib.hid (hs.mod0 m1)
  have M1 := Lib.hid m1
  clear h hs m1
  go_enter Try.func10, Try.ntmps10
  go_wp2_with fail
  refine (replica_any fr true _ hf).mono ?_
  rintro e w1 ⟨rfl, rfl⟩
  go_wp2_with fail
  refine (replica_any to true _ ht).mono ?_
  rintro e w1 ⟨rfl, rfl⟩
  go_wp2_with fail
  refine (copied_any fr to ao n c bs _ hn HS.out hb).mono ?_
  rintro e w2 ⟨a2, c2, rfl, o2, m2, s2⟩
  have H2 := Lib.hid (H.out.mod0 m2)
  have M2 := Lib.hid (M1.out.trans' m2)
  have O2 := Lib.hid o2
  have S2 : Hid (∀ k, k ∈ blk a2 → w.heap.size ≤ k) := fun k hk => by
    rcases s2.blk k hk with h | h
    · simp [blk] at h
    · simp at h; omega
  clear o2 m2 s2
  go_wp2_with fail
  refine (behind_w g F L fr to a2 n c2 bs _ H2.out hl hn O2.out (fun k hk hk2 => by have := HF.out k hk2; have := S2.out k hk; omega)).mono ?_
  rintro e w3 ⟨rfl, F', h3, m3, n3⟩
  have HR : Hid (Moved w w3 g F (L ++ [(fr, to, bs)])) := ⟨F', h3, M2.out.nil.trans' m3, fun k hk => by
    rcases n3 k hk with h | h | h
    · exact .inl h
    · exact .inr (S2.out k h)
    · exact .inr (Nat.le_trans M2.out.size h)⟩
  clear h3 m3 n3
  go_wp2
  go_ret
  exact ⟨rfl, HR.out⟩
end Go.Proofs.Ytihhbphlhckakaa
