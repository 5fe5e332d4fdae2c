/- What the rounds of NetKeeps keep. -/
import Derived.Test.YtihhbphlhckakaaNetKeep1
namespace Go.Proofs.Ytihhbphlhckakaa
open Go Go.RowKit Go.Lib

theorem double_outw (g : Nat) (F : List Nat) (L : List Lr) (k : Int) (w : World) (h : NetW w g F L) (hk : k < 0 ∨ (L.length : Int) ≤ k) :
    Calls Try.prog 11 #[.pointer (some ⟨g, 0, none⟩), .int .i64 k] w fun e w' => e = .returned (.int .i64 1) ∧ Mod [] w w' := by
  obtain ⟨ra, rc, l, h1, rfl, rfl⟩ := h
  exact double_out g ra rc l k w h1 (by simpa using hk)
theorem hold_outw (g : Nat) (F : List Nat) (L : List Lr) (k : Int) (w : World) (h : NetW w g F L) (hk : k < 0 ∨ (L.length : Int) ≤ k) :
    Calls Try.prog 19 #[.pointer (some ⟨g, 0, none⟩), .int .i64 k] w fun e w' => e = .returned (.int .i64 1) ∧ Mod [] w w' := by
  obtain ⟨ra, rc, l, h1, rfl, rfl⟩ := h
  exact hold_out g ra rc l k w h1 (by simpa using hk)
/-- All blocks that are written still. -/
def busy (F : List Nat) (sa ga : Option Addr) : List Nat := F ++ (blk sa ++ blk ga)
/-- The net, what was sent, what is gone. -/
def KR (w0 : World) (g : Nat) (sa : Option Addr) (sc : Nat) (S : List Lt) (ga : Option Addr) (gc : Nat) (G : List Lt) (L : List Lr) (F : List Nat) (w : World) : Prop :=
  NetW w g F L ∧ OwnL w sa sc S ∧ OwnL w ga gc G ∧ (∀ x, x ∈ S → Safe w (busy F sa ga) x) ∧ (∀ x, x ∈ G → Safe w (busy F sa ga) x) ∧
  (∀ j, j ∈ F → w0.heap.size ≤ j ∧ j ∉ blk sa ∧ j ∉ blk ga) ∧ (∀ j, j ∈ blk sa → w0.heap.size ≤ j ∧ j ∉ blk ga) ∧ (∀ j, j ∈ blk ga → w0.heap.size ≤ j) ∧
  L.length ≤ 256 ∧ (∀ x, x ∈ L → x.2.2.length ≤ 100) ∧ Mod [] w0 w
theorem mem_busy {F : List Nat} {sa ga : Option Addr} {j : Nat} : j ∈ busy F sa ga ↔ j ∈ F ∨ j ∈ blk sa ∨ j ∈ blk ga := by simp [busy]
section
variable {w0 w w1 : World} {g : Nat} {sa : Option Addr} {sc : Nat} {S : List Lt} {ga : Option Addr} {gc : Nat} {G : List Lt} {L L1 : List Lr} {F : List Nat}
theorem KR.lt (H : KR w0 g sa sc S ga gc G L F w) : ∀ j, j ∈ busy F sa ga → j < w.heap.size := fun j hj => by
  obtain ⟨h1, h2, h3, _⟩ := H
  rcases mem_busy.1 hj with h | h | h
  · exact h1.lt j h
  · exact Own.lt h2 j h
  · exact Own.lt h3 j h
theorem KR.mod0 (H : KR w0 g sa sc S ga gc G L F w) (m : Mod [] w w1) : KR w0 g sa sc S ga gc G L F w1 := by
  obtain ⟨h1, h2, h3, h4, h5, h6, h7, h8, h9, h10, h11⟩ := H
  exact ⟨h1.mod0 m, Own.mod0 h2 m, Own.mod0 h3 m, fun x hx => (h4 x hx).mod0 m, fun x hx => (h5 x hx).mod0 m, h6, h7, h8, h9, h10, h11.trans' m⟩
theorem KR.turn (H : KR w0 g sa sc S ga gc G L F w) {F1 : List Nat} (a1 : NetW w1 g F1 L1) (a2 : Mod F w w1) (a3 : ∀ j, j ∈ F1 → j ∈ F ∨ w.heap.size ≤ j) (hl : L1.length ≤ 256) (hz : ∀ x, x ∈ L1 → x.2.2.length ≤ 100) : KR w0 g sa sc S ga gc G L1 F1 w1 := by
  have hlt := H.lt
  obtain ⟨h1, h2, h3, h4, h5, h6, h7, h8, h9, h10, h11⟩ := H
  have hb : ∀ j, j ∈ busy F1 sa ga → j ∈ busy F sa ga ∨ w.heap.size ≤ j := fun j hj => by
    rcases mem_busy.1 hj with h | h | h
    · rcases a3 j h with h | h
      · exact .inl (mem_busy.2 (.inl h))
      · exact .inr h
    · exact .inl (mem_busy.2 (.inr (.inl h)))
    · exact .inl (mem_busy.2 (.inr (.inr h)))
  have hs : ∀ j, j ∈ F → j ∈ busy F sa ga ∨ w.heap.size ≤ j := fun j hj => .inl (mem_busy.2 (.inl hj))
  refine ⟨a1, Own.mod h2 a2 (fun j hj hm => (h6 j hm).2.1 hj), Own.mod h3 a2 (fun j hj hm => (h6 j hm).2.2 hj), fun x hx => (h4 x hx).mod a2 hs hb, fun x hx => (h5 x hx).mod a2 hs hb, ?_, h7, h8, hl, hz, h11.only2 a2 (fun j hj => (h6 j hj).1)⟩
  intro j hj
  rcases a3 j hj with h | h
  · exact h6 j h
  · exact ⟨Nat.le_trans h11.size h, fun hm => by have := hlt j (mem_busy.2 (.inr (.inl hm))); omega, fun hm => by have := hlt j (mem_busy.2 (.inr (.inr hm))); omega⟩
theorem KR.moved (H : KR w0 g sa sc S ga gc G L F w) (a : Moved w w1 g F L1) (hl : L1.length ≤ 256) (hz : ∀ x, x ∈ L1 → x.2.2.length ≤ 100) : ∃ F1, KR w0 g sa sc S ga gc G L1 F1 w1 ∧ Mod F w w1 ∧ ∀ j, j ∈ F1 → j ∈ F ∨ w.heap.size ≤ j := by
  obtain ⟨F1, a1, a2, a3⟩ := a
  exact ⟨F1, H.turn a1 a2 a3 hl hz, a2, a3⟩
/-- The letters that were told just now. -/
theorem KR.told (H : KR w0 g sa sc S ga gc G L F w) {a : Option Addr} {c : Nat} {l2 : List Lt} (h : Lets w1 a c l2) (m : Mod [] w w1) (hf : ∀ j, j ∈ blk a ++ fpL l2 → w.heap.size ≤ j) :
    (∀ j, j ∈ blk a → j ∉ busy F sa ga) ∧ ∀ x, x ∈ l2 → Safe w1 (busy F sa ga) x := by
  have hlt := H.lt
  refine ⟨fun j hj hm => ?_, fun x hx => ⟨(h.2.1 x hx).sees, fun _ b off hb hm => ?_⟩⟩
  · have h1 := hf j (List.mem_append.2 (.inl hj)); have h2 := hlt j hm; omega
  · have h1 := hf b (List.mem_append.2 (.inr (fpL_mem hx b (by rw [hb]; simp [blk]))))
    have h2 := hlt b hm
    omega
/-- One more is gone. -/
theorem KR.gone (H : KR w0 g sa sc S ga gc G L F w) {x : Lt} {a : Option Addr} {c : Nat} (o : OwnL w1 a c (G ++ [x])) (m : Mod (blk ga) w w1) (s : SameOrNew w w1 ga a) (hx : Safe w (busy F sa ga) x) : KR w0 g sa sc S a c (G ++ [x]) L F w1 := by
  have hlt := H.lt
  obtain ⟨h1, h2, h3, h4, h5, h6, h7, h8, h9, h10, h11⟩ := H
  have hb : ∀ j, j ∈ busy F sa a → j ∈ busy F sa ga ∨ w.heap.size ≤ j := fun j hj => by
    rcases mem_busy.1 hj with h | h | h
    · exact .inl (mem_busy.2 (.inl h))
    · exact .inl (mem_busy.2 (.inr (.inl h)))
    · rcases s.blk j h with h | h
      · exact .inl (mem_busy.2 (.inr (.inr h)))
      · exact .inr h
  have hs : ∀ j, j ∈ blk ga → j ∈ busy F sa ga ∨ w.heap.size ≤ j := fun j hj => .inl (mem_busy.2 (.inr (.inr hj)))
  refine ⟨h1.mod m (fun j hj hm => (h6 j hj).2.2 hm), Own.mod h2 m (fun j hj hm => (h7 j hj).2 hm), o, fun x hx => (h4 x hx).mod m hs hb, fun y hy => ?_, ?_, ?_, ?_, h9, h10, h11.only2 m (fun j hj => h8 j hj)⟩
  · rcases List.mem_append.1 hy with h | h
    · exact (h5 y h).mod m hs hb
    · simp only [List.mem_singleton] at h; subst h; exact hx.mod m hs hb
  · intro j hj
    refine ⟨(h6 j hj).1, (h6 j hj).2.1, fun hm => ?_⟩
    rcases s.blk j hm with h | h
    · exact (h6 j hj).2.2 h
    · have := hlt j (mem_busy.2 (.inl hj)); omega
  · intro j hj
    refine ⟨(h7 j hj).1, fun hm => ?_⟩
    rcases s.blk j hm with h | h
    · exact (h7 j hj).2 h
    · have := hlt j (mem_busy.2 (.inr (.inl hj))); omega
  · intro j hj
    rcases s.blk j hj with h | h
    · exact h8 j h
    · exact Nat.le_trans h11.size h
/-- One more is sent. -/
theorem KR.sent (H : KR w0 g sa sc S ga gc G L F w) {x : Lt} {a : Option Addr} {c : Nat} (o : OwnL w1 a c (S ++ [x])) (m : Mod (blk sa) w w1) (s : SameOrNew w w1 sa a) (hx : Safe w (busy F sa ga) x) : KR w0 g a c (S ++ [x]) ga gc G L F w1 := by
  have hlt := H.lt
  obtain ⟨h1, h2, h3, h4, h5, h6, h7, h8, h9, h10, h11⟩ := H
  have hb : ∀ j, j ∈ busy F a ga → j ∈ busy F sa ga ∨ w.heap.size ≤ j := fun j hj => by
    rcases mem_busy.1 hj with h | h | h
    · exact .inl (mem_busy.2 (.inl h))
    · rcases s.blk j h with h | h
      · exact .inl (mem_busy.2 (.inr (.inl h)))
      · exact .inr h
    · exact .inl (mem_busy.2 (.inr (.inr h)))
  have hs : ∀ j, j ∈ blk sa → j ∈ busy F sa ga ∨ w.heap.size ≤ j := fun j hj => .inl (mem_busy.2 (.inr (.inl hj)))
  refine ⟨h1.mod m (fun j hj hm => (h6 j hj).2.1 hm), o, Own.mod h3 m (fun j hj hm => (h7 j hm).2 hj), fun y hy => ?_, fun x hx => (h5 x hx).mod m hs hb, ?_, ?_, h8, h9, h10, h11.only2 m (fun j hj => (h7 j hj).1)⟩
  · rcases List.mem_append.1 hy with h | h
    · exact (h4 y h).mod m hs hb
    · simp only [List.mem_singleton] at h; subst h; exact hx.mod m hs hb
  · intro j hj
    refine ⟨(h6 j hj).1, fun hm => ?_, (h6 j hj).2.2⟩
    rcases s.blk j hm with h | h
    · exact (h6 j hj).2.1 h
    · have := hlt j (mem_busy.2 (.inl hj)); omega
  · intro j hj
    refine ⟨?_, fun hm => ?_⟩
    · rcases s.blk j hj with h | h
      · exact (h7 j h).1
      · exact Nat.le_trans h11.size h
    · rcases s.blk j hj with h | h
      · exact (h7 j h).2 hm
      · have := hlt j (mem_busy.2 (.inr (.inr hm))); omega
theorem KR.far (H : KR w0 g sa sc S ga gc G L F w) {x : Lt} (h : Sees w x.2.2.1 x.2.2.2.2) (hf : ∀ b off, x.2.2.1 = some ⟨b, off, none⟩ → b ∉ busy F sa ga) : Safe w (busy F sa ga) x := ⟨h, fun _ b off hb => hf b off hb⟩
theorem KR.old (H : KR w0 g sa sc S ga gc G L F w) {x : Lt} (h : Sees w0 x.2.2.1 x.2.2.2.2) : Safe w (busy F sa ga) x := by
  obtain ⟨h1, h2, h3, h4, h5, h6, h7, h8, h9, h10, h11⟩ := H
  refine Safe.old h h11 (fun j hj => ?_)
  rcases mem_busy.1 hj with h | h | h
  · exact (h6 j h).1
  · exact (h7 j h).1
  · exact h8 j h
end
/-- What holds of what was sent, is gone, is under way. -/
def Acc (S G : List Lt) (L : List Lr) : Prop := (S.map stripL).Perm (G.map stripL ++ L)
theorem Acc.send {S G : List Lt} {L : List Lr} (h : Acc S G L) (x : Lt) (y : Lr) (hy : stripL x = y) : Acc (S ++ [x]) G (L ++ [y]) := by
  unfold Acc at *
  rw [List.map_append, ← List.append_assoc]
  simp only [List.map_cons, List.map_nil, hy]
  exact List.Perm.append_right _ h
theorem Acc.out {S G : List Lt} {L : List Lr} (h : Acc S G L) (k : Nat) (hk : k < L.length) (x : Lt) (hx : stripL x = L[k]) : Acc S (G ++ [x]) (L.eraseIdx k) := by
  unfold Acc at *
  rw [List.map_append]
  simp only [List.map_cons, List.map_nil, hx]
  exact h.trans (perm_take _ L k hk)
theorem Acc.hold {S G : List Lt} {L : List Lr} (h : Acc S G L) (k : Nat) (hk : k < L.length) : Acc S G (L.eraseIdx k ++ [L[k]]) := h.trans (perm_hold _ L k hk)
end Go.Proofs.Ytihhbphlhckakaa
