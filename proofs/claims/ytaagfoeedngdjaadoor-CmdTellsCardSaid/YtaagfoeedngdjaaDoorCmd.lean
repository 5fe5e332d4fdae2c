/- Commands: how they lie, when they may be. -/
import Derived.Test.YtaagfoeedngdjaaDoorBytes
import Derived.Test.YtaagfoeedngdjaaDoorStr
namespace Go.Proofs.YtaagfoeedngdjaaDoor
open Go Go.RowKit Go.Lib

/-- A command. -/
structure Cd where
  client : Nat
  seq : Nat
  kind : Nat
  keys : List ByteArray
  old : ByteArray
  fresh : ByteArray
  n : Int
/-- A command, and where its keys lie. -/
abbrev Cm := Cd × Option Addr × Nat

/-- The slice at 'ao' shows these texts. -/
def SeesT (w : World) (ao : Option Addr) (l : List ByteArray) : Prop :=
  ∀ j (h : j < l.length), ∃ b off, ao = some ⟨b, off, none⟩ ∧ w.cell? ⟨b, off + j, none⟩ = some (.string l[j])
theorem SeesT.mod {S : List Nat} {w w' : World} {ao : Option Addr} {l : List ByteArray} (h : SeesT w ao l) (hm : Mod S w w') (hn : l ≠ [] → ∀ k, k ∈ blk ao → k ∉ S) : SeesT w' ao l := by
  intro j hj
  obtain ⟨b, off, h1, h2⟩ := h j hj
  exact ⟨b, off, h1, hm.cell h2 (hn (by intro e; subst e; exact absurd hj (Nat.not_lt_zero _)) b (by subst h1; simp [blk]))⟩
theorem SeesT.mod0 {w w' : World} {ao : Option Addr} {l : List ByteArray} (h : SeesT w ao l) (hm : Mod [] w w') : SeesT w' ao l := h.mod hm (by simp)
theorem SeesT.nil (w : World) (ao : Option Addr) : SeesT w ao [] := fun j hj => absurd hj (by simp)

/-- What a command's parts may be, of their types. -/
structure Wf (c : Cd) : Prop where
  client : c.client < 4294967296
  seq : c.seq < 4294967296
  kind : c.kind < 256
  keys : c.keys.length ≤ 9223372036854775807
  key : ∀ k ∈ c.keys, k.size ≤ 9223372036854775807
  old : c.old.size ≤ 9223372036854775807
  fresh : c.fresh.size ≤ 9223372036854775807
  lo : -9223372036854775808 ≤ c.n
  hi : c.n ≤ 9223372036854775807
def cmdC (c : Cm) : List Value := [.int .u32 (c.1.client : Int), .int .u32 (c.1.seq : Int), .int .u8 (c.1.kind : Int), .slice c.2.1 c.1.keys.length c.2.2, .string c.1.old, .string c.1.fresh, .int .i64 c.1.n]
def cmdV (c : Cm) : Value := .agg #[.int .u32 (c.1.client : Int), .int .u32 (c.1.seq : Int), .int .u8 (c.1.kind : Int), .slice c.2.1 c.1.keys.length c.2.2, .string c.1.old, .string c.1.fresh, .int .i64 c.1.n]

/-- How many keys a kind has, at least and at most. -/
def least (k : Nat) : Nat := if k = 6 then 2 else 1
def most (k : Nat) : Nat := if k = 6 then 2 else if k = 7 ∨ k = 8 then 16 else 1
def KeyOk (k : ByteArray) : Prop := 1 ≤ k.size ∧ k.size ≤ 32
instance (k : ByteArray) : Decidable (KeyOk k) := inferInstanceAs (Decidable (_ ∧ _))
/-- May a command be? -/
def May (c : Cd) : Prop :=
  (1 ≤ c.kind ∧ c.kind ≤ 8) ∧ (∀ k ∈ c.keys, KeyOk k) ∧ 0 < c.client ∧ least c.kind ≤ c.keys.length ∧ c.keys.length ≤ most c.kind ∧ c.old.size ≤ 64 ∧ c.fresh.size ≤ 64 ∧
    (c.old.size = 0 ∨ c.kind = 5) ∧ (c.fresh.size = 0 ∨ c.kind = 1 ∨ c.kind = 5) ∧ (c.n = 0 ∨ c.kind = 4)
instance (c : Cd) : Decidable (May c) := inferInstanceAs (Decidable (_ ∧ _))

/-- The package's table. -/
def Cnt (w : World) : Prop := ∀ k, 1 ≤ k → k ≤ 8 → w.cell? ⟨0, k * 2, none⟩ = some (.int .i64 (least k : Int)) ∧ w.cell? ⟨0, k * 2 + 1, none⟩ = some (.int .i64 (most k : Int))
theorem Cnt.mod0 {w w' : World} (h : Cnt w) (hm : Mod [] w w') : Cnt w' := fun k h1 h2 => ⟨hm.cell (h k h1 h2).1 (by simp), hm.cell (h k h1 h2).2 (by simp)⟩

theorem isEmpty_of (s : ByteArray) (h : s ≠ ByteArray.empty) : s.toList.isEmpty = false := by
  rw [ByteArray.toList_eq]
  cases hl : s.data.toList with
  | nil => exact absurd (by rw [str_eta s, hl]; rfl) h
  | cons _ _ => rfl
theorem size_pos (s : ByteArray) (h : s ≠ ByteArray.empty) : 1 ≤ s.size := by
  cases hl : s.data.toList with
  | nil => exact absurd (by rw [str_eta s, hl]; rfl) h
  | cons x r => rw [← size_data s, hl]; simp

set_option maxRecDepth 100000 in
theorem long_any (k : ByteArray) (w : World) : Calls Tryd.prog 32 #[.string k] w fun e w' => e = .returned (.bool (decide (¬ KeyOk k))) ∧ w' = w := by
  by_cases h0 : k = ByteArray.empty
  · subst h0
    go_enter Tryd.func32, Tryd.ntmps32
    go_wp2
    go_ret
    exact ⟨rfl, rfl⟩
  · have h1 := isEmpty_of k h0
    have h2 := size_pos k h0
    by_cases h1 : 32 < k.size
    · go_enter Tryd.func32, Tryd.ntmps32
      go_wp2
      go_ret
      have : ¬ KeyOk k := fun h => by have := h.2; omega
      exact ⟨by simp [this]; omega, rfl⟩
    · go_enter Tryd.func32, Tryd.ntmps32
      go_wp2
      go_ret
      have : KeyOk k := ⟨h2, by omega⟩
      exact ⟨by simp [this]; omega, rfl⟩

set_option maxRecDepth 100000 in
set_option maxHeartbeats 1000000 in
/-- The first text that may not be a key, if there is one. -/
theorem indexT_any (ao : Option Addr) (len cap : Nat) (l : List ByteArray) (w : World) (hl : l.length = len) (hs : SeesT w ao l) (hlen : len ≤ 9223372036854775807) :
    Calls Tryd.prog 42 #[.slice ao len cap, .func (.func 32) #[] #[]] w fun e w' => ∃ r : Int, e = .returned (.int .i64 r) ∧ (0 ≤ r ↔ ∃ k ∈ l, ¬ KeyOk k) ∧ w' = w := by
  subst hl
  have HS := Lib.hid hs
  clear hs
  go_enter Tryd.func42, Tryd.ntmps42
  go_wp2
  go_loopw [8] (fun i wr => ∃ k : Nat, k ≤ l.length ∧ i = .int .i64 (k : Int) ∧ (∀ j, (h : j < l.length) → j < k → KeyOk l[j]) ∧ wr = w) (fun i _ => l.length - (intOf i).toNat)
  case atStart => exact ⟨0, Nat.zero_le _, rfl, fun j _ h => absurd h (Nat.not_lt_zero _), rfl⟩
  case round =>
    obtain ⟨k, hk, rfl, hall, rfl⟩ := hrel
    have HA := Lib.hid hall
    clear hall
    by_cases hlt : k < l.length
    · obtain ⟨b, off, rfl, p0⟩ := HS.out k hlt
      by_cases hok : KeyOk l[k]
      · have D : decide (¬ KeyOk l[k]) = false := by simp [hok]
        obtain ⟨t, ht⟩ : ∃ t, l[k] = t := ⟨_, rfl⟩
        rw [ht] at p0 hok D
        have HT := Lib.hid ht
        clear ht
        go_wp2_with fail
        refine (long_any t _).mono ?_
        rintro e w1 ⟨rfl, rfl⟩
        go_wp2_with fail
        go_roundw
        case rel =>
          refine ⟨k + 1, by omega, by go_num, fun j hj hjk => ?_, by first | rfl | trivial⟩
          by_cases he : j = k
          · subst he; rw [HT.out]; exact hok
          · exact HA.out j hj (by omega)
        case measure => simp [intOf]; omega
      · have D : decide (¬ KeyOk l[k]) = true := by simp [hok]
        have HE : Hid (∃ k ∈ l, ¬ KeyOk k) := Lib.hid ⟨l[k], List.getElem_mem hlt, hok⟩
        obtain ⟨t, ht⟩ : ∃ t, l[k] = t := ⟨_, rfl⟩
        rw [ht] at p0 hok D
        clear ht
        go_wp2_with fail
        refine (long_any t _).mono ?_
        rintro e w1 ⟨rfl, rfl⟩
        go_wp2_with fail
        go_ret
        exact ⟨_, rfl, ⟨fun _ => HE.out, fun _ => by omega⟩, rfl⟩
    · have hke : k = l.length := by omega
      subst hke
      go_wp2
      go_ret
      refine ⟨-1, rfl, ⟨fun h => absurd h (by omega), fun ⟨t, ht, hno⟩ => ?_⟩, rfl⟩
      obtain ⟨j, hj, rfl⟩ := List.getElem_of_mem ht
      exact absurd (HA.out j hj hj) hno
set_option maxRecDepth 100000 in
theorem containsT_any (ao : Option Addr) (len cap : Nat) (l : List ByteArray) (w : World) (hl : l.length = len) (hs : SeesT w ao l) (hlen : len ≤ 9223372036854775807) :
    Calls Tryd.prog 33 #[.slice ao len cap, .func (.func 32) #[] #[]] w fun e w' => e = .returned (.bool (decide (∃ k ∈ l, ¬ KeyOk k))) ∧ w' = w := by
  go_enter Tryd.func33, Tryd.ntmps33
  go_wp2_with fail
  refine (indexT_any ao len cap l w hl hs hlen).mono ?_
  rintro e w1 ⟨r, rfl, hr, rfl⟩
  have HR := Lib.hid hr
  clear hr
  go_wp2_with fail
  go_ret
  exact ⟨by simp [← HR.out], rfl⟩
end Go.Proofs.YtaagfoeedngdjaaDoor
