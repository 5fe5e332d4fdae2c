/- Many votes, many batches: what the law MsgKnown looks at behind its table. -/
import Derived.Test.YtekdnljincbghaaDoorHMsgK1
namespace Go.Proofs.YtekdnljincbghaaDoor
open Go Go.RowKit Go.Lib

/-- Votes for the slots from 1 on. -/
def Vn (n : Nat) : List Vm := (List.range n).map fun j => (⟨j + 1, 0, 0⟩, ([], none, 0))
theorem Vn_length (n : Nat) : (Vn n).length = n := by simp [Vn]
theorem Vn_succ (n : Nat) : Vn (n + 1) = Vn n ++ [(⟨n + 1, 0, 0⟩, ([], none, 0))] := by simp [Vn, List.range_succ]
theorem Vn_take (n k : Nat) (h : k ≤ n) : (Vn n).take k = Vn k := by
  unfold Vn
  rw [← List.map_take, List.take_range, Nat.min_eq_left h]
theorem Vn_mem {n : Nat} {v : Vm} (h : v ∈ Vn n) : ∃ j, j < n ∧ v = (⟨j + 1, 0, 0⟩, ([], none, 0)) := by
  obtain ⟨j, hj, rfl⟩ := List.mem_map.1 h
  exact ⟨j, List.mem_range.1 hj, rfl⟩
/-- A message of so many votes; of so many batches. -/
def mV (ao : Option Addr) (c n : Nat) : Mm := ⟨⟨2, 0, 0, 0, 0, 0⟩, ao, c, Vn n, none, 0, [], ([], none, 0)⟩
def mB (ao : Option Addr) (n : Nat) : Mm := ⟨⟨4, 0, 0, 1, 0, 0⟩, none, 0, [], ao, n, List.replicate n ([], none, 0), ([], none, 0)⟩
theorem mV_sees {w : World} {ao : Option Addr} {c n k : Nat} (h : OwnV w ao c (Vn n)) (hk : k ≤ n) : SeesM w (mV ao c k) := by
  have hv : SeesVs w ao (Vn k) := by
    intro j hj
    have hj' : j < (Vn n).length := by rw [Vn_length] at *; omega
    have h1 := ownV_sees h (fun v hv => by obtain ⟨_, _, rfl⟩ := Vn_mem hv; exact Sees.nil _ _) j hj'
    have e : (Vn k)[j] = (Vn n)[j] := by simp [Vn]
    rw [e]
    exact h1
  exact ⟨hv, seesB_nil _ _, Sees.nil _ _⟩
theorem mV_wf {ao : Option Addr} {c n : Nat} (hn : n ≤ 300) : WfM (mV ao c n) := by
  refine ⟨?_, ?_, fun v hv => ?_, by simp [mV], by simp [mV], ?_⟩
  · unfold WfH mV; dsimp only; omega
  · unfold mV; dsimp only; rw [Vn_length]; omega
  · obtain ⟨j, hj, rfl⟩ := Vn_mem hv
    refine ⟨?_, by unfold WfB; simp⟩
    unfold WfV
    dsimp only
    omega
  · unfold WfB mV; simp
theorem mV_small {ao : Option Addr} {c n : Nat} (hn : n ≤ 300) : SmallM (mV ao c n) := by
  refine ⟨by unfold mV; dsimp only; rw [Vn_length]; omega, fun v hv => ?_, by simp [mV], by simp [mV], by simp [mV]⟩
  obtain ⟨j, hj, rfl⟩ := Vn_mem hv
  simp
theorem mV_d (ao : Option Addr) (c n : Nat) : (mV ao c n).d = ⟨⟨2, 0, 0, 0, 0, 0⟩, (List.range n).map fun j => (⟨j + 1, 0, 0⟩, []), [], []⟩ := by
  unfold Mm.d mV dV dB Vn
  simp
theorem mV_256 (ao : Option Addr) (c : Nat) : MayM (mV ao c 256).d := by
  rw [mV_d]
  decide +kernel
theorem mV_257 (ao : Option Addr) (c : Nat) : ¬ MayM (mV ao c 257).d := by
  rw [mV_d]
  decide +kernel
theorem mV_val (ao : Option Addr) (c n : Nat) : msgV (mV ao c n) = .agg #[.int .u8 2, .int .u64 0, .int .i64 0, .int .u64 0, .int .u64 0, .int .u64 0, .slice ao n c, .slice none 0 0, .slice none 0 0] := by
  unfold msgV mC mV
  dsimp only
  rw [Vn_length]
  rfl
theorem mB_sees {w : World} {g n : Nat} {z : Nat × Nat} (h : w.heap[g]? = some (.cells (madeCells (Value.cells (.slice none 0 0)) (n * 1)) 27 z)) : SeesM w (mB (some ⟨g, 0, none⟩) n) := by
  rw [made_b] at h
  exact ⟨seesV_nil _ _, seesB_of (l := List.replicate n (([], none, 0) : Bs)) h (fun b hb => by rw [(List.mem_replicate.1 hb).2]; exact Sees.nil _ _), Sees.nil _ _⟩
theorem mB_wf {ao : Option Addr} {n : Nat} (hn : n ≤ 300) : WfM (mB ao n) := by
  refine ⟨?_, by simp [mB], by simp [mB], ?_, fun b hb => ?_, ?_⟩
  · unfold WfH mB; dsimp only; omega
  · unfold mB; dsimp only; rw [List.length_replicate]; omega
  · rw [(List.mem_replicate.1 hb).2]; unfold WfB; simp
  · unfold WfB mB; simp
theorem mB_small {ao : Option Addr} {n : Nat} (hn : n ≤ 300) : SmallM (mB ao n) := by
  refine ⟨by simp [mB], by simp [mB], by unfold mB; dsimp only; rw [List.length_replicate]; omega, fun b hb => ?_, by simp [mB]⟩
  rw [(List.mem_replicate.1 hb).2]
  simp
theorem mB_16 (ao : Option Addr) : MayM (mB ao 16).d := by
  have e : (mB ao 16).d = ⟨⟨4, 0, 0, 1, 0, 0⟩, [], List.replicate 16 [], []⟩ := by
    unfold Mm.d mB dV dB
    simp
  rw [e]
  decide +kernel
theorem mB_val (ao : Option Addr) (n : Nat) : msgV (mB ao n) = .agg #[.int .u8 4, .int .u64 0, .int .i64 0, .int .u64 1, .int .u64 0, .int .u64 0, .slice none 0 0, .slice ao n n, .slice none 0 0] := by
  unfold msgV mC mB
  dsimp only
  rw [List.length_replicate]
  rfl
theorem take4 : takeR [1, 2, 3, 4] = (10, (mz 0).d) := if_pos (by decide)
theorem take5 : takeR [1, 2, 3, 4, 5] = (12, (mz 0).d) := takeR_sum _ (by decide) (by decide +kernel)
end Go.Proofs.YtekdnljincbghaaDoor
