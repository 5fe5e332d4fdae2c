/- The walks of the session package: a table, what a command is, what is kept. -/
import Derived.Test.YtgneigdcgfiooaaMapF
import Derived.Test.YtgneigdcgfiooaaRegion
import Derived.Carry
import Derived.Handy
import Derived.Maps.OwnOps
import Derived.Maps.OwnSet
namespace Go.Proofs.Ytgneigdcgfiooaa
open Go Go.RowKit Go.Lib Go.MapKept

theorem Mod.frozen {S : List Nat} {w w' : World} (h : Mod S w w') {p : Addr} (hb : p.block < w.heap.size) (hn : p.block ∉ S) : w'.frozen? p = w.frozen? p := by
  simp only [World.frozen?, h.block p.block hb hn]
theorem Mod.fresh1 {a b c : World} {g : Nat} (h : Mod [] a b) (k : Mod [g] b c) (hg : a.heap.size ≤ g) : Mod [] a c :=
  h.trans k (fun i hi hl => by simp only [List.mem_singleton] at hi; subst hi; omega)

theorem two_mod (w : World) (g : Nat) (u v : Value) : Mod [g] w ((w.setCell ⟨g, 0, none⟩ u).setCell ⟨g, 1, none⟩ v) :=
  (Mod.setCell _ _ _ (by simp)).trans' (Mod.setCell _ _ _ (by simp))
/-- What a client's entry is: number, code, text. -/
abbrev Ent := Int × Int × ByteArray
def entV (x : Ent) : Value := .agg #[.int .u32 x.1, .int .u8 x.2.1, .string x.2.2]
def mapV (f : Int → Option Ent) : Value → Option Value
  | .int .u32 k => (f k).map entV
  | _ => none
/-- A table. -/
def Tab (w : World) (g b n : Nat) (f : Int → Option Ent) : Prop :=
  ∃ gc, w.heap[g]? = some (.cells #[.pointer (some ⟨gc, 0, none⟩)] 52 (0, 0)) ∧ w.heap[gc]? = some (.cells #[.map (some b)] 50 (0, 0)) ∧ MapF w b (.int .u32) n (mapV f)
theorem MapF.cell_ne {w : World} {b n : Nat} {d : TypeDesc} {f : Value → Option Value} (h : MapF w b d n f) {g : Nat} {c : Array Value} {t : TypeId} {z : Nat × Nat} (hg : w.heap[g]? = some (.cells c t z)) : g ≠ b := by
  rintro rfl
  obtain ⟨es, clock, h1, _⟩ := h
  rw [hg] at h1
  cases h1
theorem Tab.mod0 {w w' : World} {g b n : Nat} {f : Int → Option Ent} (h : Tab w g b n f) (hm : Mod [] w w') : Tab w' g b n f := by
  obtain ⟨gc, h1, h2, h3⟩ := h
  exact ⟨gc, hm.get h1 (by simp), hm.get h2 (by simp), h3.mod0 hm⟩

set_option maxRecDepth 100000 in
theorem new_any (w : World) : Calls Try.prog 8 #[] w fun e w' => ∃ g b, e = .returned (.pointer (some ⟨g, 0, none⟩)) ∧ Tab w' g b 0 (fun _ => none) ∧ Mod [] w w' ∧ w.heap.size ≤ b := by
  go_enter Try.func8, Try.ntmps8
  go_wp2_with (first | (refine wpl_makemap (dst := some 1) _ ?_) | fail)
  go_wp2
  go_ret
  have e1 := MapF.made w (.int .u32)
  have e2 := heap_alloc_new (w.alloc (.map #[] 0)) (.cells #[.map (some w.heap.size)] 50)
  have m2 := Mod.alloc [] (w.alloc (.map #[] 0)) (.cells #[.map (some w.heap.size)] 50)
  have m3 := Mod.alloc [] ((w.alloc (.map #[] 0)).alloc (.cells #[.map (some w.heap.size)] 50)) (.cells #[.pointer (some ⟨w.heap.size + 1, 0, none⟩)] 52)
  have e3 := heap_alloc_new ((w.alloc (.map #[] 0)).alloc (.cells #[.map (some w.heap.size)] 50)) (.cells #[.pointer (some ⟨w.heap.size + 1, 0, none⟩)] 52)
  have z1 : (w.alloc (.map #[] 0)).heap.size = w.heap.size + 1 := by simp
  have z2 : ((w.alloc (.map #[] 0)).alloc (.cells #[.map (some w.heap.size)] 50)).heap.size = w.heap.size + 1 + 1 := by simp
  rw [z1] at e2
  rw [z2] at e3
  refine ⟨w.heap.size + 1 + 1, w.heap.size, rfl, ⟨w.heap.size + 1, e3, m3.get e2 (by simp), ?_⟩, ((Mod.alloc [] w _).trans' m2).trans' m3, Nat.le_refl _⟩
  have e4 := (e1.mod0 m2).mod0 m3
  have e5 : (mapV fun _ => none) = fun _ => none := by funext v; unfold mapV; split <;> rfl
  rw [e5]
  exact e4
set_option maxRecDepth 100000 in
theorem clen_any (gc b n : Nat) (f : Value → Option Value) (w : World) (h1 : w.heap[gc]? = some (.cells #[.map (some b)] 50 (0, 0))) (h : MapF w b (.int .u32) n f) :
    Calls Try.prog 28 #[.pointer (some ⟨gc, 0, none⟩)] w fun e w' => e = .returned (.int .i64 (n : Int)) ∧ w' = w := by
  have H := Lib.hid h
  have c0 : w.cell? ⟨gc, 0, none⟩ = some (.map (some b)) := by rw [cell_of_block h1]; rfl
  clear h h1
  go_enter Try.func28, Try.ntmps28
  go_wp2_with (first | (at_len; refine wpl_lenmap (dst := some 9) _ _ H.out Try.underlying48 rfl ?_) | fail)
  go_ret
  exact ⟨rfl, rfl⟩
theorem tlen_any (g b n : Nat) (f : Int → Option Ent) (w : World) (h : Tab w g b n f) :
    Calls Try.prog 17 #[.pointer (some ⟨g, 0, none⟩)] w fun e w' => e = .returned (.int .i64 (n : Int)) ∧ w' = w := by
  obtain ⟨gc, h1, h2, h3⟩ := h
  have H2 := Lib.hid h2
  have H3 := Lib.hid h3
  have c0 : w.cell? ⟨g, 0, none⟩ = some (.pointer (some ⟨gc, 0, none⟩)) := by rw [cell_of_block h1]; rfl
  clear h1 h2 h3
  go_enter Try.func17, Try.ntmps17
  go_wp2_with fail
  refine (clen_any gc b n _ w H2.out H3.out).mono ?_
  rintro e w1 ⟨rfl, rfl⟩
  go_wp2
  go_ret
  exact ⟨rfl, rfl⟩
/-- What a command is: the reply, and the word. -/
def lookF (f : Int → Option Ent) (c s : Int) : (Int × ByteArray) × Int :=
  match f c with
  | none => ((0, ⟨#[]⟩), 0)
  | some (q, cd, t) => if q < s then ((0, ⟨#[]⟩), 0) else if s = q then ((cd, t), 1) else ((3, ⟨#[]⟩), 2)
theorem zeroLast (w : World) : (zeroValue 54).run Try.prog w = .ok (.agg #[.int .u32 0, .int .u8 0, .string ⟨#[]⟩]) w := by
  have h : (Try.prog.info? 54).map (fun i => (i.zero, i.size, i.bytes)) = some (some (.agg #[.int .u32 0, .int .u8 0, .string ⟨#[]⟩]), 3, 32) := by kernel_rfl
  obtain ⟨i0, hi, hz0, hz1, hz2⟩ := info_parts h
  simp [zeroValue, typeInfo, hi, hz0, Result.andThen]
set_option maxRecDepth 100000 in
set_option maxHeartbeats 1000000 in
theorem look_any (g b n : Nat) (f : Int → Option Ent) (c s : Int) (w : World) (h : Tab w g b n f) :
    Calls Try.prog 10 #[.pointer (some ⟨g, 0, none⟩), .int .u32 c, .int .u32 s] w fun e w' =>
      e = .returned (.tuple #[.agg #[.int .u8 (lookF f c s).1.1, .string (lookF f c s).1.2], .int .u8 (lookF f c s).2]) ∧ Mod [] w w' := by
  have H := Lib.hid h
  obtain ⟨gc, h1, h2, h3⟩ := h
  have H3 := Lib.hid h3
  have c0 : w.cell? ⟨g, 0, none⟩ = some (.pointer (some ⟨gc, 0, none⟩)) := by rw [cell_of_block h1]; rfl
  have c1 : w.cell? ⟨gc, 0, none⟩ = some (.map (some b)) := by rw [cell_of_block h2]; rfl
  have hl0 := lt_of_block h1
  have hl1 := lt_of_block h2
  have HL : Hid (lookF f c s = match f c with
    | none => ((0, ⟨#[]⟩), 0)
    | some (q, cd, t) => if q < s then ((0, ⟨#[]⟩), 0) else if s = q then ((cd, t), 1) else ((3, ⟨#[]⟩), 2)) := rfl
  clear h1 h2 h3
  by_cases hn : n = 0
  · subst hn
    have hv := HL.out
    have hfc : f c = none := by
      have h0 := H3.out.zero (.int .u32 c)
      simp only [mapV] at h0
      simpa using h0
    rw [hfc] at hv
    have HV := Lib.hid hv
    clear hv hfc HL
    go_enter Try.func10, Try.ntmps10
    go_wp2_with fail
    refine (tlen_any g b 0 f _ (H.out.mod0 (Mod.alloc _ _ _))).mono ?_
    rintro e w1 ⟨rfl, rfl⟩
    go_wp2
    ((try simp only [Exit.inBlock, Exit.then]); refine bodyPost_ret (by simp [results, Try.results10, go_sem, *]; try rfl) rfl ?_)
    rw [HV.out]
    exact ⟨rfl, .ofBelow (by go_grown)⟩
  · have hn0 : ((n : Int) == 0) = false := by rw [beq_eq_false_iff_ne]; omega
    have HM := Lib.hid (H3.out.mod0 (Mod.alloc [] w (.cells #[.int .u8 0, .string ⟨#[]⟩] 25)))
    have hv := HL.out
    clear HL
    cases hfc : f c with
    | none =>
      rw [hfc] at hv
      have HV := Lib.hid hv
      have HF : Hid (mapV f (.int .u32 c) = none) := by show (f c).map entV = none; rw [hfc]; rfl
      clear hv hfc
      go_enter Try.func10, Try.ntmps10
      go_wp2_with fail
      refine (tlen_any g b n f _ (H.out.mod0 (Mod.alloc _ _ _))).mono ?_
      rintro e w1 ⟨rfl, rfl⟩
      go_wp2_with (first | (at_lookup; refine wpl_lookup_none (dst := some 23) _ _ _ HM.out Try.underlying48 Try.underlying23 rfl rfl rfl (zeroLast _) HF.out ?_) | fail)
      ((try simp only [Exit.inBlock, Exit.then]); refine bodyPost_ret (by simp [results, Try.results10, go_sem, *]; try rfl) rfl ?_)
      rw [HV.out]
      exact ⟨rfl, .ofBelow (by go_grown)⟩
    | some x =>
      obtain ⟨q, cd, t⟩ := x
      rw [hfc] at hv
      have HF : Hid (mapV f (.int .u32 c) = some (.agg #[.int .u32 q, .int .u8 cd, .string t])) := by show (f c).map entV = _; rw [hfc]; rfl
      dsimp only at hv
      clear hfc
      by_cases hlt : q < s
      · rw [if_pos hlt] at hv
        have HV := Lib.hid hv
        clear hv
        go_enter Try.func10, Try.ntmps10
        go_wp2_with fail
        refine (tlen_any g b n f _ (H.out.mod0 (Mod.alloc _ _ _))).mono ?_
        rintro e w1 ⟨rfl, rfl⟩
        go_wp2_with (first | (at_lookup; refine wpl_lookup_some (dst := some 23) _ _ _ HM.out Try.underlying48 Try.underlying23 rfl rfl rfl (zeroLast _) HF.out ?_) | fail)
        ((try simp only [Exit.inBlock, Exit.then]); refine bodyPost_ret (by simp [results, Try.results10, go_sem, *]; try rfl) rfl ?_)
        rw [HV.out]
        exact ⟨rfl, .ofBelow (by go_grown)⟩
      · by_cases he : s = q
        · subst he
          rw [if_neg hlt, if_pos rfl] at hv
          have HV := Lib.hid hv
          clear hv
          go_enter Try.func10, Try.ntmps10
          go_wp2_with fail
          refine (tlen_any g b n f _ (H.out.mod0 (Mod.alloc _ _ _))).mono ?_
          rintro e w1 ⟨rfl, rfl⟩
          go_wp2_with (first | (at_lookup; refine wpl_lookup_some (dst := some 23) _ _ _ HM.out Try.underlying48 Try.underlying23 rfl rfl rfl (zeroLast _) HF.out ?_) | fail)
          ((try simp only [Exit.inBlock, Exit.then]); refine bodyPost_ret (by simp [results, Try.results10, go_sem, *]; try rfl) rfl ?_)
          rw [HV.out]
          exact ⟨rfl, .ofBelow (by go_grown)⟩
        · rw [if_neg hlt, if_neg he] at hv
          have HV := Lib.hid hv
          clear hv
          go_enter Try.func10, Try.ntmps10
          go_wp2_with fail
          refine (tlen_any g b n f _ (H.out.mod0 (Mod.alloc _ _ _))).mono ?_
          rintro e w1 ⟨rfl, rfl⟩
          go_wp2_with (first | (at_lookup; refine wpl_lookup_some (dst := some 23) _ _ _ HM.out Try.underlying48 Try.underlying23 rfl rfl rfl (zeroLast _) HF.out ?_) | fail)
          ((try simp only [Exit.inBlock, Exit.then]); refine bodyPost_ret (by simp [results, Try.results10, go_sem, *]; try rfl) rfl ?_)
          rw [HV.out]
          exact ⟨rfl, .ofBelow (by go_grown)⟩
end Go.Proofs.Ytgneigdcgfiooaa
