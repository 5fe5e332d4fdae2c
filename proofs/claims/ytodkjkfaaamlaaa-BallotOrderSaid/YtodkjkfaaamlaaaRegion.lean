/- Regions that draw their order, in abstract worlds: what reads cells that nobody writes from here on is taken first; the calls come up one by one, each by its contract. Over any program. -/
import Derived.Test.YtodkjkfaaamlaaaStr
import Derived.Deep.RegionHeld
import Derived.Deep.Cut
namespace Go.Proofs.Ytodkjkfaaamlaaa
open Go Go.RowKit Go.Lib

section
variable {P : Program} {ops : Array Oper} {Q : Exit → Act → World → Prop} {md : Region.Mode}

theorem wpAnyH_weaken {S S' : World → Prop} (hs : ∀ w, S' w → S w) : ∀ (fuel : Nat) (listed : Array Bool) (a : Act) (w : World), wpAnyH P md ops Q S' fuel listed a w → wpAnyH P md ops Q S fuel listed a w
  | 0, _, _, _, h => h
  | fuel + 1, _, _, _, h => ⟨h.1, fun i hi => wpOp_mono (fun a' w' h' => ⟨hs _ h'.1, wpAnyH_weaken hs fuel _ a' w' h'.2⟩) (h.2 i hi)⟩

/-- From here on at most the blocks K are written, of those that are there. -/
def Rest (P : Program) (md : Region.Mode) (ops : Array Oper) (Q : Exit → Act → World → Prop) (K : List Nat) (fuel : Nat) (listed : Array Bool) (a : Act) (w : World) : Prop :=
  wpAnyH P md ops Q (Mod K w) fuel listed a w

theorem rest_start {id : Nat} {a : Act} {w : World} (K : List Nat) (n : Nat) (L : Array Bool) (hn : ops.size = n) (hL : Array.replicate n false = L) (hm : P.follows .mixedOrders = true)
    (h : ∀ w1, Mod [] w w1 → Rest P .any ops Q K n L a w1) : (Code.region id ops true).wp P Q a w := by
  subst hn hL
  exact wp_region_held hm (h w.drew (Mod.drew _ _))

theorem rest_take {K : List Nat} {i : Nat} {oi : Oper} {v : Value} {fuel : Nat} {listed : Array Bool} {a : Act} {w : World} (hi : ops[i]? = some oi)
    (hs : Region.noSelect ops = true) (hf : Region.free md ops listed i = true) (hr : (Region.ready md ops listed).contains i = true)
    (hQ : ∀ c a w, Q (.panic c) (a.put oi.dst v) w → Q (.panic c) a w) (hy : YieldsIf P ops (Mod K w) oi v a)
    (h : Rest P md ops Q K fuel (listed.setIfInBounds i true) (a.put oi.dst v) w) : Rest P md ops Q K (fuel + 1) listed a w :=
  wpAnyH_take hi hs hf hr hQ hy (Mod.refl _ _) h

theorem rest_done {K : List Nat} {listed : Array Bool} {a : Act} {w : World} (hr : Region.ready md ops listed = []) (h : Q .normal a w) (fuel : Nat) :
    Rest P md ops Q K fuel listed a w := wpAnyH_done hr h fuel

/-- The way back into the region behind one operation; no tactic looks into it. -/
def Back (P : Program) (md : Region.Mode) (ops : Array Oper) (Q : Exit → Act → World → Prop) (K : List Nat) (w : World) (fuel : Nat) (listed : Array Bool) : Exit → Act → World → Prop := fun e a1 w1 =>
  match e with
  | .normal => Mod K w w1 ∧ wpAnyH P md ops Q (Mod K w) fuel listed a1 w1
  | e => Q e a1 w1

theorem back_to {K K1 : List Nat} {w w1 : World} {a1 : Act} {fuel : Nat} {listed : Array Bool} (hm : Mod K w w1) (hk : ∀ k, k ∈ K1 → k < w.heap.size → k ∈ K)
    (h : Rest P md ops Q K1 fuel listed a1 w1) : Back P md ops Q K w fuel listed .normal a1 w1 :=
  ⟨hm, wpAnyH_weaken (fun _ hw => hm.trans hw hk) _ _ _ _ h⟩

theorem rest_one {K : List Nat} {i : Nat} {dst : Option Tmp} {op : Op} {ty : TypeId} {pos : String} {after : Array Edge} {gd : Option (Nat × Bool)} {fuel : Nat} {listed : Array Bool} {a : Act} {w : World} (hr : Region.ready md ops listed = [i]) (ho : ops[i]? = some ⟨dst, op, ty, pos, after, gd⟩)
    (hw : Region.wanted ⟨dst, op, ty, pos, after, gd⟩ (yielded ops a.tmps) = true)
    (h : wpList P ops (Back P md ops Q K w fuel (listed.setIfInBounds i true)) [⟨dst, op, ty, pos, after, none⟩] a w) : Rest P md ops Q K (fuel + 1) listed a w := by
  refine wpAnyH_all hr (by simp) ?_
  intro j hj
  simp only [List.mem_singleton] at hj
  subst hj
  unfold wpOp
  simp only [ho]
  rw [if_pos hw]
  have hwn : Region.wanted ⟨dst, op, ty, pos, after, none⟩ (yielded ops a.tmps) = true := rfl
  unfold wpList at h
  rw [if_pos hwn] at h
  refine h.imp (fun h => ?_) id
  have h : Oper.upon P ⟨dst, op, ty, pos, after, gd⟩ a (wpList P ops (Back P md ops Q K w fuel (listed.setIfInBounds j true)) []) (Back P md ops Q K w fuel (listed.setIfInBounds j true)) ((execOp a.eval ⟨dst, op, ty, pos, after, gd⟩).run P w) := h
  unfold Oper.wp
  generalize (execOp a.eval ⟨dst, op, ty, pos, after, gd⟩).run P w = r at *
  cases r with
  | ok n w' =>
    cases n <;> simp only [Oper.upon] at h ⊢ <;>
      first
        | exact Calls.mono h (fun e w'' he => by cases e <;> exact he)
        | exact Rows.mono h (fun _ _ he => he)
        | exact h
  | halt x w' => cases x <;> simp only [Oper.upon] at h ⊢ <;> exact h

theorem fresh_of {w w' : World} {a' : Option Addr} (n : SameOrNew w w' none a') {K : List Nat} : ∀ k, k ∈ blk a' → k < w.heap.size → k ∈ K := by
  intro k hk hl
  rcases n.blk k hk with h | h
  · simp [blk] at h
  · omega

/-- string(b), taken first. -/
theorem reads_str {K : List Nat} {w : World} {dst : Option Tmp} {ty : TypeId} {pos : String} {after : Array Edge} {gd : Option (Nat × Bool)} (ev : Operand → Value) (x : Operand) (src d e : TypeId)
    (hs : P.underlying src = some (.slice e)) (he : P.underlying e = some (.int .u8)) (hd : P.underlying d = some .string)
    (so : Option Addr) (m c : Nat) (l : List UInt8) (hx : ev x = .slice so m c) (hl : l.length = m) (hsees : Sees w so l) (hk : ∀ k, k ∈ blk so → k ∉ K) :
    ∀ w', Mod K w w' → (execOp ev ⟨dst, .convert src d x, ty, pos, after, gd⟩).run P w' = .ok (.value (strV l)) w' := by
  subst hl
  intro w' hm
  have hr := run_string_of (P := P) w' src d e hs he hd so c l (hsees.mod hm (by intro b off h; subst h; exact hk b (by simp [blk])))
  unfold execOp
  simp [hx, hr]
end

open Lean Elab Tactic Meta

/-- Succeeds, and does nothing, where the next operation is a conversion. -/
elab "at_convert" : tactic => withMainContext do
  let t := (← instantiateMVars (← getMainTarget)).consumeMData
  unless t.isAppOfArity ``Go.wpList 6 do throwError "at_convert: no wpList"
  let l := t.getArg! 3
  unless l.isAppOfArity ``List.cons 3 do throwError "at_convert: no operation"
  let o := l.getArg! 1
  unless o.isAppOfArity ``Go.Oper.mk 6 do throwError "at_convert: not written out"
  unless (o.getArg! 1).isAppOf ``Go.Op.convert do throwError "at_convert: another operation"

partial def restTakes (rd : TSyntax `tactic) (tell : Bool) : TacticM Unit := withMainContext do
  let t := (← instantiateMVars (← getMainTarget)).consumeMData
  unless t.isAppOfArity ``Rest 9 do throwError "go_takes: no 'Rest':\n{t}"
  let args := t.getAppArgs
  let md := args[1]!
  let ops := args[2]!
  let listed := args[6]!
  let ready ← kernelNats (mkApp3 (mkConst ``Region.ready) md ops listed)
  if tell then logInfo m!"go_takes: may come up: {ready}"
  if ready.isEmpty then
    evalTactic (← `(tactic| refine rest_done (by kernel_rfl) ?_ _))
    return
  let t0 ← IO.monoMsNow
  for i in ready do
    unless (← kernelBool (mkApp4 (mkConst ``Region.free) md ops listed (mkNatLit i))) do continue
    let some oe := opAt ops i | throwError "the region is not written out"
    let oStx ← Term.exprToSyntax oe
    let tmps ← mkAppM ``Act.tmps #[args[7]!]
    let wanted ← mkAppM ``Region.wanted #[oe, ← mkAppM ``yielded #[ops, tmps]]
    let wv ← ofExceptKernelException (Kernel.whnf (← getEnv) (← getLCtx) wanted)
    if wv.isConstOf ``Bool.false then
      evalTactic (← `(tactic| refine rest_take (i := $(quote i)) (oi := $oStx) (v := undef) rfl (by kernel_rfl) (by kernel_rfl) (by kernel_rfl) (fun _ _ _ h => h) (Or.inr ⟨by rfl, rfl⟩) ?_))
      evalTactic (← `(tactic| try simp only [Act.put, List.setIfInBounds_toArray, List.set_cons_zero, List.set_cons_succ]))
      if tell then logInfo m!"{opWords ops i}: not wanted"
      restTakes rd tell
      return
    unless wv.isConstOf ``Bool.true do
      if tell then logInfo m!"{opWords ops i}: wanted? not known: {wv}"
      continue
    let s ← saveState
    let plain := (match opHead ops i with | some n => worldless.contains n | none => false) || takenFirstToo ops i
    let took ← try
      evalTactic (← `(tactic| refine' rest_take (i := $(quote i)) (oi := $oStx) (v := _) rfl (by kernel_rfl) (by kernel_rfl) (by kernel_rfl) (fun _ _ _ h => h) (Or.inl ⟨by rfl, ?_⟩) ?_))
      let gs ← getGoals
      let mut hys : Array MVarId := #[]
      let mut rests : Array MVarId := #[]
      for g in gs do
        let ty := (← instantiateMVars (← g.getType)).consumeMData
        if ty.isAppOf ``Rest then rests := rests.push g
        else if ty.isForall then hys := hys.push g
      let some hy := hys[0]? | throwError "no goal for the operation"
      let some rest := rests[0]? | throwError "no goal for the rest"
      setGoals [hy]
      let s1 ← saveState
      let told ← IO.mkRef (m!"")
      let dull := match opHead ops i with | some n => n == ``Op.move || n == ``Op.assign || n == ``Op.pick || n == ``Op.nilCheck || n == ``Op.fieldAddr || (n == ``Op.call && !takenFirstToo ops i) | none => false
      if dull && !plain then throwError "dull"
      let byRd ← if dull then pure false else try
        Term.withoutErrToSorry (withoutRecover (evalTactic rd))
        pure (← getGoals).isEmpty
      catch e => do
        told.set e.toMessageData
        pure false
      unless byRd do
        s1.restore
        setGoals [hy]
        unless plain do throwError m!"not plain; rd: {← told.get}"
        try evalTactic (← `(tactic| (intro w hSw; clear hSw; go_simp)))
        catch e => throwError m!"{e.toMessageData}\nrd: {← told.get}"
        unless (← getGoals).isEmpty do
          try evalTactic (← `(tactic| with_reducible rfl))
          catch e => throwError m!"{e.toMessageData}\nrd: {← told.get}"
        unless (← getGoals).isEmpty do throwError "not closed"
      setGoals [rest]
      evalTactic (← `(tactic| try simp only [Act.put, List.setIfInBounds_toArray, List.set_cons_zero, List.set_cons_succ]))
      pure true
    catch e =>
      s.restore
      if tell then logInfo m!"{opWords ops i} not taken: {e.toMessageData}"
      pure false
    if took then
      if tell then logInfo m!"{opWords ops i} is taken first {(← IO.monoMsNow) - t0} ms"
      restTakes rd tell
      return

/-- The beginning of a region that draws its order: K names the blocks that may be written in it. -/
elab "go_rest " K:term:max : tactic => withMainContext do
  let t := (← instantiateMVars (← getMainTarget)).consumeMData
  unless t.isAppOf ``Code.wp && (t.getAppArgs[1]!).isAppOf ``Code.region do throwError "go_rest: the goal is no region"
  let ops := (t.getAppArgs[1]!).getAppArgs[1]!
  unless ops.isAppOfArity ``List.toArray 2 do throwError "go_rest: the region is not written out"
  let some elems := listElems (ops.getArg! 1) | throwError "go_rest: the region is not written out"
  let n := elems.length
  let fs : Array (TSyntax `term) ← (Array.replicate n ()).mapM fun _ => `(false)
  evalTactic (← `(tactic| refine rest_start $K $(quote n) #[$fs,*] rfl (by kernel_rfl) (by kernel_rfl) ?_))

/-- All that can be taken first; 'rd' closes 'in every world that turns K alone this operation leaves ?v'. -/
elab "go_takes " "(" rd:tactic ")" : tactic => restTakes rd false
elab "go_takes? " "(" rd:tactic ")" : tactic => restTakes rd true

/-- s + t and s == t of strings that are known. -/
theorem reads_cat (w : World) {dst : Option Tmp} {ty t2 : TypeId} {pos : String} {after : Array Edge} {gd : Option (Nat × Bool)} (ev : Operand → Value) (x y : Operand) (l1 l2 : List UInt8)
    (hx : ev x = strV l1) (hy : ev y = strV l2) (hl : l1.length + l2.length ≤ 9223372036854775807) :
    (execOp ev ⟨dst, .binOp .add 9 x y t2, ty, pos, after, gd⟩).run Try.prog w = .ok (.value (strV (l1 ++ l2))) w := by
  have h1 : ({ data := l1.toArray } : ByteArray) ++ { data := l2.toArray } = ⟨(l1 ++ l2).toArray⟩ := by
    apply ByteArray.ext
    simp
  have h2 : ¬ 9223372036854775807 < l1.length + l2.length := by omega
  have h4 : (Op.stringOp .add ⟨l1.toArray⟩ ⟨l2.toArray⟩).run Try.prog w = .ok (strV (l1 ++ l2)) w := by
    rw [run_string_add_sum _ _ _ (by simpa [ByteArray.size] using hl), h1]
  have h5 : (binOp .add 9 (strV l1) (strV l2)).run Try.prog w = .ok (strV (l1 ++ l2)) w := by rw [binOp_string_add]; exact h4
  simp [execOp, hx, hy, eqGuard, h5]
theorem reads_eqs (w : World) {dst : Option Tmp} {ty t2 : TypeId} {pos : String} {after : Array Edge} {gd : Option (Nat × Bool)} (ev : Operand → Value) (x y : Operand) (l1 l2 : List UInt8)
    (hx : ev x = strV l1) (hy : ev y = strV l2) :
    (execOp ev ⟨dst, .binOp .eql 9 x y t2, ty, pos, after, gd⟩).run Try.prog w = .ok (.value (.bool (decide (l1 = l2)))) w := by
  have h4 : ((⟨l1.toArray⟩ : ByteArray).toList == (⟨l2.toArray⟩ : ByteArray).toList) = decide (l1 = l2) := by
    rw [ByteArray.toList_eq, ByteArray.toList_eq]
    by_cases h : l1 = l2
    · subst h; simp
    · simp [h]
  have h5 : (binOp .eql 9 (strV l1) (strV l2)).run Try.prog w = .ok (.bool (decide (l1 = l2))) w := by rw [binOp_string_eql, h4]; rfl
  simp [execOp, hx, hy, eqGuard, h5]
/-- Succeeds, and does nothing, where the operation that is to be read is of this kind ('convert', 'load', 'binOp add' ..). -/
elab "at_rd " ids:ident+ : tactic => withMainContext do
  let t := (← instantiateMVars (← getMainTarget)).consumeMData
  let some o := t.find? (fun e => e.isAppOfArity ``Oper.mk 6) | throwError "at_rd: no operation"
  let op := o.getArg! 1
  let nm := fun (e : Lean.Expr) => (e.getAppFn.constName?.map (fun n => n.getString!)).getD "?"
  unless nm op == ids[0]!.getId.eraseMacroScopes.toString do throwError "at_rd: another operation"
  if ids.size > 1 then
    unless op.getAppNumArgs > 0 && nm (op.getArg! 0) == ids[1]!.getId.eraseMacroScopes.toString do throwError "at_rd: another operation"
macro "rd_cat " t:term:max : tactic => `(tactic| (at_rd binOp add; intro w' hm; refine Eq.trans (reads_cat w' _ _ _ _ _ rfl rfl $t) ?_; with_reducible rfl))
macro "rd_eqs " t:term:max : tactic => `(tactic| (at_rd binOp eql; intro w' hm; refine Eq.trans (reads_eqs w' _ _ _ _ _ rfl rfl) ?_; refine Eq.trans (congrArg (fun b => Result.ok (Next.value (Value.bool b)) w') $t) ?_; with_reducible rfl))
/-- A cell that nobody writes from here on. -/
macro "rd_load " t:term:max : tactic => `(tactic| (at_rd load; intro w' hm; have hc' := Mod.cell hm $t (by first | exact List.not_mem_nil | (simp; omega)); clear hm; go_simp; with_reducible rfl))
/-- A struct of two cells. -/
macro "rd_load2 " t:term:max u:term:max : tactic => `(tactic| (at_rd load; intro w' hm; have hc' := Mod.cell hm $t (by first | exact List.not_mem_nil | (simp; omega)); have hd' := Mod.cell hm $u (by first | exact List.not_mem_nil | (simp; omega)); clear hm; go_simp; with_reducible rfl))
/-- string(b) of a row that is seen. -/
macro "rd_str " t:term:max : tactic => `(tactic| (at_rd convert; intro w' hm; refine Eq.trans (reads_str _ _ _ _ 5 Try.underlying35 Try.underlying5 Try.underlying9 _ _ _ _ rfl (by first | rfl | simp) $t (by first | (intro k _ hk; exact (List.not_mem_nil hk)) | simp) w' hm) ?_; with_reducible rfl))

/-- The one operation that may come up. -/
elab "go_one" : tactic => withMainContext do
  let t := (← instantiateMVars (← getMainTarget)).consumeMData
  unless t.isAppOfArity ``Rest 9 do throwError "go_one: no 'Rest':\n{t}"
  let args := t.getAppArgs
  let md := args[1]!
  let ops := args[2]!
  let listed := args[6]!
  let ready ← kernelNats (mkApp3 (mkConst ``Region.ready) md ops listed)
  match ready with
  | [i] =>
    evalTactic (← `(tactic| refine rest_one (i := $(quote i)) (by kernel_rfl) rfl (by rfl) ?_))
  | _ =>
    let ws := ready.map (opWords ops)
    throwError "go_one: these may come up: {ws}"
end Go.Proofs.Ytodkjkfaaamlaaa
