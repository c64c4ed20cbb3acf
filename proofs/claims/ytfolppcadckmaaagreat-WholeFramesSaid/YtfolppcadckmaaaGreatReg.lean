/-
  A region that draws its order inside a round of a range over a function: where its operations call no Go function, the plain walk serves.
-/
import Derived.OrdersIn
import Derived.Deep.RegionHeld
import Derived.WalkKit
namespace Go.Tn

/-- An operation of a written list, written out. -/
theorem drop_get {l : List Oper} {i : Nat} {o : Oper} {r : List Oper} (h : l.drop i = o :: r) : l.toArray[i]? = some o := by
  rw [List.getElem?_toArray]
  have h1 : (l.drop i)[0]? = some o := by rw [h]; rfl
  rw [List.getElem?_drop] at h1
  simpa using h1

/-- What an operation ends in, if it calls nothing. -/
def calm : Result Next → Prop
  | .ok (.value _) _ => True
  | .ok .skip _ => True
  | .halt _ _ => True
  | _ => False

structure PlainOp (P : Program) (o : Oper) : Prop where
  nod : ∀ c, o.op ≠ .defer c
  about : ∀ w ρ, o.about P w ρ = none
  ends : ∀ ρ w, calm ((execOp ρ o).run P w)

/-- Q, but false where it lets out. -/
def Inner (Q : Exit → Act → World → Prop) : Exit → Act → World → Prop
  | .normal, a, w => Q .normal a w
  | .panic c, a, w => Q (.panic c) a w
  | _, _, _ => False

section
variable {F : Fence} {n : Nat} {P : Program} {ops : Array Oper} {Q : Exit → Act → World → Prop} {md : Region.Mode}

theorem wpOpIn_of {i : Nat} {K : Act → World → Prop} {a : Act} {w : World} (hp : ∀ (i : Nat) (o : Oper), ops[i]? = some o → PlainOp P o) (h : wpOp P ops (Inner Q) i K a w) : wpOpIn F n P ops Q i K a w := by
  unfold wpOp at h
  unfold wpOpIn
  cases ho : ops[i]? with
  | none => simpa [ho] using h
  | some o =>
    have hpo := hp i o ho
    simp only [ho] at h ⊢
    split
    · rename_i hw
      simp only [hw, if_true] at h
      rcases h with h | h
      case inr =>
        obtain ⟨_, hl⟩ := h
        obtain ⟨_, _, hl⟩ := hl
        exact hl.elim
      refine ⟨fun f hf => (by rw [hpo.about] at hf; cases hf), ?_⟩
      rw [Oper.semAt_eq _ _ _ hpo.nod]
      have hc := hpo.ends a.eval w
      unfold Oper.wp at h
      generalize (execOp a.eval o).run P w = r at *
      cases r with
      | ok x w' =>
        cases x <;> simp only [calm] at hc <;> simpa only [Oper.upon, Oper.uponIn] using h
      | halt x w' =>
        cases x <;> simp only [Oper.upon, Oper.uponIn] at h ⊢
        case panic u => exact h
    · rename_i hw
      simp only [hw, Bool.false_eq_true, if_false] at h
      exact ⟨fun f hf => (by rw [hpo.about] at hf; cases hf), h⟩

theorem wpAnyIn_of (hp : ∀ (i : Nat) (o : Oper), ops[i]? = some o → PlainOp P o) : ∀ (fuel : Nat) (listed : Array Bool) (a : Act) (w : World), wpAny P md ops (Inner Q) fuel listed a w → wpAnyIn F n P md ops Q fuel listed a w
  | 0, _, _, _, h => ⟨h.1, h.2⟩
  | fuel + 1, _, _, _, h => ⟨h.1, fun i hi => wpOpIn_mono (fun _ _ h' => wpAnyIn_of hp fuel _ _ _ h') (wpOpIn_of hp (h.2 i hi))⟩

/-- The beginning. -/
theorem wpIn_region_plain {S : World → Prop} {id : Nat} {a : Act} {w : World} (hm : P.follows .mixedOrders = true) (hp : ∀ (i : Nat) (o : Oper), ops[i]? = some o → PlainOp P o)
    (h : wpAnyH P .any ops (Inner Q) S ops.size (Array.replicate ops.size false) a w.drew) : (Code.region id ops true).wpIn F n P Q a w :=
  wpIn_region_any hm (wpAnyIn_of hp _ _ _ _ (wpAny_of_held _ _ _ _ h))

theorem wpIn_region_plainL {l : List Oper} {S : World → Prop} {id : Nat} {a : Act} {w : World} (hm : P.follows .mixedOrders = true) (hp : ∀ o ∈ l, PlainOp P o)
    (h : wpAnyH P .any l.toArray (Inner Q) S l.length (Array.replicate l.length false) a w.drew) : (Code.region id l.toArray true).wpIn F n P Q a w :=
  wpIn_region_plain hm (fun i o ho => hp o (by rw [List.getElem?_toArray] at ho; exact List.mem_of_getElem? ho)) h

theorem calm_bind {α : Type} (m : Sem α) (f : α → Sem Next) (w : World) (h : ∀ x w', calm ((f x).run P w')) : calm ((m >>= f).run P w) := by
  rw [Sem.run_bind]
  cases m.run P w with
  | ok x w' => exact h x w'
  | halt x w' => simp [Result.andThen, calm]
theorem calm_value (m : Sem Value) (w : World) : calm ((do pure (Next.value (← m)) : Sem Next).run P w) := by
  rw [Sem.run_bind]
  generalize m.run P w = r
  cases r <;> simp [Result.andThen, calm]
theorem calm_skip (m : Sem Unit) (w : World) : calm ((do m; pure Next.skip : Sem Next).run P w) := by
  rw [Sem.run_bind]
  cases m.run P w <;> simp [Result.andThen, calm]

theorem plain_load {o : Oper} (t : TypeId) (x : Operand) (h : o.op = .load t x) : PlainOp P o :=
  ⟨fun c => by rw [h]; simp, fun w ρ => by unfold Oper.about; rw [h], fun ρ w => by unfold execOp; rw [h]; exact calm_value _ w⟩
theorem plain_field {o : Oper} (t : TypeId) (x : Operand) (f : Nat) (h : o.op = .fieldAddr t x f) : PlainOp P o :=
  ⟨fun c => by rw [h]; simp, fun w ρ => by unfold Oper.about; rw [h], fun ρ w => by unfold execOp; rw [h]; exact calm_value _ w⟩
theorem plain_move {o : Oper} (x : Operand) (h : o.op = .move x) : PlainOp P o :=
  ⟨fun c => by rw [h]; simp, fun w ρ => by unfold Oper.about; rw [h], fun ρ w => by unfold execOp; rw [h]; simp [calm]⟩
theorem plain_index {o : Oper} (t : TypeId) (x y : Operand) (h : o.op = .indexAddr t x y) : PlainOp P o :=
  ⟨fun c => by rw [h]; simp, fun w ρ => by unfold Oper.about; rw [h], fun ρ w => by unfold execOp; rw [h]; exact calm_value _ w⟩
theorem plain_arr {o : Oper} (t : TypeId) (x : Operand) (h : o.op = .sliceToArrayPointer t x) : PlainOp P o :=
  ⟨fun c => by rw [h]; simp, fun w ρ => by unfold Oper.about; rw [h], fun ρ w => by unfold execOp; rw [h]; exact calm_value _ w⟩
theorem plain_bslice {o : Oper} (t : TypeId) (len : Nat) (ps : Array (Nat × Operand)) (h : o.op = .buildSlice t len ps) : PlainOp P o :=
  ⟨fun c => by rw [h]; simp, fun w ρ => by unfold Oper.about; rw [h], fun ρ w => by unfold execOp; rw [h]; exact calm_value _ w⟩
theorem plain_store {o : Oper} (t : TypeId) (x y : Operand) (h : o.op = .store t x y) : PlainOp P o :=
  ⟨fun c => by rw [h]; simp, fun w ρ => by unfold Oper.about; rw [h], fun ρ w => by unfold execOp; rw [h]; exact calm_skip _ w⟩
theorem plain_append {o : Oper} (xs : Array Operand) (ts : Array TypeId) (h : o.op = .call { callee := .builtin .append, args := xs, argTypes := ts }) : PlainOp P o :=
  ⟨fun c => by rw [h]; simp, fun w ρ => by unfold Oper.about; rw [h]; rfl, fun ρ w => by
    unfold execOp
    rw [h]
    simp only [resolve, invoke, builtin, Sem.run_bind, Sem.run_pure, Result.andThen_ok]
    generalize Sem.run P _ w = r
    cases r <;> simp [Result.andThen, calm]⟩
theorem plain_nil {o : Oper} (x : Operand) (h : o.op = .nilCheck x) : PlainOp P o :=
  ⟨fun c => by rw [h]; simp, fun w ρ => by unfold Oper.about; rw [h], fun ρ w => by
    unfold execOp
    rw [h]
    simp only
    split
    · simp [runtimePanic, calm]
    · simp [runtimePanic, calm]
    · simp [runtimePanic, calm]
    · split
      · simp [runtimePanic, calm]
      · refine calm_bind _ _ _ fun x w' => ?_
        refine calm_bind _ _ _ fun y w'' => ?_
        split
        · simp [unsupported, calm]
        · simp [calm]
      · simp [calm]
    · simp [calm]⟩
end
end Go.Tn
