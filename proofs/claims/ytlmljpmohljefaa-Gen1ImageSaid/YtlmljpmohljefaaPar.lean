/- What the evaluator does does not hang on what comes behind. -/
import Derived.Test.YtlmljpmohljefaaDen
set_option linter.unusedVariables false
set_option linter.unusedSimpArgs false
namespace Go.Den
universe u

/-- the evaluator comes to one thing, or to none -/
def Det {A : Type} (f : (R : Type) → (A → Option R) → Option R) : Prop := ∀ (R : Type) (κ : A → Option R), f R κ = (f A some).bind κ

theorem Det.pure {A : Type} (x : A) : Det fun R κ => κ x := fun _ _ => rfl
theorem Det.none {A : Type} : Det (A := A) fun R κ => none := fun _ _ => rfl
theorem Det.bind {A C : Type} {f : (R : Type) → (A → Option R) → Option R} {h : A → (R : Type) → (C → Option R) → Option R} (hf : Det f) (hh : ∀ x, Det (h x)) : Det fun R κ => f R (fun x => h x R κ) := by
  intro R κ
  show f R _ = (f C _).bind κ
  rw [hf R, hf C]
  cases hx : f A some with
  | none => rfl
  | some x => exact hh x R κ
theorem Det.ite {A : Type} {c : Prop} [Decidable c] {f h : (R : Type) → (A → Option R) → Option R} (hf : Det f) (hh : Det h) : Det fun R κ => if c then f R κ else h R κ := by
  intro R κ
  by_cases hc : c
  · simp only [hc, if_true]; exact hf R κ
  · simp only [hc, if_false]; exact hh R κ
theorem Det.map {A C : Type} {f : (R : Type) → (A → Option R) → Option R} (hf : Det f) (F : A → C) : Det fun R κ => f R (fun x => κ (F x)) :=
  Det.bind hf fun x => Det.pure (F x)
/-- the same, by what it comes to -/
theorem Det.cases {A : Type} {f : (R : Type) → (A → Option R) → Option R} (hf : Det f) {R : Type} {κ : A → Option R} {r : R} (h : f R κ = some r) : ∃ x, κ x = some r ∧ ∀ (R' : Type) (κ' : A → Option R'), f R' κ' = κ' x := by
  rw [hf R κ] at h
  cases hx : f A some with
  | none => rw [hx] at h; cases h
  | some x =>
    rw [hx] at h
    refine ⟨x, h, fun R' κ' => ?_⟩
    rw [hf R' κ', hx]; rfl

/-- two things at once -/
def two {A C R : Type} (κ : A × C → Option R) : A → C → Option R := fun a c => κ (a, c)

theorem leafK_det (t : Ty) (cs : List AV) : Det fun R (κ : t.I × List AV → Option R) => leafK t cs (two κ) := by
  intro R κ
  show leafK t cs (two κ) = (leafK t cs (two some)).bind κ
  unfold leafK
  split
  · split <;> rfl
  · rfl

theorem slK_det (t : Ty) (cs : List AV) : Det fun R (κ : List t.I × List AV → Option R) => slK t cs (two κ) := by
  intro R κ
  show slK t cs (two κ) = (slK t cs (two some)).bind κ
  unfold slK
  split
  · rfl
  · exact leafK_det (.sl t) _ R κ

theorem packK_det : ∀ (t : Ty) (cs : List AV), Det fun R (κ : t.I × List AV → Option R) => packK t cs (two κ)
  | .pair a b, cs => by
    have := Det.bind (packK_det a cs) (h := fun p R (κ : (Ty.pair a b).I × List AV → Option R) => packK b p.2 (two fun q => κ ((p.1, q.1), q.2))) (fun p => Det.bind (packK_det b p.2) (h := fun q R (κ : (Ty.pair a b).I × List AV → Option R) => κ ((p.1, q.1), q.2)) fun q => Det.pure _)
    exact this
  | .unit, cs => fun _ _ => rfl
  | .sl t, cs => slK_det t cs
  | .bool, cs => leafK_det .bool cs
  | .int k, cs => leafK_det (.int k) cs
  | .str, cs => leafK_det .str cs
  | .arr n t, cs => leafK_det (.arr n t) cs

theorem newK_det (o : Objs) (n : Nat) (x : Obj) : Det fun R κ => newK o n x κ := by
  intro R κ
  show newK o n x κ = (newK o n x some).bind κ
  unfold newK
  split <;> rfl

theorem resolveK_det : ∀ (cs : List AV) (o : Objs), Det fun R (κ : List AV × Objs → Option R) => resolveK cs o (two κ)
  | [], o => fun _ _ => rfl
  | c :: rest, o => by
    cases c with
    | row n =>
      intro R κ
      show resolveK (.row n :: rest) o (two κ) = (resolveK (.row n :: rest) o (two some)).bind κ
      unfold resolveK
      split
      · exact (Det.bind (resolveK_det rest _) (h := fun p R (κ : List AV × Objs → Option R) => κ (_ :: p.1, p.2)) fun p => Det.pure _) R κ
      · rfl
    | _ => exact Det.bind (resolveK_det rest o) (h := fun p R (κ : List AV × Objs → Option R) => κ (_ :: p.1, p.2)) fun p => Det.pure _
end Go.Den
