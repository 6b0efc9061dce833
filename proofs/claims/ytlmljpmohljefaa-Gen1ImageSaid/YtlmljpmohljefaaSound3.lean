/- Types; loads and stores. -/
import Derived.Test.YtlmljpmohljefaaSound2
set_option linter.unusedVariables false
set_option linter.unusedSimpArgs false
namespace Go.Den

/-- the zero cells of a type -/
def zOk : Ty → List Value → Option (List Value)
  | .bool, .bool false :: r => some r
  | .int k, .int k' n :: r => if k = k' ∧ n = 0 then some r else none
  | .str, .string s :: r => if s.data.toList.length = 0 then some r else none
  | .sl _, .slice none 0 0 :: r => some r
  | .pair a b, vs => (zOk a vs).bind fun vs => zOk b vs
  | _, _ => none

def zOkN : Nat → Ty → List Value → Option (List Value)
  | 0, _, vs => some vs
  | n + 1, t, vs => (zOk t vs).bind fun vs => zOkN n t vs

def chkMore (P : Program) (d : TypeDesc) (z : List Value) : Bool :=
  match d with
  | .struct fs => fs.toList.all fun f => (P.info? f.type).isSome
  | .array n e => match tyOf P 40 e with
    | some te => te.flat && (match zOkN n te z with | some [] => true | _ => false)
    | none => true
  | _ => true

def tdChk (P : Program) (t : TypeId) (d : TD) : Bool :=
  (P.underlying t).isSome && match P.info? t with
  | some i => match i.zero with
    | some z => chkMore P ((P.underlying t).getD .invalid) z.cells.toList && z.cells.size == i.size && z.cells.toList.all (·.oneCell') && (match d.ty with
      | some ty => ty.flat && ty.sz == i.size && (match zOk ty z.cells.toList with | some [] => true | _ => false)
      | none => true)
    | none => false
  | none => false

def tdNone : TD := { k := .other, sz := 0, nb := 0, ty := none, zero := [], eq := false }

theorem zOk_CR {M : Mem} : ∀ (t : Ty) (vs r : List Value), t.flat = true → zOk t vs = some r → ∃ v1, vs = v1 ++ r ∧ CR M t (zeroI t) v1 := by
  intro t
  induction t with
  | bool =>
    intro vs r _ h
    unfold zOk at h
    split at h <;> simp_all
    subst h
    exact ⟨[.bool false], rfl, rfl⟩
  | int k =>
    intro vs r _ h
    unfold zOk at h
    split at h
    · simp_all
    · rename_i k0 k' n r' heq
      cases heq
      split at h
      · rename_i hc
        obtain ⟨rfl, rfl⟩ := hc
        cases h
        exact ⟨[.int k 0], rfl, rfl⟩
      · cases h
    all_goals simp_all
  | str =>
    intro vs r _ h
    unfold zOk at h
    split at h
    · simp_all
    · simp_all
    · rename_i s r' heq
      split at h
      · rename_i hs
        cases h
        have : s = (⟨#[]⟩ : ByteArray) := by
          cases s with
          | mk d =>
            have : d = #[] := by
              apply Array.eq_empty_of_size_eq_zero
              simpa using hs
            rw [this]
        exact ⟨[.string ⟨#[]⟩], by rw [this]; rfl, rfl⟩
      · cases h
    all_goals simp_all
  | sl t ih =>
    intro vs r _ h
    unfold zOk at h
    split at h <;> simp_all
    subst h
    exact ⟨[.slice none 0 0], rfl, none, 0, rfl, Nat.le_refl _, fun i x hi => by simp [zeroI] at hi⟩
  | arr n t ih => intro vs r hf; simp [Ty.flat] at hf
  | unit => intro vs r hf; simp [Ty.flat] at hf
  | pair a b iha ihb =>
    intro vs r hf h
    simp only [Ty.flat, Bool.and_eq_true] at hf
    have h' : (zOk a vs).bind (fun vs => zOk b vs) = some r := by simpa [zOk] using h
    cases ha : zOk a vs with
    | none => rw [ha] at h'; cases h'
    | some vs1 =>
      rw [ha] at h'
      obtain ⟨v1, e1, c1⟩ := iha vs vs1 hf.1 ha
      obtain ⟨v2, e2, c2⟩ := ihb vs1 r hf.2 h'
      exact ⟨v1 ++ v2, by rw [e1, e2, List.append_assoc], v1, v2, rfl, c1, c2⟩

theorem zOkN_RR {M : Mem} (t : Ty) (hf : t.flat = true) : ∀ (n : Nat) (vs r : List Value), zOkN n t vs = some r → ∃ v1, vs = v1 ++ r ∧ RR M t (List.replicate n (zeroI t)) v1
  | 0, vs, r, h => ⟨[], by cases h; rfl, rfl⟩
  | n + 1, vs, r, h => by
    unfold zOkN at h
    cases hz : zOk t vs with
    | none => rw [hz] at h; cases h
    | some vs1 =>
      rw [hz] at h
      obtain ⟨v1, e1, c1⟩ := zOk_CR (M := M) t vs vs1 hf hz
      obtain ⟨v2, e2, c2⟩ := zOkN_RR t hf n vs1 r h
      exact ⟨v1 ++ v2, by rw [e1, e2, List.append_assoc], v1, v2, rfl, c1, c2⟩

structure TRow (P : Program) (t : TypeId) (d : TD) : Prop where
  row : ∃ i dd z, P.info? t = some i ∧ P.underlying t = some dd ∧ d.k = kOf dd ∧ d.sz = i.size ∧ d.nb = i.bytes ∧ i.zero = some z ∧ d.zero = z.cells.toList.map zeroAV ∧ z.cells.size = i.size ∧ (∀ u ∈ z.cells.toList, u.oneCell' = true) ∧
    ∀ ty, d.ty = some ty → ty.flat = true ∧ ty.sz = i.size ∧ ∀ M : Mem, CR M ty (zeroI ty) z.cells.toList
  tyEq : d.ty = tyOf P 40 t
  fields : ∀ fs, P.underlying t = some (.struct fs) → ∀ f ∈ fs.toList, (P.info? f.type).isSome = true
  arr : ∀ n e te i z, P.underlying t = some (.array n e) → tyOf P 40 e = some te → P.info? t = some i → i.zero = some z → te.flat = true ∧ ∀ M : Mem, RR M te (List.replicate n (zeroI te)) z.cells.toList
  eq : d.eq = true → ∃ fs, P.underlying t = some (.struct fs) ∧ P.eqGuardType P.depth t = false ∧ P.stoodInHeld t = false ∧ ∀ f ∈ fs.toList, f.name ≠ "_"

def TOk (P : Program) (Θ : Nat → TD) : Prop := ∀ t, Θ t = tdNone ∨ TRow P t (Θ t)

theorem tRow_of (P : Program) (t : TypeId) (d : TD) (h : tdOf P t = d) (hc : tdChk P t d = true) : TRow P t d := by
  unfold tdChk at hc
  rw [Bool.and_eq_true] at hc
  obtain ⟨hu, hc⟩ := hc
  obtain ⟨dd, hu⟩ := Option.isSome_iff_exists.1 hu
  split at hc
  · rename_i i hi
    split at hc
    · rename_i z hz
      simp only [Bool.and_eq_true, beq_iff_eq] at hc
      obtain ⟨⟨⟨h0, h1⟩, h2⟩, h3⟩ := hc
      unfold tdOf at h
      rw [hi] at h
      rw [hu] at h h0
      simp only [hz] at h
      simp only [Option.getD_some] at h0
      subst h
      refine ⟨⟨i, dd, z, hi, hu, rfl, rfl, rfl, hz, rfl, h1, fun u hu => List.all_eq_true.1 h2 u hu, fun ty hty => ?_⟩, rfl, ?_, ?_, ?_⟩
      · simp only at hty h3
        rw [hty] at h3
        simp only [Bool.and_eq_true, beq_iff_eq] at h3
        obtain ⟨⟨h4, h5⟩, h6⟩ := h3
        refine ⟨h4, h5, fun M => ?_⟩
        split at h6
        · rename_i hzz
          obtain ⟨v1, e, c⟩ := zOk_CR (M := M) ty _ _ h4 hzz
          rw [List.append_nil] at e
          rw [e]; exact c
        · cases h6
      · intro fs hfs f hf
        rw [hu] at hfs
        cases hfs
        exact List.all_eq_true.1 h0 f hf
      · intro n e te i' z' hue hte hi' hz'
        rw [hu] at hue
        cases hue
        rw [hi] at hi'
        cases hi'
        rw [hz] at hz'
        cases hz'
        simp only [chkMore, hte, Bool.and_eq_true] at h0
        refine ⟨h0.1, fun M => ?_⟩
        have h6 := h0.2
        split at h6
        · rename_i hzz
          obtain ⟨v1, e, c⟩ := zOkN_RR (M := M) te h0.1 n _ _ hzz
          rw [List.append_nil] at e
          rw [e]; exact c
        · cases h6
      · intro he
        simp only at he
        unfold eqD at he
        split at he
        · rename_i fs
          simp only [Bool.and_eq_true, Bool.not_eq_true'] at he
          exact ⟨fs, hu, he.1.1, he.1.2, fun f hf => by simpa using List.all_eq_true.1 he.2 f hf⟩
        · cases he
    · cases hc
  · cases hc
end Go.Den
