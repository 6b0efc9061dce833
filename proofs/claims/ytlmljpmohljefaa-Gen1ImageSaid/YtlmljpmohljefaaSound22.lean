/- A law: from what the evaluator tells to the call. -/
import Derived.Test.YtlmljpmohljefaaSound21
import Derived.Test.YtlmljpmohljefaaDraw4
import Derived.RowKit3
import Derived.Below
set_option linter.unusedVariables false
set_option linter.unusedSimpArgs false
namespace Go.Den
variable {P : Program}

def AllOk (P : Program) : Nat → List TD → Prop
  | _, [] => True
  | k, d :: ds => (d = tdNone ∨ TRow P k d) ∧ AllOk P (k + 1) ds

theorem allOk_get : ∀ (ds : List TD) (k : Nat), AllOk P k ds → ∀ j, ds.getD j tdNone = tdNone ∨ TRow P (k + j) (ds.getD j tdNone)
  | [], k, h, j => .inl (by simp [List.getD])
  | d :: ds, k, ⟨h1, h2⟩, 0 => h1
  | d :: ds, k, ⟨h1, h2⟩, j + 1 => by
    have := allOk_get ds (k + 1) h2 j
    rw [show k + (j + 1) = k + 1 + j from by omega]
    simpa using this

theorem tOk_of {ds : List TD} (h : AllOk P 0 ds) : TOk P (fun t => ds.getD t tdNone) := fun t => by
  have := allOk_get ds 0 h t
  rwa [Nat.zero_add] at this

/-- summaries by the function's number -/
def gam : List (Nat × Sum) → Nat → Option Sum
  | [], _ => none
  | (k, S) :: l, n => if n = k then some S else gam l n

def AllSums (P : Program) : List (Nat × Sum) → Prop
  | [] => True
  | (k, S) :: l => (SumOk P k S ∧ SumDet S) ∧ AllSums P l

theorem gam_ok : ∀ (l : List (Nat × Sum)), AllSums P l → ∀ f S, gam l f = some S → SumOk P f S ∧ SumDet S
  | [], _, f, S, h => by cases h
  | (k, T) :: l, ⟨h1, h2⟩, f, S, h => by
    unfold gam at h
    split at h
    · rename_i e; subst e; cases h; exact h1
    · exact gam_ok l h2 f S h

theorem env_ok {Θ : Nat → TD} (hΘ : TOk P Θ) (hany : P.follows .mixedOrders = true) {l : List (Nat × Sum)} (h : AllSums P l) (A : Nat → LA) : EnvOk P ⟨Θ, gam l, A⟩ :=
  ⟨hΘ, fun f S hS => (gam_ok l h f S hS).1, hany, fun f S hS => (gam_ok l h f S hS).2⟩

/-- a summary: what the evaluator comes to is what the summary tells -/
theorem sum_ok {E : Env} (hE : EnvOk P E) {f : FuncId} {fn : Func} {c : Code} (hf : P.funcs[f]? = some fn) (hb : fn.body = some c) (hn : (fn.name == "runtime.NumGoroutine") = false) (S : Sum) (ms : List Mode) {A : Type} (k : List AV → List Obj → Option A)
    (h : ∀ {R : Type} (avs : List AV) (objs : List Obj) (κ : List AV → List Obj → Option R) (r : R), S.run avs objs κ = some r → ∃ fuel y out os, denF E loopN fuel fn ms avs objs k = some y ∧ (∀ rs ros, k rs ros = some y → rs = out ∧ ros = os) ∧ κ out os = some r) : SumOk P f S :=
  sum_of hE (drawOk hE) hf hb hn S ms fun avs objs κ r hr => by
    obtain ⟨fuel, y, out, os, h1, h2, h3⟩ := h avs objs κ r hr
    exact ⟨fuel, by rw [denF_any hE.D h1 h2]; exact h3⟩

/-- all that lies in memory, as data -/
def memAll (w : World) : Mem := fun a => (w.cell? a).bind fun v => if v.oneCell' = true then some v else none

theorem memAll_at {w : World} {a : Addr} {v : Value} (h : w.cell? a = some v) (h1 : v.oneCell' = true) : memAll w a = some v := by simp [memAll, h, h1]

def lawBase (w : World) : Base := ⟨w, memAll w, fun _ => False⟩
def lawG (w : World) : G := ⟨memAll w, fun _ => none⟩

theorem lawInv (w : World) : WInv (lawBase w) (lawG w) (atL []) w := by
  refine ⟨?_, fun _ _ => rfl, ?_, ?_, ⟨rfl, rfl, rfl, Nat.le_refl _, fun _ _ _ => rfl⟩, fun a v h => h, fun _ _ _ => rfl, ?_⟩
  · intro n x h; simp [atL] at h
  · intro n m x y _ h; simp [atL] at h
  · intro a v h
    simp only [lawG, memAll] at h
    cases hc : w.cell? a with
    | none => rw [hc] at h; cases h
    | some u =>
      rw [hc] at h
      simp only [Option.bind_some] at h
      split at h
      · rename_i h1; cases h; exact ⟨rfl, h1⟩
      · cases h
  · intro n x b h; simp [atL] at h

/-- the answer is true -/
def isTrue (rs : List AV) (os : List Obj) : Option Unit :=
  match rs with
  | [.d .bool b] => if b = true then some () else none
  | _ => none

theorem law_calls {E : Env} (hE : EnvOk P E) {f : FuncId} {fn : Func} {c : Code} (hf : P.funcs[f]? = some fn) (hb : fn.body = some c) (fuel : Nat) (avs : List AV) (vs : Array Value) (W : World) (hv : VRL (lawG W) avs vs.toList)
    (h : denF E loopN fuel fn [.raw] avs [] isTrue = some ()) : Calls P f vs W fun e W' => e = .returned (.bool true) ∧ W.grownBy W' none := by
  have := denF_calls hE (drawOk hE) hf hb fuel [.raw] avs [] isTrue () h (lawBase W) (lawG W) W vs.toList (lawInv W) hv
  rw [Array.toArray_toList] at this
  refine Calls.mono this ?_
  rintro e W' ⟨v, rfl, rs, os, g', hk, hw, hg, hr⟩
  unfold isTrue at hk
  split at hk
  · rename_i b
    split at hk
    · rename_i hbt
      subst hbt
      exact ⟨by rw [show v = .bool true from hr], hw.ext.os, hw.ext.tape, hw.ext.output, hw.ext.size, fun k hk _ => hw.ext.block k hk (fun h => h)⟩
    · cases hk
  · cases hk
end Go.Den
