/- A whole function: what the evaluator tells holds of its calls. -/
import Derived.Test.YtlmljpmohljefaaSound20
set_option linter.unusedVariables false
set_option linter.unusedSimpArgs false
namespace Go.Den
variable {P : Program}

def resRun (tmps : Array Value) : ResultVar → Sem Value
  | .tmp t => pure (tmps.getD t undef)
  | .cell a t => do loadVar t (← asAddr (tmps.getD a undef))

theorem resK_sound {R : Type} {Θ : Nat → TD} (hΘ : TOk P Θ) {B : Base} {g : G} {w : World} {st : St} (hw : WInv B g st.o w) {tmps : Array Value} (hs : VRL g st.s tmps.toList) : ∀ (rs : List ResultVar) (κ : List AV → Option R) (r : R),
    resK Θ st rs κ = some r → ∃ avs vs, κ avs = some r ∧ VRL g avs vs ∧ (rs.mapM (resRun tmps)).run P w = .ok vs w
  | [], κ, r, h => ⟨[], [], h, trivial, by simp⟩
  | .tmp t :: rest, κ, r, h => by
    unfold resK at h
    obtain ⟨avs, vs, hk, hv, hr⟩ := resK_sound hΘ hw hs rest _ r h
    exact ⟨_, tmps.getD t undef :: vs, hk, ⟨getS_VR hs t, hv⟩, by simp [List.mapM_cons, resRun, hr]⟩
  | .cell a t :: rest, κ, r, h => by
    unfold resK at h
    obtain ⟨av, u, hk, hv, hload⟩ := loadK_sound hΘ hw t _ _ _ r h (getS_VR hs a)
    obtain ⟨avs, vs, hk2, hv2, hr⟩ := resK_sound hΘ hw hs rest _ r hk
    refine ⟨_, u :: vs, hk2, ⟨hv, hv2⟩, ?_⟩
    have hone : (resRun tmps (.cell a t)).run P w = .ok u w := by
      simp only [resRun]
      cases htv : tmps.getD a undef with
      | pointer p =>
        rw [htv] at hload
        cases p with
        | none => simp [Instr.loadAt, Instr.sureAddr] at hload
        | some p => simpa [Instr.loadAt, Instr.sureAddr, asAddr] using hload
      | _ => rw [htv] at hload; simp [Instr.loadAt, Instr.sureAddr] at hload
    rw [List.mapM_cons]
    simp only [Sem.run_bind, hone, Result.andThen_ok, hr, Sem.run_pure]

theorem results_eq (fn : Func) (tmps : Array Value) : results fn tmps = (do
    let vs ← fn.results.mapM (resRun tmps)
    pure (if h : vs.size = 1 then vs[0] else .tuple vs)) := by
  rfl

theorem run_mapM_array {α : Type} (F : α → Sem Value) (xs : Array α) (w : World) (vs : List Value) (h : (xs.toList.mapM F).run P w = .ok vs w) : (xs.mapM F).run P w = .ok vs.toArray w := by
  rw [Array.mapM_eq_mapM_toList]
  simp [h]

theorem tupOf_VR {g : G} {avs : List AV} {vs : List Value} (h : VRL g avs vs) : VR g (tupOf avs) (if h : vs.toArray.size = 1 then vs.toArray[0] else .tuple vs.toArray) := by
  match avs, vs, h with
  | [], [], h => exact ⟨[], by simp, trivial⟩
  | [a], [v], ⟨h, _⟩ => simpa [tupOf] using h
  | a :: b :: as, v :: u :: vs, h => exact ⟨v :: u :: vs, by simp, h⟩
  | [], _ :: _, h => exact h.elim
  | _ :: _, [], h => exact h.elim
  | [_], _ :: _ :: _, ⟨_, h⟩ => exact h.elim
  | _ :: _ :: _, [_], ⟨_, h⟩ => exact h.elim

/-- the objects as they are handed back -/
theorem outF_sound {R : Type} {B : Base} {g0 g : G} {m : Nat} (hg0 : ∀ n u, g0.E n = some u → n < m) {o : Objs} {w : World} (hw : WInv B g o w) (hg : GE g0 g) (rs : List AV) (vs : List Value) (hv : VRL g rs vs) (κ : List AV → List Obj → Option R) (r : R)
    (h : outF m o rs κ = some r) : ∃ rs' os g', κ rs' os = some r ∧ WInv B g' (atL os) w ∧ GE g0 g' ∧ VRL g' rs' vs := by
  unfold outF at h
  simp only at h
  generalize hns : List.range m ++ (gather o 200 (namesOs o m ++ namesL rs) []).filter (m ≤ ·) = ns at h
  split at h
  case isFalse => cases h
  rename_i hpl
  have hat := placeOk_at ns 0 hpl
  simp only [Nat.zero_add] at hat
  obtain ⟨objs, h2, hlen, hobj⟩ := objsAt_some ns _ r h
  let g2 : G := ⟨g.M, fun j => (ns[j]?).bind g.E⟩
  have hE2 : ∀ n j, place ns n = some j → g2.E j = g.E n := fun n j hj => by simp only [g2]; rw [place_get hj]; rfl
  have hw2 : WInv B g2 (atL objs) w := by
    refine hw.ren (place ns) ?_ hE2 ?_ rfl
    · intro j x2 hj
      have hlt : j < ns.length := by rw [← hlen]; exact (List.getElem?_eq_some_iff.1 hj).1
      obtain ⟨x, hx, hxe⟩ := hobj j ns[j] (List.getElem?_eq_getElem hlt)
      refine ⟨ns[j], x, hat j _ (List.getElem?_eq_getElem hlt), hx, ?_⟩
      rw [show atL objs j = objs[j]? from rfl] at hj
      rw [hj] at hxe; cases hxe; rfl
    · intro j hj
      have : ns[j]? = none := by
        rw [List.getElem?_eq_none_iff, ← hlen]
        exact List.getElem?_eq_none_iff.1 hj
      simp only [g2, this]; rfl
  refine ⟨_, objs, g2, h2, hw2, ⟨hg.M, fun n u hn => ?_⟩, VRL_ren (g := g) (g2 := g2) (place ns) rfl (fun n j u h1 h2 => (hE2 n j h1).trans h2) rs vs hv⟩
  have hlt := hg0 n u hn
  have hn2 : ns[n]? = some n := by
    rw [← hns, List.getElem?_append_left (by simpa using hlt)]
    simp [hlt]
  simp only [g2, hn2, Option.bind_some]
  exact hg.E n u hn

theorem denF_calls {R : Type} {E : Env} (hE : EnvOk P E) (hD : DrawOk P E) {f : FuncId} {fn : Func} {c : Code} (hf : P.funcs[f]? = some fn) (hb : fn.body = some c) (fuel : Nat) (ms : List Mode) (avs : List AV) (objs : List Obj) (κ : List AV → List Obj → Option R) (r : R)
    (h : denF E loopN fuel fn ms avs objs κ = some r) (B : Base) (g : G) (w : World) (vs : List Value) (hw : WInv B g (atL objs) w) (hv : VRL g avs vs) :
    Calls P f vs.toArray w fun e w' => ∃ v, e = .returned v ∧ ∃ rs os g', κ rs os = some r ∧ WInv B g' (atL os) w' ∧ GE g g' ∧ VR g' (tupOf rs) v := by
  have hg0 : ∀ n u, g.E n = some u → n < objs.length := by
    intro n u hn
    rcases Nat.lt_or_ge n objs.length with k | k
    · exact k
    · rw [hw.dom n (List.getElem?_eq_none_iff.2 k)] at hn; cases hn
  refine calls_of_wp hf hb ?_
  unfold denF at h
  have hbc : bodyC fn = c := by simp [bodyC, hb]
  rw [hbc] at h
  refine denC_sound hE hD hg0 fuel r c _ _ _ _ w h ⟨g, hw, ?_, GE.refl g, rfl, rfl⟩ ?_
  · have hl := VRL_length hv
    have e : (vs.toArray ++ Array.replicate (fn.ntmps - vs.toArray.size) undef).toList = vs ++ List.replicate (fn.ntmps - vs.length) undef := by simp
    rw [e, ← hl]
    exact VRL_append hv (VRL_replicate _ _)
  · intro e st a w' hk hi
    have fin : (resK E.Θ st fn.results.toList fun rs => prepK ms rs 3000000 st.o fun rs o => outF objs.length o rs κ) = some r → bodyPost P fn (fun e w' => ∃ v, e = .returned v ∧ ∃ rs os g', κ rs os = some r ∧ WInv B g' (atL os) w' ∧ GE g g' ∧ VR g' (tupOf rs) v) .normal a w' := by
      intro hk
      obtain ⟨g1, hw1, hs1, hg1, hm, hd⟩ := hi
      obtain ⟨ravs, rvs, h1, hrv, hrun⟩ := resK_sound hE.T hw1 hs1 _ _ r hk
      obtain ⟨ravs2, o2, g2, h2, hrv2, hw2, hg2⟩ := prepK_sound _ _ _ _ g1 _ _ r h1 hrv hw1
      obtain ⟨rs, os, g3, h3, hw3, hg3, hrv3⟩ := outF_sound hg0 hw2 (hg1.trans hg2) _ _ hrv2 _ r h2
      refine ⟨hd, _, ?_, _, rfl, rs, os, g3, h3, hw3, hg3, tupOf_VR hrv3⟩
      rw [results_eq]
      simp only [Sem.run_bind, run_mapM_array _ _ _ _ hrun, Result.andThen_ok, Sem.run_pure]
    cases e with
    | normal => exact fin hk
    | ret => exact fin hk
    | exit id => cases hk

/-- a function's summary, by what the evaluator makes of it -/
theorem sum_of {E : Env} (hE : EnvOk P E) (hD : DrawOk P E) {f : FuncId} {fn : Func} {c : Code} (hf : P.funcs[f]? = some fn) (hb : fn.body = some c) (hn : (fn.name == "runtime.NumGoroutine") = false) (S : Sum) (ms : List Mode)
    (h : ∀ {R : Type} (avs : List AV) (objs : List Obj) (κ : List AV → List Obj → Option R) (r : R), S.run avs objs κ = some r → ∃ fuel, denF E loopN fuel fn ms avs objs κ = some r) : SumOk P f S :=
  ⟨⟨fn, c, hf, hb, hn⟩, fun avs objs κ r hr B g w vs hw hv => let ⟨fuel, hd⟩ := h avs objs κ r hr; denF_calls hE hD hf hb fuel ms avs objs κ r hd B g w vs hw hv⟩

/-- what a function comes to, once told for one way of reading it, holds of every way -/
theorem denF_any {E : Env} (hE : GDet E) {fuel : Nat} {fn : Func} {ms : List Mode} {avs : List AV} {objs : List Obj} {A : Type} {k : List AV → List Obj → Option A} {y : A} (h : denF E loopN fuel fn ms avs objs k = some y) {out : List AV} {os : List Obj}
    (hk : ∀ rs ros, k rs ros = some y → rs = out ∧ ros = os) {R : Type} (κ : List AV → List Obj → Option R) : denF E loopN fuel fn ms avs objs κ = κ out os := by
  obtain ⟨⟨rs, ros⟩, h1, h2⟩ := (denF_det hE fuel fn ms avs objs).cases (κ := fun p => k p.1 p.2) h
  obtain ⟨rfl, rfl⟩ := hk rs ros h1
  exact h2 R fun p => κ p.1 p.2
end Go.Den
