/- Operations one behind the other. -/
import Derived.Test.YtlmljpmohljefaaSound16
import Derived.Test.YtlmljpmohljefaaPar3
import Derived.Tactics
set_option linter.unusedVariables false
set_option linter.unusedSimpArgs false
namespace Go.Den
variable {P : Program}

structure EnvOk (P : Program) (E : Env) : Prop where
  T : TOk P E.Θ
  S : ∀ f S, E.Γ f = some S → SumOk P f S
  any : P.follows .mixedOrders = true
  D : GDet E

theorem run_callFunc {f : FuncId} {fn : Func} {c : Code} (hf : P.funcs[f]? = some fn) (hb : fn.body = some c) (hn : (fn.name == "runtime.NumGoroutine") = false) (args : Array Value) (w : World) : (callFunc f args).run P w = .ok (.enter f args) w := by
  have hn' : ¬ fn.name = "runtime.NumGoroutine" := by simpa using hn
  unfold callFunc
  simp [hf, hb, hn']

theorem callOp_sound {R : Type} {E : Env} (hE : EnvOk P E) {B : Base} {g : G} {ob : Objs} {w : World} (hw : WInv B g ob w) (o : Oper) (dst : Nat) (s : List AV) (a : Act) (hs : VRL g s a.tmps.toList) (κ : AV → Objs → Option R) (r : R)
    (h : opK E o.op dst s ob κ = some r) (hc : isCall o.op = true) (K : Act → World → Prop) (Q : Exit → Act → World → Prop) (hK : Then P B g κ r o a K) : o.wp P a w K Q := by
  cases hop : o.op with
  | call c =>
    rw [hop] at h
    simp only [opK] at h
    cases hcal : c.callee with
    | builtin b => rw [hop] at hc; simp [isCall, hcal] at hc
    | invoke f n => rw [hcal] at h; simp at h
    | value f =>
      rw [hcal] at h
      simp only at h
      have hf := rho_VR hs f
      split at h
      case h_2 => cases h
      rename_i gid first caps hfe
      rw [hfe] at hf
      obtain ⟨a', b', hv, ha', hb'⟩ := hf
      split at h
      case h_2 => cases h
      rename_i S hS
      have hok := hE.S gid S hS
      obtain ⟨fn, cc, hfn, hbody, hname⟩ := hok.1
      have hargs : VRL g (first ++ c.args.toList.map (rho s) ++ caps) (a' ++ c.args.toList.map a.eval ++ b') := VRL_append (VRL_append ha' (rhos_VRL hs c.args.toList)) hb'
      have hcall := callK_sound hw hok dst _ _ κ r h hargs
      have hrun : (execOp a.eval o).run P w = .ok (.enter gid (a' ++ c.args.toList.map a.eval ++ b').toArray) w := by
        have e1 : ((a'.toArray ++ c.args.map a.eval) ++ b'.toArray) = (a' ++ c.args.toList.map a.eval ++ b').toArray := by
          apply Array.ext'
          simp
        simp only [execOp, hop, resolve, hcal, hv, Deferred.ofValue, invoke]
        simp only [Sem.run_bind, Sem.run_pure, Result.andThen_ok]
        rw [run_callFunc hfn hbody hname, e1]
      unfold Oper.wp
      rw [hrun]
      show Calls P gid _ w _
      refine Calls.mono hcall ?_
      rintro e w' ⟨v, rfl, av, o', g', hk, hw', hg, hvr⟩
      exact hK av o' v w' g' hk hw' hg hvr
  | _ => rw [hop] at hc; simp [isCall] at hc

theorem op_sound {R : Type} {E : Env} (hE : EnvOk P E) {B : Base} {g : G} {ob : Objs} {w : World} (hw : WInv B g ob w) (o : Oper) (dst : Nat) (s : List AV) (a : Act) (hs : VRL g s a.tmps.toList) (κ : AV → Objs → Option R) (r : R)
    (h : opK E o.op dst s ob κ = some r) (K : Act → World → Prop) (Q : Exit → Act → World → Prop) (hK : Then P B g κ r o a K) : o.wp P a w K Q := by
  cases hc : isCall o.op with
  | true => exact callOp_sound hE hw o dst s a hs κ r h hc K Q hK
  | false => exact opK_sound hE.T hw o dst s a hs κ r h hc K Q hK

theorem put_VRL {g : G} {s : List AV} {a : Act} (hs : VRL g s a.tmps.toList) (dst : Option Nat) (av : AV) (v : Value) (hv : VR g av v) : VRL g (putS s dst av) (a.put dst v).tmps.toList := by
  cases dst with
  | none => exact hs
  | some d =>
    simp only [putS, Act.put, Array.toList_setIfInBounds]
    exact VRL_set d av v hs hv

theorem put_defers (a : Act) (dst : Option Nat) (v : Value) : (a.put dst v).defers = a.defers := by cases dst <;> rfl

theorem getS_some {g : G} {s : List AV} {a : Act} (hs : VRL g s a.tmps.toList) {t : Nat} {c : Bool} (h : getS s t = .d .bool c) : a.tmps[t]? = some (.bool c) := by
  unfold getS at h
  cases hg : s[t]? with
  | none => simp [List.getD, hg] at h
  | some av =>
    simp [List.getD, hg] at h
    subst h
    obtain ⟨v, hv, hr⟩ := VRL_get hs t _ hg
    rw [show v = _ from hr] at hv
    simpa using hv

theorem getS_tup {g : G} {s : List AV} {a : Act} (hs : VRL g s a.tmps.toList) {t : Nat} (h : getS s t = .tup []) : a.tmps[t]? = some undef := by
  unfold getS at h
  cases hg : s[t]? with
  | none => simp [List.getD, hg] at h
  | some av =>
    simp [List.getD, hg] at h
    subst h
    obtain ⟨v, hv, hr⟩ := VRL_get hs t _ hg
    obtain ⟨ws, e, hw⟩ := hr
    have : ws = [] := by
      cases ws with
      | nil => rfl
      | cons x l => exact hw.elim
    subst this
    rw [e] at hv
    simpa [undef] using hv

theorem know_VRL {g : G} {s : List AV} {vs : List Value} (hs : VRL g s vs) {t : Nat} {v : Value} (av : AV) (hv : vs[t]? = some v) (h : VR g av v) : VRL g (s.set t av) vs := by
  have := VRL_set t av v hs h
  have e : vs.set t v = vs := by
    apply List.ext_getElem?
    intro k
    rw [List.getElem?_set]
    split
    · rename_i e; subst e
      have := (List.getElem?_eq_some_iff.1 hv).1
      simp [this, hv]
      have := (List.getElem?_eq_some_iff.1 hv).2
      exact this.symm
    · rfl
  rwa [e] at this

/-- what holds as the function runs -/
def Inv (B : Base) (g0 : G) (m : Nat) (d : List Deferred) (st : St) (a : Act) (w : World) : Prop :=
  ∃ g, WInv B g st.o w ∧ VRL g st.s a.tmps.toList ∧ GE g0 g ∧ st.m = m ∧ a.defers = d

theorem denOps_sound {R : Type} {E : Env} (hE : EnvOk P E) {B : Base} {g0 : G} {m : Nat} {d : List Deferred} (all : Array Oper) (Q : Exit → Act → World → Prop) (κ : St → Option R) (r : R)
    (hQ : ∀ st a w, κ st = some r → Inv B g0 m d st a w → Q .normal a w) : ∀ (rest : List Oper) (st : St) (a : Act) (w : World),
    denOps E all.toList rest st κ = some r → Inv B g0 m d st a w → wpList P all Q rest a w
  | [], st, a, w, h, hi => hQ st a w h hi
  | op :: rest, st, a, w, h, hi => by
    obtain ⟨g, hw, hs, hg, hm, hd⟩ := hi
    have next : ∀ (s : List AV), VRL g s a.tmps.toList → opK E op.op (op.dst.getD 0) s st.o (fun v o => denOps E all.toList rest ⟨putS s op.dst v, o, st.m⟩ κ) = some r → op.wp P a w (wpList P all Q rest) Q := by
      intro s hs' h'
      refine op_sound hE hw op _ s a hs' _ r h' _ Q ?_
      intro av o' v w' g' hk hw' hg' hv
      refine denOps_sound hE all Q κ r hQ rest _ _ w' hk ⟨g', hw', ?_, hg.trans hg', hm, by rw [put_defers]; exact hd⟩
      exact put_VRL (VRL_mono hg' s _ hs') op.dst av v hv
    have skip : ∀ (s : List AV), VRL g s a.tmps.toList → denOps E all.toList rest ⟨putS s op.dst (.tup []), st.o, st.m⟩ κ = some r → wpList P all Q rest (a.put op.dst undef) w := by
      intro s hs' h'
      exact denOps_sound hE all Q κ r hQ rest _ _ w h' ⟨g, hw, put_VRL hs' op.dst (.tup []) undef ⟨[], rfl, trivial⟩, hg, hm, by rw [put_defers]; exact hd⟩
    unfold denOps at h
    unfold wpList
    cases hgd : op.guard with
    | none =>
      rw [hgd] at h
      simp only at h
      rw [if_pos (by simp [Region.wanted, hgd])]
      exact .inl (next st.s hs h)
    | some jw =>
      obtain ⟨j, want⟩ := jw
      rw [hgd] at h
      simp only at h
      split at h
      case h_2 => cases h
      rename_i t ht
      split at h
      case h_3 => cases h
      case h_2 =>
        rename_i hc
        have htm := getS_tup hs hc
        have hy : yielded all a.tmps j = none := by
          have : (all[j]?).bind (·.dst) = some t := by simpa using ht
          unfold yielded
          rw [this]
          simp [htm, undef]
        rw [if_neg (by simp [Region.wanted, hgd, hy])]
        exact skip _ hs h
      rename_i c hc
      have htm := getS_some hs hc
      have hy : yielded all a.tmps j = some c := by
        have : (all[j]?).bind (·.dst) = some t := by simpa using ht
        unfold yielded
        rw [this]
        simp [htm]
      have hwant : Region.wanted op (yielded all a.tmps) = (c == want) := by
        simp [Region.wanted, hgd, hy]
      rw [hwant]
      have hkn : ∀ b : Bool, c = b → VRL g (st.s.set t (.d .bool b)) a.tmps.toList := fun b hb => know_VRL hs _ (v := .bool c) (by simpa using htm) (by subst hb; rfl)
      cases c
      · simp only [Bool.false_eq_true, if_false] at h
        cases want
        · rw [if_pos (by decide)]; exact .inl (next _ (hkn false rfl) (by simpa using h))
        · rw [if_neg (by decide)]; exact skip _ (hkn false rfl) (by simpa using h)
      · simp only [if_true] at h
        cases want
        · rw [if_neg (by decide)]; exact skip _ (hkn true rfl) (by simpa using h)
        · rw [if_pos (by decide)]; exact .inl (next _ (hkn true rfl) (by simpa using h))
end Go.Den
