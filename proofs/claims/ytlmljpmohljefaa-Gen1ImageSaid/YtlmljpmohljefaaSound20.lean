/- Code: what the evaluator tells holds. -/
import Derived.Test.YtlmljpmohljefaaSound19
set_option linter.unusedVariables false
set_option linter.unusedSimpArgs false
namespace Go.Den
variable {P : Program}

def exOf : Ex → Exit
  | .normal => .normal
  | .exit id => .exit id
  | .ret => .ret

theorem least_of {p : Nat → Prop} (h : ∃ n, p n) : ∃ n, p n ∧ ∀ m, p m → n ≤ m := by
  obtain ⟨n, hn⟩ := h
  induction n using Nat.strongRecOn with
  | _ n ih =>
    by_cases hm : ∃ m, m < n ∧ p m
    · obtain ⟨m, hlt, hp⟩ := hm
      exact ih m hlt hp
    · exact ⟨n, hn, fun m hp => by
        rcases Nat.lt_or_ge m n with k | k
        · exact absurd ⟨m, k, hp⟩ hm
        · exact k⟩

open Classical in
noncomputable def leastN (p : Nat → Prop) : Nat := if h : ∃ n, p n then Classical.choose (least_of h) else 0

theorem leastN_spec {p : Nat → Prop} (h : ∃ n, p n) : p (leastN p) ∧ ∀ m, p m → leastN p ≤ m := by
  unfold leastN
  rw [dif_pos h]
  exact Classical.choose_spec (least_of h)

/-- a part of the code, by what the evaluator makes of it -/
def Sound (P : Program) (B : Base) (g0 : G) (m : Nat) (d : List Deferred) {R : Type} (r : R) (c : Code) (run : BodyK R) : Prop :=
  ∀ (st : St) (κ : Ex → St → Option R) (Q : Exit → Act → World → Prop) (a : Act) (w : World), run st κ = some r → Inv B g0 m d st a w →
    (∀ e st' a' w', κ e st' = some r → Inv B g0 m d st' a' w' → Q (exOf e) a' w') → c.wp P Q a w

theorem loop_sound {R : Type} {B : Base} {g0 : G} {m : Nat} {d : List Deferred} (hg0 : ∀ n u, g0.E n = some u → n < m) {r : R} (A : LA) (b : Code) (body : BodyK R) (hb : Sound P B g0 m d r b body) (k : Nat) :
    Sound P B g0 m d r (.loop b) (fun st κ => loopN A body k st κ) := by
  intro st κ Q a w h hi hQ
  let p : Act → World → Nat → Prop := fun a w k => ∃ st, loopN A body k st κ = some r ∧ Inv B g0 m d st a w
  refine wp_loop (fun a w => ∃ k, p a w k) (fun a w => leastN (p a w)) ⟨k, st, h, hi⟩ ?_
  intro a w hI
  obtain ⟨⟨st1, h1, hi1⟩, hmin⟩ := leastN_spec hI
  cases hk : leastN (p a w) with
  | zero => rw [hk] at h1; cases h1
  | succ k' =>
    rw [hk] at h1
    unfold loopN at h1
    refine hb st1 _ _ a w h1 hi1 ?_
    intro e st' a' w' he hi'
    cases e with
    | normal =>
      simp only [againK] at he
      obtain ⟨st2, h2, hi2⟩ := tidyK_sound hg0 A st' a' w' _ r he hi'
      have hp : p a' w' k' := ⟨st2, h2, hi2⟩
      refine ⟨⟨k', hp⟩, ?_⟩
      have := (leastN_spec ⟨k', hp⟩).2 k' hp
      show leastN (p a' w') < k' + 1
      omega
    | exit id => exact hQ (.exit id) st' a' w' he hi'
    | ret => exact hQ .ret st' a' w' he hi'

theorem denC_sound {R : Type} {E : Env} (hE : EnvOk P E) (hD : DrawOk P E) {B : Base} {g0 : G} {m : Nat} {d : List Deferred} (hg0 : ∀ n u, g0.E n = some u → n < m) (fuel : Nat) (r : R) :
    ∀ c : Code, Sound P B g0 m d r c (fun st κ => denC E loopN fuel c st κ)
  | .skip => fun st κ Q a w h hi hQ => wp_skip (hQ .normal st a w h hi)
  | .region id ops draw => by
    intro st κ Q a w h hi hQ
    unfold denC at h
    split at h
    · rename_i hd
      subst hd
      split at h
      case isFalse => cases h
      rename_i hs
      exact hD hs _ r st a w h hi Q fun st' a' w' hk hi' => hQ .normal st' a' w' hk hi'
    · rename_i hd
      have : draw = false := by simpa using hd
      subst this
      exact wp_region_list (denOps_sound hE ops Q _ r (fun st' a' w' hk hi' => hQ .normal st' a' w' hk hi') ops.toList st a w h hi)
  | .seq x y => by
    intro st κ Q a w h hi hQ
    unfold denC at h
    refine wp_seq (denC_sound hE hD hg0 fuel r x st _ _ a w h hi ?_)
    intro e st' a' w' hk hi'
    cases e with
    | normal => exact denC_sound hE hD hg0 fuel r y st' κ Q a' w' hk hi' hQ
    | exit id => exact hQ (.exit id) st' a' w' hk hi'
    | ret => exact hQ .ret st' a' w' hk hi'
  | .cond c x y => by
    intro st κ Q a w h hi hQ
    unfold denC at h
    dsimp only at h
    split at h
    case h_2 => cases h
    rename_i b hb
    obtain ⟨g, hw, hs, hg, hm, hd⟩ := hi
    have hv := rho_VR hs c
    rw [hb] at hv
    have hv' : a.eval c = .bool b := hv
    refine wp_cond hv' ?_
    cases b
    · exact denC_sound hE hD hg0 fuel r y st κ Q a w (by simpa using h) ⟨g, hw, hs, hg, hm, hd⟩ hQ
    · exact denC_sound hE hD hg0 fuel r x st κ Q a w (by simpa using h) ⟨g, hw, hs, hg, hm, hd⟩ hQ
  | .block id b => by
    intro st κ Q a w h hi hQ
    unfold denC at h
    refine wp_block (denC_sound hE hD hg0 fuel r b st _ _ a w h hi ?_)
    intro e st' a' w' hk hi'
    cases e with
    | normal => exact hQ .normal st' a' w' hk hi'
    | exit id' =>
      simp only at hk
      show if id' = id then Q .normal a' w' else Q (.exit id') a' w'
      split at hk
      · rename_i e; rw [if_pos e]; exact hQ .normal st' a' w' hk hi'
      · rename_i e; rw [if_neg e]; exact hQ (.exit id') st' a' w' hk hi'
    | ret => exact hQ .ret st' a' w' hk hi'
  | .loop b => by
    intro st κ Q a w h hi hQ
    unfold denC at h
    obtain ⟨st2, h2, hi2⟩ := tidyK_sound hg0 (E.A (rid b)) st a w _ r h hi
    exact loop_sound hg0 (E.A (rid b)) b _ (denC_sound hE hD hg0 fuel r b) fuel st2 κ Q a w h2 hi2 hQ
  | .exit id => fun st κ Q a w h hi hQ => wp_exit (hQ (.exit id) st a w h hi)
  | .ret => fun st κ Q a w h hi hQ => wp_ret (hQ .ret st a w h hi)
  | .label _ => fun st κ Q a w h hi hQ => wp_label (hQ .normal st a w h hi)
  | .goto _ => fun st κ Q a w h hi hQ => by simp [denC] at h
  | .scope _ => fun st κ Q a w h hi hQ => by simp [denC] at h
  | .refuse _ => fun st κ Q a w h hi hQ => by simp [denC] at h
  | .rangeFunc _ _ _ _ => fun st κ Q a w h hi hQ => by simp [denC] at h

end Go.Den
