/- A call, by what is known of the function. -/
import Derived.Test.YtlmljpmohljefaaSound14
set_option linter.unusedVariables false
set_option linter.unusedSimpArgs false
namespace Go.Den
variable {P : Program}

/-- what a function's summary says holds of it -/
def SumOk (P : Program) (f : FuncId) (S : Sum) : Prop :=
  (∃ fn c, P.funcs[f]? = some fn ∧ fn.body = some c ∧ (fn.name == "runtime.NumGoroutine") = false) ∧
  ∀ {R : Type} (avs : List AV) (objs : List Obj) (κ : List AV → List Obj → Option R) (r : R), S.run avs objs κ = some r →
    ∀ (B : Base) (g : G) (w : World) (vs : List Value), WInv B g (atL objs) w → VRL g avs vs →
      Calls P f vs.toArray w fun e w' => ∃ v, e = .returned v ∧ ∃ rs os g', κ rs os = some r ∧ WInv B g' (atL os) w' ∧ GE g g' ∧ VR g' (tupOf rs) v

theorem one_cell {v : Value} (h : v.cells.toList.length = 1) (hna : ∀ u, v ≠ .agg u) (hnt : ∀ u, v ≠ .tuple u) : v.cells = #[v] := by
  cases v <;> first | rfl | (rename_i u; exact absurd rfl (hna u)) | (rename_i u; exact absurd rfl (hnt u))

theorem single_VR {g : G} {cs : List AV} {v : Value} (h : VRL g cs [v]) : VR g (single cs) v := by
  match cs, h with
  | [c], ⟨h, _⟩ => exact h
  | [], h => exact h.elim
  | _ :: _ :: _, ⟨_, h⟩ => exact h.elim

theorem prepK_sound {R : Type} {B : Base} {w : World} : ∀ (ms : List Mode) (avs : List AV) (vs : List Value) (j : Nat) (g : G) (o : Objs) (κ : List AV → Objs → Option R) (r : R),
    prepK ms avs j o κ = some r → VRL g avs vs → WInv B g o w → ∃ avs' o' g', κ avs' o' = some r ∧ VRL g' avs' vs ∧ WInv B g' o' w ∧ GE g g' := by
  intro ms
  induction ms with
  | nil =>
    intro avs vs j g o κ r h hv hw
    cases avs with
    | nil => exact ⟨[], o, g, by simpa [prepK] using h, hv, hw, GE.refl g⟩
    | cons a as => simp [prepK] at h
  | cons m ms ih =>
    intro avs vs j g o κ r h hv hw
    cases avs with
    | nil => cases m <;> simp [prepK] at h
    | cons a as =>
      cases vs with
      | nil => exact hv.elim
      | cons v vs =>
        obtain ⟨ha, hv⟩ := hv
        have plain : prepK ms as (j + 1) o (fun vs o => κ (a :: vs) o) = some r → ∃ avs' o' g', κ avs' o' = some r ∧ VRL g' avs' (v :: vs) ∧ WInv B g' o' w ∧ GE g g' := by
          intro hp
          obtain ⟨avs', o', g', hk, hv', hw', hg⟩ := ih as vs (j + 1) g o _ r hp hv hw
          exact ⟨_, o', g', hk, ⟨VR_mono hg a v ha, hv'⟩, hw', hg⟩
        simp only [prepK] at h
        cases m with
        | raw => exact plain h
        | fz =>
          simp only at h
          split at h
          case h_2 => cases h
          rename_i n off
          split at h
          case h_2 => cases h
          rename_i cs hn
          obtain ⟨b, ws, ty, hE, hh, hc, h1, hm⟩ := hw.objs n _ hn
          obtain ⟨cs', o1, g1, hk1, hcv1, hw1, hg1, hE1⟩ := resolveK_sound _ _ g o _ r h hc hw
          split at hk1
          case h_2 => cases hk1
          rename_i cs0 hn1
          obtain ⟨b1, ws1, ty1, hE2, hh1, hc1, h11, hm1⟩ := hw1.objs n _ hn1
          have hb : b1 = b := by
            rw [hE1, hE] at hE2
            cases hE2
            rfl
          subst hb
          have hw2 : WInv B g1 (upd o1 n (.box cs')) w :=
            hw1.put n _ (GE.refl _) (fun _ _ => rfl) ⟨b1, ws, ty, by rw [hE1]; exact hE, hh, hcv1, h1, hm1⟩ ⟨rfl, rfl, rfl, Nat.le_refl _⟩ (fun _ _ _ => rfl) rfl (fun _ a v _ _ ha => (hw1.mem a v ha).1) (fun _ _ hk => .inr ⟨_, hn1, rfl, by
              have : blkOf g1 n = blkOf g1 n := rfl
              exact hk⟩)
          obtain ⟨avs', o', g', hk, hv', hw', hg⟩ := ih as vs (j + 1) g1 _ _ r hk1 (VRL_mono hg1 as vs hv) hw2
          exact ⟨_, o', g', hk, ⟨VR_mono (hg1.trans hg) _ v ha, hv'⟩, hw', hg1.trans hg⟩
        | own e t =>
          simp only at h
          split at h
          · split at h
            case isFalse => cases h
            rename_i hf
            unfold newK at h
            split at h
            case h_2 => cases h
            rename_i hfree
            rw [show v = _ from ha]
            have hw1 := new_row (w' := w) hw hfree e t [] [] (.slice none 0 0) false hf rfl (World.ownsRow_nil w 0 e t.sz) ⟨rfl, rfl, rfl, Nat.le_refl _, fun _ _ _ => rfl⟩ (.inl rfl)
            have hg1 := setE_ge hw hfree (Value.slice none 0 0, t.sz)
            obtain ⟨avs', o', g', hk, hv', hw', hg⟩ := ih as vs (j + 1) _ _ _ r h (VRL_mono hg1 as vs hv) hw1
            exact ⟨_, o', g', hk, ⟨⟨t.sz, hg.E _ _ (setE_at g j _), rfl⟩, hv'⟩, hw', hg1.trans hg⟩
          · exact plain h
        | dat t ag =>
          simp only at h
          split at h
          case isFalse => cases h
          rename_i hc
          obtain ⟨hlen, hl1, hf, hag, hone⟩ := hc
          obtain ⟨hcv, h1⟩ := cellsOf_sound ha hl1
          obtain ⟨cs', o1, g1, hk1, hcv1, hw1, hg1, hE1⟩ := resolveK_sound _ _ g o _ r h hcv hw
          obtain ⟨x, rest, v1, v2, hk2, e1, hcx, hrest⟩ := packK_sound t _ _ _ r hf hk1 hcv1
          have hvl := VRL_length hcv
          have hv2 : v2 = [] := by
            have h3 := CR_length t x v1 hcx
            have h4 : (v1 ++ v2).length = t.sz := by rw [← e1, ← hvl, hlen]
            rw [List.length_append, h3] at h4
            exact List.eq_nil_of_length_eq_zero (by omega)
          rw [hv2, List.append_nil] at e1
          obtain ⟨avs', o', g', hk, hv', hw', hg⟩ := ih as vs (j + 1) g1 o1 _ r hk2 (VRL_mono hg1 as vs hv) hw1
          refine ⟨_, o', g', hk, ⟨?_, hv'⟩, hw', hg1.trans hg⟩
          have hlv : VRL g' (leaves t x) v.cells.toList := by rw [e1]; exact leaves_VRL t x v1 hf (CR_mono hg.M t x v1 hcx)
          unfold ofD
          cases ag with
          | true =>
            cases a with
            | agg cs =>
              obtain ⟨ws, rfl, hc, h1'⟩ := ha
              exact ⟨ws, rfl, by simpa [Value.cells] using hlv, h1'⟩
            | _ => simp [isAggV] at hag
          | false =>
            simp only [Bool.false_eq_true, if_false]
            have hsz := hone rfl
            have hc1 : v.cells.toList = [v] := by
              have hl2 : leaf1 a = true := by
                cases a with
                | agg cs => simp [isAggV] at hag
                | _ => simpa [cellsOf] using hl1
              have := cells_one (leaf1_one ha hl2)
              rw [this]
            rw [hc1] at hlv
            exact single_VR hlv

theorem place_get {ns : List Nat} {n j : Nat} (h : place ns n = some j) : ns[j]? = some n := by
  unfold place at h
  simp only at h
  split at h
  · rename_i hlt
    cases h
    rw [List.getElem?_eq_getElem hlt]
    have := List.findIdx_getElem (w := hlt)
    simpa using this
  · cases h

theorem placeOk_at {ns : List Nat} : ∀ (l : List Nat) (k : Nat), placeOk ns k l = true → ∀ j n, l[j]? = some n → place ns n = some (k + j)
  | [], k, h, j, n, hj => by simp at hj
  | m :: l, k, h, 0, n, hj => by
    simp at hj; subst hj
    simp only [placeOk, Bool.and_eq_true, beq_iff_eq] at h
    exact h.1
  | m :: l, k, h, j + 1, n, hj => by
    simp only [placeOk, Bool.and_eq_true, beq_iff_eq] at h
    have := placeOk_at l (k + 1) h.2 j n (by simpa using hj)
    rw [this]; congr 1; omega

theorem objsAt_some {R : Type} {o : Objs} {f : Nat → Option Nat} : ∀ (ns : List Nat) (κ : List Obj → Option R) (r : R), objsAt o f ns κ = some r → ∃ xs, κ xs = some r ∧ xs.length = ns.length ∧ ∀ (j n : Nat), ns[j]? = some n → ∃ x, o n = some x ∧ xs[j]? = some (renO f x)
  | [], κ, r, h => ⟨[], h, rfl, fun j n hj => by simp at hj⟩
  | n :: ns, κ, r, h => by
    unfold objsAt at h
    split at h
    case h_2 => cases h
    rename_i x hx
    obtain ⟨xs, hk, hl, hat⟩ := objsAt_some ns _ r h
    refine ⟨_, hk, by simp [hl], fun j m hj => ?_⟩
    cases j with
    | zero => simp at hj; subst hj; exact ⟨x, hx, rfl⟩
    | succ j => simpa using hat j m (by simpa using hj)

theorem setAll_no (f : Nat → Option Nat) (n : Nat) : ∀ (xs : List Obj) (k : Nat) (o : Objs), (∀ j, j < xs.length → f (k + j) ≠ some n) → setAll f k xs o n = o n
  | [], k, o, h => rfl
  | x :: xs, k, o, h => by
    unfold setAll
    have h0 := h 0 (by simp)
    have hr : ∀ j, j < xs.length → f (k + 1 + j) ≠ some n := fun j hj => by have := h (j + 1) (by simp; omega); rw [show k + 1 + j = k + (j + 1) from by omega]; exact this
    cases hm : f k with
    | some m =>
      simp only
      rw [setAll_no f n xs (k + 1) _ hr]
      unfold upd
      rw [if_neg]
      intro e; subst e; exact h0 (by simpa using hm)
    | none => exact setAll_no f n xs (k + 1) o hr

theorem setAll_at (f : Nat → Option Nat) (n : Nat) : ∀ (xs : List Obj) (k : Nat) (o : Objs) (j : Nat) (x : Obj), xs[j]? = some x → f (k + j) = some n → (∀ i, i < xs.length → i ≠ j → f (k + i) ≠ some n) → setAll f k xs o n = some (renO f x)
  | [], k, o, j, x, hx, hf, h => by simp at hx
  | y :: xs, k, o, 0, x, hx, hf, h => by
    simp at hx; subst hx
    unfold setAll
    rw [show k + 0 = k from rfl] at hf
    simp only [hf]
    rw [setAll_no f n xs (k + 1) _ (fun j hj => by have := h (j + 1) (by simp; omega) (by omega); rw [show k + 1 + j = k + (j + 1) from by omega]; exact this)]
    simp [upd]
  | y :: xs, k, o, j + 1, x, hx, hf, h => by
    unfold setAll
    have hr := fun o' => setAll_at f n xs (k + 1) o' j x (by simpa using hx) (by rw [show k + 1 + j = k + (j + 1) from by omega]; exact hf) (fun i hi hne => by have := h (i + 1) (by simp; omega) (by omega); rw [show k + 1 + i = k + (i + 1) from by omega]; exact this)
    cases hm : f k with
    | some m => exact hr _
    | none => exact hr _

theorem freeK_at {o : Objs} {dst : Nat} : ∀ (k : Nat), freeK o dst k = true → ∀ i, i < k → o (nm dst i) = none
  | 0, h, i, hi => by omega
  | k + 1, h, i, hi => by
    simp only [freeK, Bool.and_eq_true, Option.isNone_iff_eq_none] at h
    by_cases e : i = k
    · subst e; exact h.1
    · exact freeK_at k h.2 i (by omega)
end Go.Den
