/- Any order: what the text's order told. -/
import Derived.Test.YtlmljpmohljefaaDraw2
set_option linter.unusedVariables false
set_option linter.unusedSimpArgs false
namespace Go.Den

def trOf (x : Nat → Rec) : Nat → List TE
  | 0 => []
  | k + 1 => if (x k).on = true then ⟨k, (x k).F, (x k).wr⟩ :: trOf x k else trOf x k

theorem trOf_mem {x : Nat → Rec} : ∀ {k j : Nat}, j < k → (x j).on = true → (⟨j, (x j).F, (x j).wr⟩ : TE) ∈ trOf x k
  | k + 1, j, h, hon => by
    unfold trOf
    by_cases e : j = k
    · subst e; rw [if_pos hon]; exact List.mem_cons_self
    · have := trOf_mem (x := x) (k := k) (j := j) (by omega) hon
      split
      · exact List.mem_cons_of_mem _ this
      · exact this
  | 0, j, h, _ => by omega

/-- what a guard's slot tells -/
def GV (v : AV) (want on : Bool) : Prop := (∃ c, v = .d .bool c ∧ on = (c == want)) ∨ (v = .tup [] ∧ on = false)

/-- a record tells what the operation did, in the text's order -/
structure RecOk (E : Env) (all : Array Oper) (x : Nat → Rec) (st0 : St) (k : Nat) : Prop where
  plain : (opAt all k).guard = none → (x k).on = true
  guard : ∀ j want, (opAt all k).guard = some (j, want) → ∃ g, (all[j]?).bind (·.dst) = some g ∧ GV (getS (stL all x st0 (fun _ => true) k).s g) want (x k).on
  off : (x k).on = false → (x k).v = .tup []
  quiet : (x k).on = true → isQ E (opAt all k).op = true → (x k).wr = false ∧ (x k).F = namesL ((opAt all k).op.operands.toList.map (rho (stL all x st0 (fun _ => true) k).s)) ∧
    ∀ (R : Type) (κ : AV → Objs → Option R), opK E (opAt all k).op ((opAt all k).dst.getD 0) (stL all x st0 (fun _ => true) k).s (stL all x st0 (fun _ => true) k).o κ = κ (x k).v (stL all x st0 (fun _ => true) k).o
  wr : (x k).on = true → isQ E (opAt all k).op = false → (x k).wr = true ∧ ∃ v, (x k).v = renV (onF (x k).F) v ∧
    ∀ (R : Type) (κ : AV → Objs → Option R), opK E (opAt all k).op ((opAt all k).dst.getD 0) (renL (onF (x k).F) (stL all x st0 (fun _ => true) k).s) (viewF (x k).F (stL all x st0 (fun _ => true) k).o) κ = κ v (x k).o'
  clash : (x k).on = true → ∀ j, j < k → (x j).on = true → ((x k).wr || (x j).wr) = true → anc (ancs all.toList) j k = false → meets (x k).F (x j).F = false

theorem stL_same {all : Array Oper} {x x' : Nat → Rec} {st0 : St} (L : Nat → Bool) : ∀ k, (∀ i, i < k → x i = x' i) → stL all x st0 L k = stL all x' st0 L k
  | 0, h => rfl
  | k + 1, h => by
    unfold stL
    rw [stL_same L k fun i hi => h i (by omega), h k (by omega)]

theorem trOf_same {x x' : Nat → Rec} : ∀ k, (∀ i, i < k → x i = x' i) → trOf x k = trOf x' k
  | 0, h => rfl
  | k + 1, h => by
    unfold trOf
    rw [trOf_same k fun i hi => h i (by omega), h k (by omega)]

theorem RecOk.same {E : Env} {all : Array Oper} {x x' : Nat → Rec} {st0 : St} {k : Nat} (h : RecOk E all x st0 k) (hx : ∀ i, i < k + 1 → x i = x' i) : RecOk E all x' st0 k := by
  have hs := stL_same (all := all) (st0 := st0) (fun _ => true) k fun i hi => hx i (by omega)
  have hk := hx k (by omega)
  obtain ⟨h1, h2, h3, h4, h5, h6⟩ := h
  rw [hs, hk] at *
  exact ⟨h1, h2, h3, h4, h5, fun hon j hj => by rw [← hx j (by omega)]; exact h6 hon j hj⟩

theorem set_same {s : List AV} {g : Nat} {v : AV} (h : getS s g = v) (hd : v ≠ .dead) : s.set g v = s := by
  apply List.ext_getElem?
  intro k
  rw [List.getElem?_set]
  split
  · rename_i e; subst e
    split
    · rename_i hlt
      unfold getS at h
      rw [List.getD_eq_getElem?_getD, List.getElem?_eq_getElem hlt] at h
      rw [List.getElem?_eq_getElem hlt]
      simp at h
      rw [h]
    · rename_i hlt
      rw [List.getElem?_eq_none (by omega)]
  · rfl

theorem clash_no {as : List Nat} {tr : List TE} {x : TE} (h : clash as tr x = false) {e : TE} (he : e ∈ tr) (hw : (x.wr || e.wr) = true) (ha : anc as e.i x.i = false) : meets x.F e.F = false := by
  unfold clash at h
  rw [List.any_eq_false] at h
  have := h e he
  simp only [hw, ha, Bool.not_false, Bool.true_and, Bool.not_eq_true] at this
  exact this

theorem extract {R : Type} {E : Env} (hE : GDet E) {all : Array Oper} {st0 : St} {κ : St → Option R} {r : R} : ∀ (rest : List Oper) (k : Nat) (x : Nat → Rec), all.toList.drop k = rest →
    denD E all (ancs all.toList) k rest (stL all x st0 (fun _ => true) k) (trOf x k) κ = some r →
    ∃ x', (∀ i, i < k → x i = x' i) ∧ κ (stL all x' st0 (fun _ => true) (k + rest.length)) = some r ∧ ∀ i, k ≤ i → i < k + rest.length → RecOk E all x' st0 i
  | [], k, x, hr, h => ⟨x, fun _ _ => rfl, h, fun i h1 h2 => by simp at h2; omega⟩
  | op :: rest, k, x, hr, h => by
    have hop : all.toList[k]? = some op := by
      have : (all.toList.drop k)[0]? = some op := by rw [hr]; rfl
      simpa using this
    have hopk : opAt all k = op := opAt_some (by simpa using hop)
    have hr' : all.toList.drop (k + 1) = rest := by
      rw [← List.drop_drop, hr]; simp
    generalize hst : stL all x st0 (fun _ => true) k = st at h
    -- one record more
    have more : ∀ (X : Rec) (st' : St) (tr' : List TE), st' = app op X st → tr' = (if X.on = true then ⟨k, X.F, X.wr⟩ :: trOf x k else trOf x k) →
        denD E all (ancs all.toList) (k + 1) rest st' tr' κ = some r → RecOk E all (fun i => if i = k then X else x i) st0 k →
        ∃ x', (∀ i, i < k → x i = x' i) ∧ κ (stL all x' st0 (fun _ => true) (k + (op :: rest).length)) = some r ∧ ∀ i, k ≤ i → i < k + (op :: rest).length → RecOk E all x' st0 i := by
      intro X st' tr' e1 e2 hk hok
      let x1 : Nat → Rec := fun i => if i = k then X else x i
      have hx1 : ∀ i, i < k → x i = x1 i := fun i hi => by simp only [x1]; rw [if_neg (by omega)]
      have hx1k : x1 k = X := by simp [x1]
      have hs1 : stL all x1 st0 (fun _ => true) (k + 1) = st' := by
        unfold stL
        rw [if_pos rfl, hx1k, hopk, ← stL_same (fun _ => true) k hx1, hst, e1]
      have ht1 : trOf x1 (k + 1) = tr' := by
        unfold trOf
        rw [hx1k, ← trOf_same k hx1, e2]
      obtain ⟨x', h1, h2, h3⟩ := extract hE rest (k + 1) x1 hr' (by rw [hs1, ht1]; exact hk)
      refine ⟨x', fun i hi => (hx1 i hi).trans (h1 i (by omega)), ?_, fun i hi hlt => ?_⟩
      · rw [show k + (op :: rest).length = k + 1 + rest.length from by simp; omega]; exact h2
      · by_cases e : i = k
        · subst e; exact hok.same h1
        · exact h3 i (by omega) (by simp at hlt; omega)
    have hsame : ∀ X : Rec, stL all (fun i => if i = k then X else x i) st0 (fun _ => true) k = st := fun X => by
      rw [← hst]; exact (stL_same _ k fun i hi => by rw [if_neg (by omega)]).symm
    have hat : ∀ X : Rec, (fun i => if i = k then X else x i) k = X := fun X => by simp
    have hlow : ∀ (X : Rec) (j : Nat), j < k → (fun i => if i = k then X else x i) j = x j := fun X j hj => by simp [show j ≠ k from by omega]
    -- what runs
    have go : (∀ X : Rec, X.on = true → (op.guard = none → X.on = true) ∧ ∀ j want, op.guard = some (j, want) → ∃ g, (all[j]?).bind (·.dst) = some g ∧ GV (getS st.s g) want X.on) →
        (if isQ E op.op = true then
          (if clash (ancs all.toList) (trOf x k) ⟨k, namesL (op.op.operands.toList.map (rho st.s)), false⟩ = false then opK E op.op (op.dst.getD 0) st.s st.o fun v _ => denD E all (ancs all.toList) (k + 1) rest ⟨putS st.s op.dst v, st.o, st.m⟩ (⟨k, namesL (op.op.operands.toList.map (rho st.s)), false⟩ :: trOf x k) κ else none)
        else
          (if clash (ancs all.toList) (trOf x k) ⟨k, footW op.op (op.dst.getD 0) st.s st.o, true⟩ = false then opV E (footW op.op (op.dst.getD 0) st.s st.o) op.op (op.dst.getD 0) st.s st.o fun v o => denD E all (ancs all.toList) (k + 1) rest ⟨putS st.s op.dst v, o, st.m⟩ (⟨k, footW op.op (op.dst.getD 0) st.s st.o, true⟩ :: trOf x k) κ else none)) = some r →
        ∃ x', (∀ i, i < k → x i = x' i) ∧ κ (stL all x' st0 (fun _ => true) (k + (op :: rest).length)) = some r ∧ ∀ i, k ≤ i → i < k + (op :: rest).length → RecOk E all x' st0 i := by
      intro hg hrun
      split at hrun
      · rename_i hq
        split at hrun
        case isFalse => cases hrun
        rename_i hcl
        obtain ⟨⟨v, o1⟩, hk, hall⟩ := (opK_det hE op.op (op.dst.getD 0) st.s st.o).cases (κ := fun p => denD E all (ancs all.toList) (k + 1) rest ⟨putS st.s op.dst p.1, st.o, st.m⟩ (⟨k, namesL (op.op.operands.toList.map (rho st.s)), false⟩ :: trOf x k) κ) hrun
        let X : Rec := ⟨true, false, namesL (op.op.operands.toList.map (rho st.s)), v, st.o⟩
        refine more X _ _ ?_ ?_ hk ?_
        · simp [app, X]
        · simp [X]
        · constructor
          · intro _; simp only [hat]; rfl
          · intro j want hgd
            rw [hopk] at hgd
            obtain ⟨g, h1, h2⟩ := (hg X rfl).2 j want hgd
            exact ⟨g, h1, by rw [hsame]; simp only [hat]; exact h2⟩
          · intro hoff; simp [X] at hoff
          · intro _ _
            simp only [hsame, hat, hopk]
            refine ⟨rfl, rfl, fun R' κ' => ?_⟩
            rw [opQ_same E op.op hq]
            exact hall R' fun p => κ' p.1 st.o
          · intro _ hnq; rw [hopk, hq] at hnq; cases hnq
          · intro _ j hj hon hw ha
            simp only [hat, hlow X j hj] at hon hw ⊢
            exact clash_no hcl (trOf_mem hj hon) hw ha
      · rename_i hq
        split at hrun
        case isFalse => cases hrun
        rename_i hcl
        obtain ⟨⟨v, o1⟩, hk, hall⟩ := (opK_det hE op.op (op.dst.getD 0) (renL (onF (footW op.op (op.dst.getD 0) st.s st.o)) st.s) (viewF (footW op.op (op.dst.getD 0) st.s st.o) st.o)).cases
          (κ := fun p => denD E all (ancs all.toList) (k + 1) rest ⟨putS st.s op.dst (renV (onF (footW op.op (op.dst.getD 0) st.s st.o)) p.1), overF (footW op.op (op.dst.getD 0) st.s st.o) (viewF (footW op.op (op.dst.getD 0) st.s st.o) p.2) st.o, st.m⟩ (⟨k, footW op.op (op.dst.getD 0) st.s st.o, true⟩ :: trOf x k) κ) hrun
        let X : Rec := ⟨true, true, footW op.op (op.dst.getD 0) st.s st.o, renV (onF (footW op.op (op.dst.getD 0) st.s st.o)) v, o1⟩
        refine more X _ _ ?_ ?_ hk ?_
        · simp [app, X]
        · simp [X]
        · constructor
          · intro _; simp only [hat]; rfl
          · intro j want hgd
            rw [hopk] at hgd
            obtain ⟨g, h1, h2⟩ := (hg X rfl).2 j want hgd
            exact ⟨g, h1, by rw [hsame]; simp only [hat]; exact h2⟩
          · intro hoff; simp [X] at hoff
          · intro _ hq'; rw [hopk] at hq'; exact absurd hq' hq
          · intro _ _
            simp only [hsame, hat, hopk]
            exact ⟨rfl, v, rfl, fun R' κ' => hall R' fun p => κ' p.1 p.2⟩
          · intro _ j hj hon hw ha
            simp only [hat, hlow X j hj] at hon hw ⊢
            exact clash_no hcl (trOf_mem hj hon) hw ha
    have no : (∀ j want, op.guard = some (j, want) → ∃ g, (all[j]?).bind (·.dst) = some g ∧ GV (getS st.s g) want false) → op.guard ≠ none →
        denD E all (ancs all.toList) (k + 1) rest ⟨putS st.s op.dst (.tup []), st.o, st.m⟩ (trOf x k) κ = some r →
        ∃ x', (∀ i, i < k → x i = x' i) ∧ κ (stL all x' st0 (fun _ => true) (k + (op :: rest).length)) = some r ∧ ∀ i, k ≤ i → i < k + (op :: rest).length → RecOk E all x' st0 i := by
      intro hg hgn hrun
      let X : Rec := ⟨false, false, [], .tup [], st.o⟩
      refine more X _ _ ?_ ?_ hrun ?_
      · simp [app, X]
      · simp [X]
      · constructor
        · intro hgd; rw [hopk] at hgd; exact absurd hgd hgn
        · intro j want hgd
          rw [hopk] at hgd
          obtain ⟨g, h1, h2⟩ := hg j want hgd
          exact ⟨g, h1, by rw [hsame]; simp only [hat]; exact h2⟩
        · intro _; simp [hat, X]
        · intro hon; simp [X] at hon
        · intro hon; simp [X] at hon
        · intro hon; simp [X] at hon
    unfold denD at h
    simp only at h
    split at h
    · rename_i hgd
      exact go (fun X hX => ⟨fun _ => hX, fun j want hh => by rw [hgd] at hh; cases hh⟩) h
    · rename_i j want hgd
      split at h
      case h_2 => cases h
      rename_i g hg
      split at h
      case h_3 => cases h
      case h_2 =>
        rename_i hc
        exact no (fun j' want' hh => by rw [hgd] at hh; cases hh; exact ⟨g, hg, .inr ⟨hc, rfl⟩⟩) (by rw [hgd]; simp) h
      rename_i c hc
      have hgood : ∀ (b : Bool), b = (c == want) → ∀ j' want', op.guard = some (j', want') → ∃ g, (all[j']?).bind (·.dst) = some g ∧ GV (getS st.s g) want' b := by
        intro b hb j' want' hh
        rw [hgd] at hh
        cases hh
        exact ⟨g, hg, .inl ⟨c, hc, hb⟩⟩
      have hset : st.s.set g (.d .bool c) = st.s := set_same hc (by simp)
      have hgn : op.guard ≠ none := by rw [hgd]; simp
      cases c
      · simp only [Bool.false_eq_true, if_false, hset] at h
        cases want
        · exact go (fun X hX => ⟨fun _ => hX, hgood X.on (by rw [hX]; rfl)⟩) (by simpa using h)
        · exact no (hgood false rfl) hgn (by simpa using h)
      · simp only [if_true, hset] at h
        cases want
        · exact no (hgood false rfl) hgn (by simpa using h)
        · exact go (fun X hX => ⟨fun _ => hX, hgood X.on (by rw [hX]; rfl)⟩) (by simpa using h)
end Go.Den
