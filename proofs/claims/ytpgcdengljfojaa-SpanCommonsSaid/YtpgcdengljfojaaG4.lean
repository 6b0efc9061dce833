import Derived.Test.YtpgcdengljfojaaG3
set_option linter.unusedVariables false
set_option linter.unusedSimpArgs false
namespace Go.Proofs.Ytpgcdengljfojaa
open Go.Den
theorem inL.loop (fuel : Nat) (l : List (Int × Int)) (m : Int) (hl : l.length < 1099511627776) : ∀ (k i : Nat), i ≤ l.length → l.length - i < k → inL.l2 fuel l m k (i : Int) = some (inGo (l.drop i) m) := by
  intro k
  induction k with
  | zero => intro i hi hk; omega
  | succ k ih =>
    intro i hi hk
    unfold inL.l2 inL.b2
    by_cases hlt : i < l.length
    · have e1 : (decide ((i : Int) < (l.length : Int))) = true := by simp; omega
      rw [if_pos e1, idx_at, List.getElem?_eq_getElem hlt]
      simp only
      rw [wrap_small _ (by omega) (by omega)]
      rw [List.drop_eq_getElem_cons hlt]
      unfold inGo
      rw [show ((i : Int) + 1) = ((i + 1 : Nat) : Int) from by omega, ih (i + 1) (by omega) (by omega)]
      cases okS l[i].1 l[i].2 <;> cases decide (m < l[i].1) <;> cases decide (m > l[i].2) <;> rfl
    · have e1 : ¬ (decide ((i : Int) < (l.length : Int))) = true := by simp; omega
      rw [if_neg e1]
      have : l.drop i = [] := List.drop_of_length_le (by omega)
      rw [this]
      unfold inGo
      cases decide (m ≥ 1) <;> rfl
theorem inL.pure (l : List (Int × Int)) (m : Int) (hl : l.length < 1099511627776) : inL.f (l.length + 1) l m = some (inGo l m) := by
  unfold inL.f inL.b
  have := inL.loop (l.length + 1) l m hl (l.length + 1) 0 (by omega) (by omega)
  simpa using this
def indexGo : List (Int × Int) → Int → Int → Nat → Int
  | [], _, _, _ => -1
  | y :: l, a, b, k => if (y == (a, b)) = true then (k : Int) else indexGo l a b (k + 1)
theorem indexGo_eq : ∀ (l : List (Int × Int)) (a b : Int) (k : Nat), indexGo l a b k = (match l.findIdx? (fun y => y == (a, b)) with | some i => ((i + k : Nat) : Int) | none => -1)
  | [], a, b, k => rfl
  | y :: l, a, b, k => by
    unfold indexGo
    rw [List.findIdx?_cons]
    split
    · simp
    · rw [indexGo_eq l a b (k + 1)]
      cases l.findIdx? (fun y => y == (a, b)) with
      | none => rfl
      | some i =>
        show ((i + (k + 1) : Nat) : Int) = (((i + 1) + k : Nat) : Int)
        congr 1; omega
theorem Index.loop (fuel : Nat) (l : List (Int × Int)) (a b : Int) (hl : l.length < 1099511627776) : ∀ (k i : Nat), i ≤ l.length → l.length - i < k → Index.l2 fuel l a b k (l.length : Int) (i : Int) = some (indexGo (l.drop i) a b i) := by
  intro k
  induction k with
  | zero => intro i hi hk; omega
  | succ k ih =>
    intro i hi hk
    unfold Index.l2 Index.b2
    by_cases hlt : i < l.length
    · have e1 : (decide ((i : Int) < (l.length : Int))) = true := by simp; omega
      rw [if_pos e1, idx_at, List.getElem?_eq_getElem hlt]
      simp only
      rw [wrap_small _ (by omega) (by omega)]
      rw [List.drop_eq_getElem_cons hlt]
      unfold indexGo
      rw [show ((i : Int) + 1) = ((i + 1 : Nat) : Int) from by omega, ih (i + 1) (by omega) (by omega)]
      have e : (if (a == l[i].1) = true then (if (b == l[i].2) = true then true else false) else false) = (l[i] == (a, b)) := by
        have h1 : (l[i] == (a, b)) = ((l[i].1 == a) && (l[i].2 == b)) := rfl
        rw [h1, show (a == l[i].1) = (l[i].1 == a) from BEq.comm, show (b == l[i].2) = (l[i].2 == b) from BEq.comm]
        cases (l[i].1 == a) <;> cases (l[i].2 == b) <;> rfl
      rw [e]
      cases (l[i] == (a, b)) <;> rfl
    · have e1 : ¬ (decide ((i : Int) < (l.length : Int))) = true := by simp; omega
      rw [if_neg e1]
      have : l.drop i = [] := List.drop_of_length_le (by omega)
      rw [this]
      rfl
theorem Index.pure (l : List (Int × Int)) (a b : Int) (hl : l.length < 1099511627776) : Index.f (l.length + 1) l a b = some (indexF l a b) := by
  unfold Index.f Index.b
  have := Index.loop (l.length + 1) l a b hl (l.length + 1) 0 (by omega) (by omega)
  have h2 : indexGo l a b 0 = indexF l a b := by rw [indexGo_eq]; rfl
  rw [← h2]
  simpa using this
theorem Contains.pure (l : List (Int × Int)) (a b : Int) (hl : l.length < 1099511627776) : Contains.f 0 l a b = some (decide (indexF l a b ≥ 0)) := by
  unfold Contains.f Contains.b
  rw [if_pos hl]
theorem s15_det : SumDet s15 := fun avs objs R κ => by
  show s15.run avs objs (two κ) = (s15.run avs objs (two some)).bind κ
  unfold s15
  simp only
  split
  · first | rfl | (split <;> rfl)
  · rfl
theorem s15_ok : SumOk Try.prog 15 s15 := by
  have hE : EnvOk Try.prog inL_E := env_ok (l := [(19, s19)]) th_ok any_ok ⟨⟨s19_ok, s19_det⟩, trivial⟩ _
  refine sum_ok hE Try.func15 rfl (by kernel_rfl) s15 [.raw] inL.k ?_
  intro R avs objs κ r h
  unfold s15 at h
  simp only at h
  split at h
  · rename_i l m
    split at h
    case isFalse => cases h
    rename_i hl
    refine ⟨l.length + 1, _, _, _, (inL.eq (l.length + 1) l m).trans (inL.pure l m hl), ?_, h⟩
    intro rs ros hk
    unfold inL.k at hk
    split at hk
    · first | (cases hk; exact ⟨rfl, rfl⟩) | (have e := Option.some.inj hk; rw [← e]; exact ⟨rfl, rfl⟩)
    · cases hk
  · cases h
theorem s44_det : SumDet s44 := fun avs objs R κ => by
  show s44.run avs objs (two κ) = (s44.run avs objs (two some)).bind κ
  unfold s44
  simp only
  split
  · first | rfl | (split <;> rfl)
  · rfl
theorem s44_ok : SumOk Try.prog 44 s44 := by
  have hE : EnvOk Try.prog Index_E := env_ok (l := []) th_ok any_ok trivial _
  refine sum_ok hE Try.func44 rfl (by kernel_rfl) s44 [.raw] Index.k ?_
  intro R avs objs κ r h
  unfold s44 at h
  simp only at h
  split at h
  · rename_i l a b
    split at h
    case isFalse => cases h
    rename_i hl
    refine ⟨l.length + 1, _, _, _, (Index.eq (l.length + 1) l a b).trans (Index.pure l a b hl), ?_, h⟩
    intro rs ros hk
    unfold Index.k at hk
    split at hk
    · first | (cases hk; exact ⟨rfl, rfl⟩) | (have e := Option.some.inj hk; rw [← e]; exact ⟨rfl, rfl⟩)
    · cases hk
  · cases h
theorem s36_det : SumDet s36 := fun avs objs R κ => by
  show s36.run avs objs (two κ) = (s36.run avs objs (two some)).bind κ
  unfold s36
  simp only
  split
  · first | rfl | (split <;> rfl)
  · rfl
theorem s36_ok : SumOk Try.prog 36 s36 := by
  have hE : EnvOk Try.prog Contains_E := env_ok (l := [(44, s44)]) th_ok any_ok ⟨⟨s44_ok, s44_det⟩, trivial⟩ _
  refine sum_ok hE Try.func36 rfl (by kernel_rfl) s36 [.raw] Contains.k ?_
  intro R avs objs κ r h
  unfold s36 at h
  simp only at h
  split at h
  · rename_i l a b
    split at h
    case isFalse => cases h
    rename_i hl
    refine ⟨0, _, _, _, (Contains.eq (0) l a b).trans (Contains.pure l a b hl), ?_, h⟩
    intro rs ros hk
    unfold Contains.k at hk
    split at hk
    · first | (cases hk; exact ⟨rfl, rfl⟩) | (have e := Option.some.inj hk; rw [← e]; exact ⟨rfl, rfl⟩)
    · cases hk
  · cases h
end Go.Proofs.Ytpgcdengljfojaa
