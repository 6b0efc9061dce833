import Derived.Test.YtpgcdengljfojaaF2
import Derived.Laws.BitsLemmas
set_option linter.unusedVariables false
set_option linter.unusedSimpArgs false
namespace Go.Proofs.Ytpgcdengljfojaa
open Go.Den

theorem wrap_small (n : Int) (h0 : -9223372036854775808 ≤ n) (h1 : n < 9223372036854775808) : Go.IntKind.wrap .i64 n = n := by
  rw [Go.IntKind.wrap_i64]; omega

theorem idx_at {α : Type} (l : List α) (i : Nat) : idx l (i : Int) = l[i]? := by
  unfold idx
  rw [if_pos (by omega)]
  simp

theorem s18_det : SumDet s18 := fun avs objs R κ => by
  show s18.run avs objs (two κ) = (s18.run avs objs (two some)).bind κ
  unfold s18
  simp only
  split
  · split <;> rfl
  · rfl

theorem Common.loop (fuel : Nat) (l : List (Int × Int)) (hl : l.length < 1099511627776) : ∀ (k i : Nat) (a b : Int), i ≤ l.length → l.length - i < k → Common.l3 fuel l k (l.length : Int) (i : Int) a b = some (commonGo (l.drop i) a b) := by
  intro k
  induction k with
  | zero => intro i a b hi hk; omega
  | succ k ih =>
    intro i a b hi hk
    unfold Common.l3 Common.b3
    by_cases hlt : i < l.length
    · have e1 : (decide ((i : Int) < (l.length : Int))) = true := by simp; omega
      rw [if_pos e1, idx_at, List.getElem?_eq_getElem hlt]
      simp only
      rw [wrap_small _ (by omega) (by omega)]
      rw [List.drop_eq_getElem_cons hlt]
      unfold commonGo
      have e : (decide (1 ≤ (l[i]).1) && decide ((l[i]).1 ≤ (l[i]).2) && decide ((l[i]).2 ≤ 3)) = okS l[i].1 l[i].2 := rfl
      rw [e]
      cases okS l[i].1 l[i].2
      · rfl
      · simp only [Bool.not_true, Bool.false_eq_true, if_false]
        rw [show ((i : Int) + 1) = ((i + 1 : Nat) : Int) from by omega]
        exact ih (i + 1) _ _ (by omega) (by omega)
    · have e1 : ¬ (decide ((i : Int) < (l.length : Int))) = true := by simp; omega
      rw [if_neg e1]
      have : l.drop i = [] := List.drop_of_length_le (by omega)
      rw [this]
      unfold commonGo
      have e : (decide (1 ≤ a) && decide (a ≤ b) && decide (b ≤ 3)) = okS a b := rfl
      rw [e]
      cases okS a b <;> rfl

theorem Common.pure (l : List (Int × Int)) (hl : l.length < 1099511627776) : Common.f (l.length + 1) l = some (commonF l) := by
  unfold Common.f Common.b commonF
  have := Common.loop (l.length + 1) l hl (l.length + 1) 0 1 3 (by omega) (by omega)
  simpa using this

theorem s23_sums : AllSums Try.prog [(23, s23)] := ⟨⟨s23_ok, s23_det⟩, trivial⟩

theorem s18_ok : SumOk Try.prog 18 s18 := by
  have hE : EnvOk Try.prog Common_E := env_ok th_ok any_ok s23_sums _
  refine sum_ok hE Try.func18 rfl (by kernel_rfl) s18 [.dat (.pair (.int .i64) (.int .i64)) true, .raw] Common.k ?_
  intro R avs objs κ r h
  unfold s18 at h
  simp only at h
  split at h
  · rename_i l
    split at h
    case isFalse => cases h
    rename_i hl
    refine ⟨l.length + 1, _, _, _, (Common.eq (l.length + 1) l).trans (Common.pure l hl), ?_, h⟩
    intro rs ros hk
    unfold Common.k at hk
    split at hk
    · first | (cases hk; exact ⟨rfl, rfl⟩) | (have e := Option.some.inj hk; rw [← e]; exact ⟨rfl, rfl⟩)
    · cases hk
  · cases h
theorem s18_sums : AllSums Try.prog [(18, s18)] := ⟨⟨s18_ok, s18_det⟩, trivial⟩

theorem s14_det : SumDet s14 := fun avs objs R κ => by
  show s14.run avs objs (two κ) = (s14.run avs objs (two some)).bind κ
  unfold s14
  simp only
  split <;> rfl
theorem s14_ok : SumOk Try.prog 14 s14 := by
  have hE : EnvOk Try.prog Meet_E := env_ok th_ok any_ok s18_sums _
  refine sum_ok hE Try.func14 rfl (by kernel_rfl) s14 [.dat (.pair (.int .i64) (.int .i64)) true, .raw] Meet.k ?_
  intro R avs objs κ r h
  unfold s14 at h
  simp only at h
  split at h
  · rename_i a b c d
    refine ⟨0, _, _, _, (Meet.eq 0 a b c d).trans rfl, ?_, h⟩
    intro rs ros hk
    unfold Meet.k at hk
    split at hk
    · first | (cases hk; exact ⟨rfl, rfl⟩) | (have e := Option.some.inj hk; rw [← e]; exact ⟨rfl, rfl⟩)
    · cases hk
  · cases h
end Go.Proofs.Ytpgcdengljfojaa
