import Derived.Test.YtpgcdengljfojaaG4
set_option linter.unusedVariables false
set_option linter.unusedSimpArgs false
namespace Go.Proofs.Ytpgcdengljfojaa
open Go.Den
theorem byte_wrap (b : UInt8) : Go.IntKind.wrap .i64 ((b.toNat : Nat) : Int) = (b.toNat : Int) := by
  have := b.toNat_lt
  exact wrap_small _ (by omega) (by omega)
theorem Parse.pure (s : ByteArray) : Parse.f 0 s = some (parseF s) := by
  unfold Parse.f Parse.b parseF
  by_cases h3 : s.size = 3
  · have hl : s.data.toList.length = 3 := by simpa using h3
    obtain ⟨x, y, z, hxyz⟩ : ∃ x y z, s.data.toList = [x, y, z] := by
      match hd : s.data.toList, hl with
      | [x, y, z], _ => exact ⟨x, y, z, rfl⟩
    have e0 : ((((s.size : Nat) : Int) != (3 : Int)) = true) = False := by simp [h3]
    rw [if_neg (by simp [h3]), if_neg (by omega)]
    simp only [digF, hxyz]
    have i0 : idx [x, y, z] (0 : Int) = some x := rfl
    have i1 : idx [x, y, z] (1 : Int) = some y := rfl
    have i2 : idx [x, y, z] (2 : Int) = some z := rfl
    rw [i0, i1, i2]
    simp only [List.getD_cons_zero, List.getD_cons_succ, byte_wrap]
    have hx := x.toNat_lt
    have hz := z.toNat_lt
    rw [wrap_small ((x.toNat : Int) - 48) (by omega) (by omega), wrap_small ((z.toNat : Int) - 48) (by omega) (by omega)]
    by_cases hy : y.toNat = 45
    · have c1 : ¬ ((((y.toNat : Nat) : Int) != (45 : Int)) = true) := by simp [hy]
      have c2 : ¬ (y.toNat ≠ 45) := by simp [hy]
      rw [if_neg c1, if_neg c2]
      by_cases hi : indexF allF ((x.toNat : Int) - 48) ((z.toNat : Int) - 48) < 0
      · have c3 : (!decide (indexF allF ((x.toNat : Int) - 48) ((z.toNat : Int) - 48) ≥ (0 : Int))) = true := by simp; omega
        rw [if_pos c3, if_pos hi]
      · have c3 : ¬ ((!decide (indexF allF ((x.toNat : Int) - 48) ((z.toNat : Int) - 48) ≥ (0 : Int))) = true) := by simp; omega
        rw [if_neg c3, if_neg hi]
    · have c1 : (((y.toNat : Nat) : Int) != (45 : Int)) = true := by simp; omega
      rw [if_pos c1, if_pos hy]
  · rw [if_pos (by simp; omega), if_pos h3]
theorem s20_det : SumDet s20 := fun avs objs R κ => by
  show s20.run avs objs (two κ) = (s20.run avs objs (two some)).bind κ
  unfold s20
  simp only
  split
  · first | rfl | (split <;> rfl)
  · rfl
theorem s20_ok : SumOk Try.prog 20 s20 := by
  have hE : EnvOk Try.prog Parse_E := env_ok (l := [(22, s22), (36, s36)]) th_ok any_ok ⟨⟨s22_ok, s22_det⟩, ⟨s36_ok, s36_det⟩, trivial⟩ _
  refine sum_ok hE Try.func20 rfl (by kernel_rfl) s20 [.dat (.pair (.int .i64) (.int .i64)) true, .raw] Parse.k ?_
  intro R avs objs κ r h
  unfold s20 at h
  simp only at h
  split at h
  · rename_i s
    refine ⟨0, _, _, _, (Parse.eq (0) s).trans (Parse.pure s), ?_, h⟩
    intro rs ros hk
    unfold Parse.k at hk
    split at hk
    · first | (cases hk; exact ⟨rfl, rfl⟩) | (have e := Option.some.inj hk; rw [← e]; exact ⟨rfl, rfl⟩)
    · cases hk
  · cases h
theorem awake5.pure : awake5.f 0 () = some true := by kernel_rfl
theorem s17_det : SumDet s17 := fun avs objs R κ => by
  show s17.run avs objs (two κ) = (s17.run avs objs (two some)).bind κ
  unfold s17
  simp only
  split
  · first | rfl | (split <;> rfl)
  · rfl
theorem s17_ok : SumOk Try.prog 17 s17 := by
  have hE : EnvOk Try.prog awake5_E := env_ok (l := [(14, s14), (20, s20), (25, s25)]) th_ok any_ok ⟨⟨s14_ok, s14_det⟩, ⟨s20_ok, s20_det⟩, ⟨s25_ok, s25_det⟩, trivial⟩ _
  refine sum_ok hE Try.func17 rfl (by kernel_rfl) s17 [.raw] awake5.k ?_
  intro R avs objs κ r h
  unfold s17 at h
  simp only at h
  split at h
  · skip
    refine ⟨0, _, _, _, (awake5.eq (0) ()).trans (awake5.pure), ?_, h⟩
    intro rs ros hk
    unfold awake5.k at hk
    split at hk
    · first | (cases hk; exact ⟨rfl, rfl⟩) | (have e := Option.some.inj hk; rw [← e]; exact ⟨rfl, rfl⟩)
    · cases hk
  · cases h
end Go.Proofs.Ytpgcdengljfojaa
