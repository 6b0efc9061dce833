import Derived.Test.YtlmljpmohljefaaK3
set_option linter.unusedVariables false
namespace Go.Proofs.Ytlmljpmohljefaa
open Go.Den
theorem s_write_det : SumDet s_write := fun avs objs R κ => by
  show s_write.run avs objs (two κ) = (s_write.run avs objs (two some)).bind κ
  unfold s_write
  simp only
  split
  · first | rfl | (split <;> rfl)
  · rfl
theorem s_write_ok : SumOk Try.prog 42 s_write := by
  have hE : EnvOk Try.prog OWrite_E := env_ok (l := []) th_ok any_ok trivial _
  refine sum_ok hE Try.func42 rfl (by kernel_rfl) s_write [.raw] OWrite.k ?_
  intro R avs objs κ r h
  unfold s_write at h
  simp only at h
  split at h
  · skip
    refine ⟨0, _, _, _, (OWrite.eq (0) ()).trans (rfl), ?_, h⟩
    intro rs ros hk
    unfold OWrite.k at hk
    split at hk
    · first | (cases hk; exact ⟨rfl, rfl⟩) | (have e := Option.some.inj hk; rw [← e]; exact ⟨rfl, rfl⟩)
    · cases hk
  · cases h
theorem s_bytes_det : SumDet s_bytes := fun avs objs R κ => by
  show s_bytes.run avs objs (two κ) = (s_bytes.run avs objs (two some)).bind κ
  unfold s_bytes
  simp only
  split
  · first | rfl | (split <;> rfl)
  · rfl
theorem s_bytes_ok : SumOk Try.prog 46 s_bytes := by
  have hE : EnvOk Try.prog OBytes_E := env_ok (l := []) th_ok any_ok trivial _
  refine sum_ok hE Try.func46 rfl (by kernel_rfl) s_bytes [.dat (.sl (.int .u8)) false, .raw] OBytes.k ?_
  intro R avs objs κ r h
  unfold s_bytes at h
  simp only at h
  split at h
  · rename_i l
    split at h
    case isFalse => cases h
    rename_i hl
    refine ⟨0, _, _, _, (OBytes.eq (0) l).trans (OBytes.pure l hl), ?_, h⟩
    intro rs ros hk
    unfold OBytes.k at hk
    split at hk
    · first | (cases hk; exact ⟨rfl, rfl⟩) | (have e := Option.some.inj hk; rw [← e]; exact ⟨rfl, rfl⟩)
    · cases hk
  · cases h
theorem s_put_det : SumDet s_put := fun avs objs R κ => by
  show s_put.run avs objs (two κ) = (s_put.run avs objs (two some)).bind κ
  unfold s_put
  simp only
  split
  · first | rfl | (split <;> rfl)
  · rfl
theorem s_put_ok : SumOk Try.prog 53 s_put := by
  have hE : EnvOk Try.prog Put11_E := env_ok (l := []) th_ok any_ok trivial _
  refine sum_ok hE Try.func53 rfl (by kernel_rfl) s_put [.own 5 (.int .u8)] Put11.k ?_
  intro R avs objs κ r h
  unfold s_put at h
  simp only at h
  split at h
  · rename_i n v l
    split at h
    case isFalse => cases h
    rename_i hl
    refine ⟨9, _, _, _, (Put11.eq (9) n v l).trans (Put11.pure n v l hl.1 hl.2), ?_, h⟩
    intro rs ros hk
    unfold Put11.k at hk
    split at hk
    · first | (cases hk; exact ⟨rfl, rfl⟩) | (have e := Option.some.inj hk; rw [← e]; exact ⟨rfl, rfl⟩)
    · cases hk
  · cases h
theorem s_num_det : SumDet s_num := fun avs objs R κ => by
  show s_num.run avs objs (two κ) = (s_num.run avs objs (two some)).bind κ
  unfold s_num
  simp only
  split
  · split <;> rfl
  · split <;> rfl
  · rfl
theorem s_num_ok : SumOk Try.prog 43 s_num := by
  have hN : EnvOk Try.prog NumN_E := env_ok (l := [(82, s_ofits)]) th_ok any_ok ⟨⟨s_ofits_ok, s_ofits_det⟩, trivial⟩ _
  have hR : EnvOk Try.prog NumR_E := env_ok (l := [(82, s_ofits)]) th_ok any_ok ⟨⟨s_ofits_ok, s_ofits_det⟩, trivial⟩ _
  refine sum_of hN (drawOk hN) Try.func43 rfl (by kernel_rfl) s_num [.raw] ?_
  intro R avs objs κ r h
  unfold s_num at h
  simp only at h
  split at h
  · rename_i n v
    split at h
    case isFalse => cases h
    rename_i hl
    refine ⟨9, ?_⟩
    rw [denF_any hN.D ((NumN.eq 9 n v).trans (NumN.pure n v hl)) (out := [.ptr 0 0]) (os := [.box [.row 1, .d .bool false], .row 5 (.int .u8) (be n.toNat v) false]) (fun rs ros hk => by
      unfold NumN.k at hk
      split at hk
      · have e := Option.some.inj hk; cases e; exact ⟨rfl, rfl⟩
      · cases hk)]
    exact h
  · rename_i n v l
    split at h
    case isFalse => cases h
    rename_i hl
    refine ⟨9, ?_⟩
    have := denF_any hR.D ((NumR.eq 9 n v l).trans (NumR.pure n v l hl.1 hl.2)) (out := [.ptr 0 0]) (os := [.box [.row 2, .d .bool false], .gone, .row 5 (.int .u8) (l ++ be n.toNat v) false]) (fun rs ros hk => by
      unfold NumR.k at hk
      split at hk
      · have e := Option.some.inj hk; cases e; exact ⟨rfl, rfl⟩
      · cases hk) κ
    exact this.trans h
  · cases h
end Go.Proofs.Ytlmljpmohljefaa
