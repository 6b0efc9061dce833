import Derived.Test.YtlmljpmohljefaaK1
set_option linter.unusedVariables false
namespace Go.Proofs.Ytlmljpmohljefaa
open Go.Den
theorem s_sv_det : SumDet s_sv := fun avs objs R κ => by
  show s_sv.run avs objs (two κ) = (s_sv.run avs objs (two some)).bind κ
  unfold s_sv
  simp only
  split
  · first | rfl | (split <;> rfl)
  · rfl
theorem s_sv_ok : SumOk Try.prog 48 s_sv := by
  have hE : EnvOk Try.prog SpanValid_E := env_ok (l := []) th_ok any_ok trivial _
  refine sum_ok hE Try.func48 rfl (by kernel_rfl) s_sv [.raw] SpanValid.k ?_
  intro R avs objs κ r h
  unfold s_sv at h
  simp only at h
  split at h
  · rename_i lo hi
    refine ⟨0, _, _, _, (SpanValid.eq (0) lo hi).trans (SpanValid.pure lo hi), ?_, h⟩
    intro rs ros hk
    unfold SpanValid.k at hk
    split at hk
    · first | (cases hk; exact ⟨rfl, rfl⟩) | (have e := Option.some.inj hk; rw [← e]; exact ⟨rfl, rfl⟩)
    · cases hk
  · cases h
theorem s_code_det : SumDet s_code := fun avs objs R κ => by
  show s_code.run avs objs (two κ) = (s_code.run avs objs (two some)).bind κ
  unfold s_code
  simp only
  split
  · first | rfl | (split <;> rfl)
  · rfl
theorem s_code_ok : SumOk Try.prog 44 s_code := by
  have hE : EnvOk Try.prog SpanCode_E := env_ok (l := [(48, s_sv)]) th_ok any_ok ⟨⟨s_sv_ok, s_sv_det⟩, trivial⟩ _
  refine sum_ok hE Try.func44 rfl (by kernel_rfl) s_code [.raw] SpanCode.k ?_
  intro R avs objs κ r h
  unfold s_code at h
  simp only at h
  split at h
  · rename_i a b
    refine ⟨0, _, _, _, (SpanCode.eq (0) a b).trans (SpanCode.pure a b), ?_, h⟩
    intro rs ros hk
    unfold SpanCode.k at hk
    split at hk
    · first | (cases hk; exact ⟨rfl, rfl⟩) | (have e := Option.some.inj hk; rw [← e]; exact ⟨rfl, rfl⟩)
    · cases hk
  · cases h
theorem s_table_det : SumDet s_table := fun avs objs R κ => by
  show s_table.run avs objs (two κ) = (s_table.run avs objs (two some)).bind κ
  unfold s_table
  simp only
  split
  · first | rfl | (split <;> rfl)
  · rfl
theorem s_table_ok : SumOk Try.prog 83 s_table := by
  have hE : EnvOk Try.prog MsgTable_E := env_ok (l := []) th_ok any_ok trivial _
  refine sum_ok hE Try.func83 rfl (by kernel_rfl) s_table [.raw] MsgTable.k ?_
  intro R avs objs κ r h
  unfold s_table at h
  simp only at h
  split at h
  · skip
    refine ⟨0, _, _, _, (MsgTable.eq (0) ()).trans (rfl), ?_, h⟩
    intro rs ros hk
    unfold MsgTable.k at hk
    split at hk
    · first | (cases hk; exact ⟨rfl, rfl⟩) | (have e := Option.some.inj hk; rw [← e]; exact ⟨rfl, rfl⟩)
    · cases hk
  · cases h
theorem s_of_det : SumDet s_of := fun avs objs R κ => by
  show s_of.run avs objs (two κ) = (s_of.run avs objs (two some)).bind κ
  unfold s_of
  simp only
  split
  · first | rfl | (split <;> rfl)
  · rfl
theorem s_of_ok : SumOk Try.prog 47 s_of := by
  have hE : EnvOk Try.prog MsgOf_E := env_ok (l := [(83, s_table)]) th_ok any_ok ⟨⟨s_table_ok, s_table_det⟩, trivial⟩ _
  refine sum_ok hE Try.func47 rfl (by kernel_rfl) s_of [.dat (.pair .str (.int .u8)) true] MsgOf.k ?_
  intro R avs objs κ r h
  unfold s_of at h
  simp only at h
  split at h
  · rename_i k
    refine ⟨0, _, _, _, (MsgOf.eq (0) k).trans (MsgOf.pure k), ?_, h⟩
    intro rs ros hk
    unfold MsgOf.k at hk
    split at hk
    · first | (cases hk; exact ⟨rfl, rfl⟩) | (have e := Option.some.inj hk; rw [← e]; exact ⟨rfl, rfl⟩)
    · cases hk
  · cases h
theorem s_within_det : SumDet s_within := fun avs objs R κ => by
  show s_within.run avs objs (two κ) = (s_within.run avs objs (two some)).bind κ
  unfold s_within
  simp only
  split
  · first | rfl | (split <;> rfl)
  · rfl
theorem s_within_ok : SumOk Try.prog 49 s_within := by
  have hE : EnvOk Try.prog MsgWithin_E := env_ok (l := []) th_ok any_ok trivial _
  refine sum_ok hE Try.func49 rfl (by kernel_rfl) s_within [.raw] MsgWithin.k ?_
  intro R avs objs κ r h
  unfold s_within at h
  simp only at h
  split at h
  · rename_i had v lo hi
    refine ⟨0, _, _, _, (MsgWithin.eq (0) had v lo hi).trans (MsgWithin.pure had v lo hi), ?_, h⟩
    intro rs ros hk
    unfold MsgWithin.k at hk
    split at hk
    · first | (cases hk; exact ⟨rfl, rfl⟩) | (have e := Option.some.inj hk; rw [← e]; exact ⟨rfl, rfl⟩)
    · cases hk
  · cases h
theorem s_bagv_det : SumDet s_bagv := fun avs objs R κ => by
  show s_bagv.run avs objs (two κ) = (s_bagv.run avs objs (two some)).bind κ
  unfold s_bagv
  simp only
  split
  · first | rfl | (split <;> rfl)
  · rfl
theorem s_bagv_ok : SumOk Try.prog 95 s_bagv := by
  have hE : EnvOk Try.prog BagValid_E := env_ok (l := []) th_ok any_ok trivial _
  refine sum_ok hE Try.func95 rfl (by kernel_rfl) s_bagv [.raw] BagValid.k ?_
  intro R avs objs κ r h
  unfold s_bagv at h
  simp only at h
  split at h
  · rename_i b
    split at h
    case isFalse => cases h
    rename_i hl
    refine ⟨b.length + 1, _, _, _, (BagValid.eq (b.length + 1) b).trans (BagValid.pure b hl), ?_, h⟩
    intro rs ros hk
    unfold BagValid.k at hk
    split at hk
    · first | (cases hk; exact ⟨rfl, rfl⟩) | (have e := Option.some.inj hk; rw [← e]; exact ⟨rfl, rfl⟩)
    · cases hk
  · cases h
theorem s_recv_det : SumDet s_recv := fun avs objs R κ => by
  show s_recv.run avs objs (two κ) = (s_recv.run avs objs (two some)).bind κ
  unfold s_recv
  simp only
  split
  · first | rfl | (split <;> rfl)
  · rfl
theorem s_recv_ok : SumOk Try.prog 86 s_recv := by
  have hE : EnvOk Try.prog RecValid_E := env_ok (l := [(48, s_sv), (95, s_bagv)]) th_ok any_ok ⟨⟨s_sv_ok, s_sv_det⟩, ⟨s_bagv_ok, s_bagv_det⟩, trivial⟩ _
  refine sum_ok hE Try.func86 rfl (by kernel_rfl) s_recv [.raw] RecValid.k ?_
  intro R avs objs κ r h
  unfold s_recv at h
  simp only at h
  split at h
  · rename_i rid rinc rst rlo rhi rcut rbag
    split at h
    case isFalse => cases h
    rename_i hl
    refine ⟨0, _, _, _, (RecValid.eq (0) rid rinc rst rlo rhi rcut rbag).trans (RecValid.pure rid rinc rst rlo rhi rcut rbag hl), ?_, h⟩
    intro rs ros hk
    unfold RecValid.k at hk
    split at hk
    · first | (cases hk; exact ⟨rfl, rfl⟩) | (have e := Option.some.inj hk; rw [← e]; exact ⟨rfl, rfl⟩)
    · cases hk
  · cases h
end Go.Proofs.Ytlmljpmohljefaa
