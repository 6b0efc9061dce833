/- Gen2Writes: whatever message is given, the law returns true, and the input reads as it did. There is no condition. -/
import Derived.Test.YtlmljpmohljefaaR0
import Derived.Test.YtlmljpmohljefaaR1
import Derived.Test.YtlmljpmohljefaaS12
set_option linter.unusedVariables false
namespace Go.Proofs.Ytlmljpmohljefaa
open Go.Den
theorem gen2Writes_envOk : EnvOk Try.prog Gen2Writes_E := env_ok (l := [(15, s_few10), (25, s_awake13), (26, s_enc2), (27, s_fits2), (28, s_fits13), (20, s_valid), (29, s_size2), (30, s_body13)]) th_ok any_ok ⟨⟨s_few10_ok, s_few10_det⟩, ⟨s_awake13_ok, s_awake13_det⟩, ⟨s_enc2_ok, s_enc2_det⟩, ⟨s_fits2_ok, s_fits2_det⟩, ⟨s_fits13_ok, s_fits13_det⟩, ⟨s_valid_ok, s_valid_det⟩, ⟨s_size2_ok, s_size2_det⟩, ⟨s_body13_ok, s_body13_det⟩, trivial⟩ _
theorem gen2Writes_tells (mkind mfrom0 minc mlo mhi mseq mtarget mlife mepoch mbase : Int) (mrecs : List (Int × Int × Int × (Int × Int) × Bool × List (Int × List Int))) (hl : smallRecs mrecs = true) : denF Gen2Writes_E loopN 0 Try.f7 [.raw] [.agg [.d (.int .i64) mkind, .d (.int .i64) mfrom0, .d (.int .i64) minc, .d (.int .i64) mlo, .d (.int .i64) mhi, .d (.int .i64) mseq, .d (.int .i64) mtarget, .d (.int .i64) mlife, .d (.int .i64) mepoch, .d (.int .i64) mbase, .d (.sl (.pair (.int .i64) (.pair (.int .i64) (.pair (.int .i64) (.pair (.pair (.int .i64) (.int .i64)) (.pair .bool (.sl (.pair (.int .i64) (.sl (.int .u8)))))))))) mrecs]] [] isTrue = some () := by
  rw [denF_any gen2Writes_envOk.D ((Gen2Writes.eq 0 mkind mfrom0 minc mlo mhi mseq mtarget mlife mepoch mbase mrecs).trans (Gen2Writes.pure mkind mfrom0 minc mlo mhi mseq mtarget mlife mepoch mbase mrecs hl)) (out := [.d .bool true]) (os := []) (fun rs ros hk => by
    unfold Gen2Writes.k at hk
    split at hk
    · first | (cases hk; exact ⟨rfl, rfl⟩) | (have e := Option.some.inj hk; rw [← e]; exact ⟨rfl, rfl⟩)
    · cases hk)]
  rfl

set_option maxRecDepth 100000 in
theorem gen2Writes_lifted (os : Os) (started : os.Started) (H : Type) (enc : TypeId × Value → H) :
    ReturnsInHanded {} Try.checked os 7 .any (Rows.gen2WritesSpec.pre6 enc Try.prog Try.f7 Rows.gen2WritesRow.domain false) (Rows.gen2WritesSpec.post enc Try.prog Try.f7 false true false false) := by
  refine returnsInHanded_of_change_sized (C := Try.checked) Try.own started (by kernel_rfl) Try.func7
    (ChangeSpec.witness6 (enc := enc) (C := Try.checked) false ⟨#[], #[.agg #[.int .i64 0, .int .i64 0, .int .i64 0, .int .i64 0, .int .i64 0, .int .i64 0, .int .i64 0, .int .i64 0, .int .i64 0, .int .i64 0, .slice none 0 0]], []⟩ 8 (by kernel_rfl) (by kernel_rfl) (by kernel_rfl) (by kernel_rfl)) ?_
  intro W base args ds gs before hval hW _ hwt _
  exact law_contract gen2Writes_envOk Try.func7 rfl [((.pair (.int .i64) (.pair (.int .i64) (.pair (.int .i64) (.pair (.pair (.int .i64) (.int .i64)) (.pair (.int .i64) (.pair (.int .i64) (.pair (.int .i64) (.pair (.int .i64) (.pair (.int .i64) (.sl (.pair (.int .i64) (.pair (.int .i64) (.pair (.int .i64) (.pair (.pair (.int .i64) (.int .i64)) (.pair .bool (.sl (.pair (.int .i64) (.sl (.int .u8))))))))))))))))))), true)] (tb := 4) (by kernel_rfl) (by kernel_rfl) (by kernel_rfl) rfl
    (fun ds h => by match ds, h with | [_], _ => rfl) Try.laidOut Try.mapsRow Try.slicesSize (fun y hg => ⟨0, gen2Writes_tells y.1.1 y.1.2.1 y.1.2.2.1 y.1.2.2.2.1.1 y.1.2.2.2.1.2 y.1.2.2.2.2.1 y.1.2.2.2.2.2.1 y.1.2.2.2.2.2.2.1 y.1.2.2.2.2.2.2.2.1 y.1.2.2.2.2.2.2.2.2.1 y.1.2.2.2.2.2.2.2.2.2 (good_recs (hg.1.2.2.2.2.2.2.2.2.2))⟩) W base args ds gs before hval hW hwt

theorem gen2Writes_holds : Rows.Gen2WritesSaid :=
  OpenClaim.holds_of_wide 7 Try.f7 rfl rfl rfl rfl rfl rfl rfl ⟨rfl, rfl, rfl, rfl, rfl⟩ rfl rfl rfl rfl rfl (by kernel_rfl) Try.func7 (by kernel_rfl)
    (of_decide_eq_true (by kernel_rfl)) (by unfold Func.isWrapper; first | (rw [if_pos (by decide +kernel)]; kernel_rfl) | (rw [if_neg (by decide +kernel)]; exact ⟨rfl, rfl⟩))
    (fun os started H enc _ => gen2Writes_lifted os started H enc)
end Go.Proofs.Ytlmljpmohljefaa
