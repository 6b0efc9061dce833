/- Gen1Back: whatever message is given, the law returns true, and the input reads as it did. There is no condition. -/
import Derived.Test.YtlmljpmohljefaaR0
import Derived.Test.YtlmljpmohljefaaK9
set_option linter.unusedVariables false
namespace Go.Proofs.Ytlmljpmohljefaa
open Go.Den
theorem gen1Back_envOk : EnvOk Try.prog Gen1Back_E := env_ok (l := [(15, s_few10), (19, s_fitsL), (16, s_awake11), (17, s_enc), (22, s_decb), (24, s_alike10)]) th_ok any_ok ⟨⟨s_few10_ok, s_few10_det⟩, ⟨s_fitsL_ok, s_fitsL_det⟩, ⟨s_awake11_ok, s_awake11_det⟩, ⟨s_enc_ok, s_enc_det⟩, ⟨s_decb_ok, s_decb_det⟩, ⟨s_alike10_ok, s_alike10_det⟩, trivial⟩ _
theorem gen1Back_tells (mkind mfrom0 minc mlo mhi mseq mtarget mlife mepoch mbase : Int) (mrecs : List (Int × Int × Int × (Int × Int) × Bool × List (Int × List Int))) (hl : smallRecs mrecs = true) : denF Gen1Back_E loopN 0 Try.f6 [.raw] [.agg [.d (.int .i64) mkind, .d (.int .i64) mfrom0, .d (.int .i64) minc, .d (.int .i64) mlo, .d (.int .i64) mhi, .d (.int .i64) mseq, .d (.int .i64) mtarget, .d (.int .i64) mlife, .d (.int .i64) mepoch, .d (.int .i64) mbase, .d (.sl (.pair (.int .i64) (.pair (.int .i64) (.pair (.int .i64) (.pair (.pair (.int .i64) (.int .i64)) (.pair .bool (.sl (.pair (.int .i64) (.sl (.int .u8)))))))))) mrecs]] [] isTrue = some () := by
  rw [denF_any gen1Back_envOk.D ((Gen1Back.eq 0 mkind mfrom0 minc mlo mhi mseq mtarget mlife mepoch mbase mrecs).trans (Gen1Back.pure mkind mfrom0 minc mlo mhi mseq mtarget mlife mepoch mbase mrecs hl)) (out := [.d .bool true]) (os := []) (fun rs ros hk => by
    unfold Gen1Back.k at hk
    split at hk
    · first | (cases hk; exact ⟨rfl, rfl⟩) | (have e := Option.some.inj hk; rw [← e]; exact ⟨rfl, rfl⟩)
    · cases hk)]
  rfl

set_option maxRecDepth 100000 in
theorem gen1Back_lifted (os : Os) (started : os.Started) (H : Type) (enc : TypeId × Value → H) :
    ReturnsInHanded {} Try.checked os 6 .any (Rows.gen1BackSpec.pre6 enc Try.prog Try.f6 Rows.gen1BackRow.domain false) (Rows.gen1BackSpec.post enc Try.prog Try.f6 false true false false) := by
  refine returnsInHanded_of_change_sized (C := Try.checked) Try.own started (by kernel_rfl) Try.func6
    (ChangeSpec.witness6 (enc := enc) (C := Try.checked) false ⟨#[], #[.agg #[.int .i64 0, .int .i64 0, .int .i64 0, .int .i64 0, .int .i64 0, .int .i64 0, .int .i64 0, .int .i64 0, .int .i64 0, .int .i64 0, .slice none 0 0]], []⟩ 8 (by kernel_rfl) (by kernel_rfl) (by kernel_rfl) (by kernel_rfl)) ?_
  intro W base args ds gs before hval hW _ hwt _
  exact law_contract gen1Back_envOk Try.func6 rfl [((.pair (.int .i64) (.pair (.int .i64) (.pair (.int .i64) (.pair (.pair (.int .i64) (.int .i64)) (.pair (.int .i64) (.pair (.int .i64) (.pair (.int .i64) (.pair (.int .i64) (.pair (.int .i64) (.sl (.pair (.int .i64) (.pair (.int .i64) (.pair (.int .i64) (.pair (.pair (.int .i64) (.int .i64)) (.pair .bool (.sl (.pair (.int .i64) (.sl (.int .u8))))))))))))))))))), true)] (tb := 4) (by kernel_rfl) (by kernel_rfl) (by kernel_rfl) rfl
    (fun ds h => by match ds, h with | [_], _ => rfl) Try.laidOut Try.mapsRow Try.slicesSize (fun y hg => ⟨0, gen1Back_tells y.1.1 y.1.2.1 y.1.2.2.1 y.1.2.2.2.1.1 y.1.2.2.2.1.2 y.1.2.2.2.2.1 y.1.2.2.2.2.2.1 y.1.2.2.2.2.2.2.1 y.1.2.2.2.2.2.2.2.1 y.1.2.2.2.2.2.2.2.2.1 y.1.2.2.2.2.2.2.2.2.2 (good_recs (hg.1.2.2.2.2.2.2.2.2.2))⟩) W base args ds gs before hval hW hwt

theorem gen1Back_holds : Rows.Gen1BackSaid :=
  OpenClaim.holds_of_wide 6 Try.f6 rfl rfl rfl rfl rfl rfl rfl ⟨rfl, rfl, rfl, rfl, rfl⟩ rfl rfl rfl rfl rfl (by kernel_rfl) Try.func6 (by kernel_rfl)
    (of_decide_eq_true (by kernel_rfl)) (by unfold Func.isWrapper; first | (rw [if_pos (by decide +kernel)]; kernel_rfl) | (rw [if_neg (by decide +kernel)]; exact ⟨rfl, rfl⟩))
    (fun os started H enc _ => gen1Back_lifted os started H enc)
end Go.Proofs.Ytlmljpmohljefaa
