/- SpanCommons: whatever list of spans is given, the law returns true, and the input reads as it did. There is no condition. -/
import Derived.Test.YtpgcdengljfojaaR0
import Derived.Test.YtpgcdengljfojaaG9
set_option linter.unusedVariables false
namespace Go.Proofs.Ytpgcdengljfojaa
open Go.Den
theorem spanCommons_envOk : EnvOk Try.prog SpanCommons_E := env_ok (l := [(17, s17), (18, s18), (15, s15), (16, s16)]) th_ok any_ok ⟨⟨s17_ok, s17_det⟩, ⟨s18_ok, s18_det⟩, ⟨s15_ok, s15_det⟩, ⟨s16_ok, s16_det⟩, trivial⟩ _
theorem spanCommons_tells (l : List (Int × Int))  : denF SpanCommons_E loopN 30 Try.f5 [.raw] [.d (.sl (.pair (.int .i64) (.int .i64))) l] [] isTrue = some () := by
  rw [denF_any spanCommons_envOk.D ((SpanCommons.eq 30 l).trans (SpanCommons.pure l)) (out := [.d .bool true]) (os := []) (fun rs ros hk => by
    unfold SpanCommons.k at hk
    split at hk
    · first | (cases hk; exact ⟨rfl, rfl⟩) | (have e := Option.some.inj hk; rw [← e]; exact ⟨rfl, rfl⟩)
    · cases hk)]
  rfl

set_option maxRecDepth 100000 in
theorem spanCommons_lifted (os : Os) (started : os.Started) (H : Type) (enc : TypeId × Value → H) :
    ReturnsInHanded {} Try.checked os 5 .any (Rows.spanCommonsSpec.pre6 enc Try.prog Try.f5 Rows.spanCommonsRow.domain false) (Rows.spanCommonsSpec.post enc Try.prog Try.f5 false true false false) := by
  refine returnsInHanded_of_change (C := Try.checked) Try.own started (by kernel_rfl) Try.func5
    (ChangeSpec.witness6 (enc := enc) (C := Try.checked) false ⟨#[], #[.slice none 0 0], []⟩ 8 (by kernel_rfl) (by kernel_rfl) (by kernel_rfl) (by kernel_rfl)) ?_
  intro W base args ds gs before hval hW _ _
  exact law_contract spanCommons_envOk Try.func5 rfl [(.sl (.pair (.int .i64) (.int .i64)), false)] (tb := 4) (by kernel_rfl) (by kernel_rfl) (by kernel_rfl) rfl
    (fun ds h => by match ds, h with | [_], _ => rfl) Try.laidOut Try.mapsRow Try.slicesSize (fun y hg => ⟨30, spanCommons_tells y.1⟩) W base args ds gs before hval hW

theorem spanCommons_holds : Rows.SpanCommonsSaid :=
  OpenClaim.holds_of_wide 5 Try.f5 rfl rfl rfl rfl rfl rfl rfl ⟨rfl, rfl, rfl, rfl, rfl⟩ rfl rfl rfl rfl rfl (by kernel_rfl) Try.func5 (by kernel_rfl)
    (of_decide_eq_true (by kernel_rfl)) (by unfold Func.isWrapper; first | (rw [if_pos (by decide +kernel)]; kernel_rfl) | (rw [if_neg (by decide +kernel)]; exact ⟨rfl, rfl⟩))
    (fun os started H enc _ => spanCommons_lifted os started H enc)
end Go.Proofs.Ytpgcdengljfojaa
