/- SpanMeets: whatever two spans are given, the law's function returns true, and the input reads as it did. There is no condition. -/
import Derived.Test.YtpgcdengljfojaaR0
import Derived.Test.YtpgcdengljfojaaG7
set_option linter.unusedVariables false
namespace Go.Proofs.Ytpgcdengljfojaa
open Go.Den
theorem SpanMeets.tells (a b c d : Int) : denF SpanMeets_E loopN 5 Try.f4 [.raw] [.agg [.d (.int .i64) a, .d (.int .i64) b], .agg [.d (.int .i64) c, .d (.int .i64) d]] [] isTrue = some () := by
  rw [denF_any SpanMeets.envOk.D ((SpanMeets.eq 5 a b c d).trans (SpanMeets.pure a b c d)) (out := [.d .bool true]) (os := []) (fun rs ros hk => by
    unfold SpanMeets.k at hk
    split at hk
    · cases hk; exact ⟨rfl, rfl⟩
    · cases hk)]
  rfl

set_option maxRecDepth 100000 in
theorem spanMeets_lifted (os : Os) (started : os.Started) (H : Type) (enc : TypeId × Value → H) :
    ReturnsInHanded {} Try.checked os 4 .any (Rows.spanMeetsSpec.pre6 enc Try.prog Try.f4 Rows.spanMeetsRow.domain false) (Rows.spanMeetsSpec.post enc Try.prog Try.f4 false true false false) := by
  refine returnsInHanded_of_change (C := Try.checked) Try.own started (by kernel_rfl) Try.func4
    (ChangeSpec.witness6 (enc := enc) (C := Try.checked) false ⟨#[], #[.agg #[.int .i64 0, .int .i64 0], .agg #[.int .i64 0, .int .i64 0]], []⟩ 8 (by kernel_rfl) (by kernel_rfl) (by kernel_rfl) (by kernel_rfl)) ?_
  intro W base args ds gs before hval hW _ _
  exact law_contract SpanMeets.envOk Try.func4 rfl [(.pair (.int .i64) (.int .i64), true), (.pair (.int .i64) (.int .i64), true)] (tb := 4) (by kernel_rfl) (by kernel_rfl) (by kernel_rfl) rfl
    (fun ds h => by match ds, h with | [_, _], _ => rfl) Try.laidOut Try.mapsRow Try.slicesSize (fun y _ => ⟨5, SpanMeets.tells y.1.1 y.1.2 y.2.1.1 y.2.1.2⟩) W base args ds gs before hval hW

theorem spanMeets_holds : Rows.SpanMeetsSaid :=
  OpenClaim.holds_of_wide 4 Try.f4 rfl rfl rfl rfl rfl rfl rfl ⟨rfl, rfl, rfl, rfl, rfl⟩ rfl rfl rfl rfl rfl (by kernel_rfl) Try.func4 (by kernel_rfl)
    (of_decide_eq_true (by kernel_rfl)) (by unfold Func.isWrapper; first | (rw [if_pos (by decide +kernel)]; kernel_rfl) | (rw [if_neg (by decide +kernel)]; exact ⟨rfl, rfl⟩))
    (fun os started H enc _ => spanMeets_lifted os started H enc)
end Go.Proofs.Ytpgcdengljfojaa
