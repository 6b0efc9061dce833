/- SpanTexts: whatever span and text are given, the law returns true, and the input reads as it did. There is no condition. -/
import Derived.Test.YtpgcdengljfojaaR0
import Derived.Test.YtpgcdengljfojaaG12
set_option linter.unusedVariables false
namespace Go.Proofs.Ytpgcdengljfojaa
open Go.Den
theorem spanTexts_envOk : EnvOk Try.prog SpanTexts_E := env_ok (l := [(17, s17), (19, s19), (20, s20), (21, s21), (22, s22)]) th_ok any_ok ⟨⟨s17_ok, s17_det⟩, ⟨s19_ok, s19_det⟩, ⟨s20_ok, s20_det⟩, ⟨s21_ok, s21_det⟩, ⟨s22_ok, s22_det⟩, trivial⟩ _
theorem spanTexts_tells (a b : Int) (t : ByteArray)  : denF SpanTexts_E loopN 9 Try.f6 [.raw] [.agg [.d (.int .i64) a, .d (.int .i64) b], .d .str t] [] isTrue = some () := by
  rw [denF_any spanTexts_envOk.D ((SpanTexts.eq 9 a b t).trans (SpanTexts.pure a b t)) (out := [.d .bool true]) (os := []) (fun rs ros hk => by
    unfold SpanTexts.k at hk
    split at hk
    · first | (cases hk; exact ⟨rfl, rfl⟩) | (have e := Option.some.inj hk; rw [← e]; exact ⟨rfl, rfl⟩)
    · cases hk)]
  rfl

set_option maxRecDepth 100000 in
theorem spanTexts_lifted (os : Os) (started : os.Started) (H : Type) (enc : TypeId × Value → H) :
    ReturnsInHanded {} Try.checked os 6 .any (Rows.spanTextsSpec.pre6 enc Try.prog Try.f6 Rows.spanTextsRow.domain false) (Rows.spanTextsSpec.post enc Try.prog Try.f6 false true false false) := by
  refine returnsInHanded_of_change (C := Try.checked) Try.own started (by kernel_rfl) Try.func6
    (ChangeSpec.witness6 (enc := enc) (C := Try.checked) false ⟨#[], #[.agg #[.int .i64 0, .int .i64 0], .string ⟨#[]⟩], []⟩ 8 (by kernel_rfl) (by kernel_rfl) (by kernel_rfl) (by kernel_rfl)) ?_
  intro W base args ds gs before hval hW _ _
  exact law_contract spanTexts_envOk Try.func6 rfl [(.pair (.int .i64) (.int .i64), true), (.str, false)] (tb := 4) (by kernel_rfl) (by kernel_rfl) (by kernel_rfl) rfl
    (fun ds h => by match ds, h with | [_, _], _ => rfl) Try.laidOut Try.mapsRow Try.slicesSize (fun y hg => ⟨9, spanTexts_tells y.1.1 y.1.2 y.2.1⟩) W base args ds gs before hval hW

theorem spanTexts_holds : Rows.SpanTextsSaid :=
  OpenClaim.holds_of_wide 6 Try.f6 rfl rfl rfl rfl rfl rfl rfl ⟨rfl, rfl, rfl, rfl, rfl⟩ rfl rfl rfl rfl rfl (by kernel_rfl) Try.func6 (by kernel_rfl)
    (of_decide_eq_true (by kernel_rfl)) (by unfold Func.isWrapper; first | (rw [if_pos (by decide +kernel)]; kernel_rfl) | (rw [if_neg (by decide +kernel)]; exact ⟨rfl, rfl⟩))
    (fun os started H enc _ => spanTexts_lifted os started H enc)
end Go.Proofs.Ytpgcdengljfojaa
