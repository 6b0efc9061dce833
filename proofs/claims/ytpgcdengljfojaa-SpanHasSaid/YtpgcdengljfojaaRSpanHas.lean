/- SpanHas: whatever span and numbers are given, the law returns true, and the input reads as it did. There is no condition. -/
import Derived.Test.YtpgcdengljfojaaR0
import Derived.Test.YtpgcdengljfojaaG12
set_option linter.unusedVariables false
namespace Go.Proofs.Ytpgcdengljfojaa
open Go.Den
theorem spanHas_envOk : EnvOk Try.prog SpanHas_E := env_ok (l := [(17, s17), (19, s19), (22, s22), (23, s23), (24, s24), (25, s25), (26, s26)]) th_ok any_ok ⟨⟨s17_ok, s17_det⟩, ⟨s19_ok, s19_det⟩, ⟨s22_ok, s22_det⟩, ⟨s23_ok, s23_det⟩, ⟨s24_ok, s24_det⟩, ⟨s25_ok, s25_det⟩, ⟨s26_ok, s26_det⟩, trivial⟩ _
theorem spanHas_tells (a b g c : Int)  : denF SpanHas_E loopN 9 Try.f7 [.raw] [.agg [.d (.int .i64) a, .d (.int .i64) b], .d (.int .i64) g, .d (.int .i64) c] [] isTrue = some () := by
  rw [denF_any spanHas_envOk.D ((SpanHas.eq 9 a b g c).trans (SpanHas.pure a b g c)) (out := [.d .bool true]) (os := []) (fun rs ros hk => by
    unfold SpanHas.k at hk
    split at hk
    · first | (cases hk; exact ⟨rfl, rfl⟩) | (have e := Option.some.inj hk; rw [← e]; exact ⟨rfl, rfl⟩)
    · cases hk)]
  rfl

set_option maxRecDepth 100000 in
theorem spanHas_lifted (os : Os) (started : os.Started) (H : Type) (enc : TypeId × Value → H) :
    ReturnsInHanded {} Try.checked os 7 .any (Rows.spanHasSpec.pre6 enc Try.prog Try.f7 Rows.spanHasRow.domain false) (Rows.spanHasSpec.post enc Try.prog Try.f7 false true false false) := by
  refine returnsInHanded_of_change (C := Try.checked) Try.own started (by kernel_rfl) Try.func7
    (ChangeSpec.witness6 (enc := enc) (C := Try.checked) false ⟨#[], #[.agg #[.int .i64 0, .int .i64 0], .int .i64 0, .int .i64 0], []⟩ 8 (by kernel_rfl) (by kernel_rfl) (by kernel_rfl) (by kernel_rfl)) ?_
  intro W base args ds gs before hval hW _ _
  exact law_contract spanHas_envOk Try.func7 rfl [(.pair (.int .i64) (.int .i64), true), (.int .i64, false), (.int .i64, false)] (tb := 4) (by kernel_rfl) (by kernel_rfl) (by kernel_rfl) rfl
    (fun ds h => by match ds, h with | [_, _, _], _ => rfl) Try.laidOut Try.mapsRow Try.slicesSize (fun y hg => ⟨9, spanHas_tells y.1.1 y.1.2 y.2.1 y.2.2.1⟩) W base args ds gs before hval hW

theorem spanHas_holds : Rows.SpanHasSaid :=
  OpenClaim.holds_of_wide 7 Try.f7 rfl rfl rfl rfl rfl rfl rfl ⟨rfl, rfl, rfl, rfl, rfl⟩ rfl rfl rfl rfl rfl (by kernel_rfl) Try.func7 (by kernel_rfl)
    (of_decide_eq_true (by kernel_rfl)) (by unfold Func.isWrapper; first | (rw [if_pos (by decide +kernel)]; kernel_rfl) | (rw [if_neg (by decide +kernel)]; exact ⟨rfl, rfl⟩))
    (fun os started H enc _ => spanHas_lifted os started H enc)
end Go.Proofs.Ytpgcdengljfojaa
