/- ProbeFails: whatever four numbers are given, the law returns true, and the input reads as it did. There is no condition. -/
import Derived.Test.YtpgcdengljfojaaR0
import Derived.Test.YtpgcdengljfojaaG14
set_option linter.unusedVariables false
namespace Go.Proofs.Ytpgcdengljfojaa
open Go.Den
theorem probeFails_envOk : EnvOk Try.prog ProbeFails_E := env_ok (l := [(9, s9), (10, s10), (11, s11), (12, s12), (13, s13)]) th_ok any_ok ⟨⟨s9_ok, s9_det⟩, ⟨s10_ok, s10_det⟩, ⟨s11_ok, s11_det⟩, ⟨s12_ok, s12_det⟩, ⟨s13_ok, s13_det⟩, trivial⟩ _
theorem probeFails_tells (start wait period att : Int)  : denF ProbeFails_E loopN 90 Try.f3 [.raw] [.d (.int .i64) start, .d (.int .i64) wait, .d (.int .i64) period, .d (.int .i64) att] [] isTrue = some () := by
  rw [denF_any probeFails_envOk.D ((ProbeFails.eq 90 start wait period att).trans (ProbeFails.pure start wait period att)) (out := [.d .bool true]) (os := []) (fun rs ros hk => by
    unfold ProbeFails.k at hk
    split at hk
    · first | (cases hk; exact ⟨rfl, rfl⟩) | (have e := Option.some.inj hk; rw [← e]; exact ⟨rfl, rfl⟩)
    · cases hk)]
  rfl

set_option maxRecDepth 100000 in
theorem probeFails_lifted (os : Os) (started : os.Started) (H : Type) (enc : TypeId × Value → H) :
    ReturnsInHanded {} Try.checked os 3 .any (Rows.probeFailsSpec.pre6 enc Try.prog Try.f3 Rows.probeFailsRow.domain false) (Rows.probeFailsSpec.post enc Try.prog Try.f3 false true false false) := by
  refine returnsInHanded_of_change (C := Try.checked) Try.own started (by kernel_rfl) Try.func3
    (ChangeSpec.witness6 (enc := enc) (C := Try.checked) false ⟨#[], #[.int .i64 0, .int .i64 0, .int .i64 0, .int .i64 0], []⟩ 8 (by kernel_rfl) (by kernel_rfl) (by kernel_rfl) (by kernel_rfl)) ?_
  intro W base args ds gs before hval hW _ _
  exact law_contract probeFails_envOk Try.func3 rfl [(.int .i64, false), (.int .i64, false), (.int .i64, false), (.int .i64, false)] (tb := 4) (by kernel_rfl) (by kernel_rfl) (by kernel_rfl) rfl
    (fun ds h => by match ds, h with | [_, _, _, _], _ => rfl) Try.laidOut Try.mapsRow Try.slicesSize (fun y hg => ⟨90, probeFails_tells y.1 y.2.1 y.2.2.1 y.2.2.2.1⟩) W base args ds gs before hval hW

theorem probeFails_holds : Rows.ProbeFailsSaid :=
  OpenClaim.holds_of_wide 3 Try.f3 rfl rfl rfl rfl rfl rfl rfl ⟨rfl, rfl, rfl, rfl, rfl⟩ rfl rfl rfl rfl rfl (by kernel_rfl) Try.func3 (by kernel_rfl)
    (of_decide_eq_true (by kernel_rfl)) (by unfold Func.isWrapper; first | (rw [if_pos (by decide +kernel)]; kernel_rfl) | (rw [if_neg (by decide +kernel)]; exact ⟨rfl, rfl⟩))
    (fun os started H enc _ => probeFails_lifted os started H enc)
end Go.Proofs.Ytpgcdengljfojaa
