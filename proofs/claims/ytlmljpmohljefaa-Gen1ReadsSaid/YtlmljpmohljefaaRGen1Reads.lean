/- Gen1Reads: whatever bytes are given, the law returns true, and the input reads as it did. There is no condition. -/
import Derived.Test.YtlmljpmohljefaaR0
import Derived.Test.YtlmljpmohljefaaR1
import Derived.Test.YtlmljpmohljefaaK12
set_option linter.unusedVariables false
namespace Go.Proofs.Ytlmljpmohljefaa
open Go.Den
theorem gen1Reads_envOk : EnvOk Try.prog Gen1Reads_E := env_ok (l := [(16, s_awake11), (22, s_decb), (23, s_msg1b), (24, s_alike10)]) th_ok any_ok ⟨⟨s_awake11_ok, s_awake11_det⟩, ⟨s_decb_ok, s_decb_det⟩, ⟨s_msg1b_ok, s_msg1b_det⟩, ⟨s_alike10_ok, s_alike10_det⟩, trivial⟩ _
theorem gen1Reads_tells (l : List Int) (hl : ∀ c ∈ l, 0 ≤ c ∧ c ≤ 255) : denF Gen1Reads_E loopN 0 Try.f5 [.raw] [.d (.sl (.int .u8)) l] [] isTrue = some () := by
  rw [denF_any gen1Reads_envOk.D ((Gen1Reads.eq 0 l).trans (Gen1Reads.pure l hl)) (out := [.d .bool true]) (os := []) (fun rs ros hk => by
    unfold Gen1Reads.k at hk
    split at hk
    · first | (cases hk; exact ⟨rfl, rfl⟩) | (have e := Option.some.inj hk; rw [← e]; exact ⟨rfl, rfl⟩)
    · cases hk)]
  rfl

set_option maxRecDepth 100000 in
theorem gen1Reads_lifted (os : Os) (started : os.Started) (H : Type) (enc : TypeId × Value → H) :
    ReturnsInHanded {} Try.checked os 5 .any (Rows.gen1ReadsSpec.pre6 enc Try.prog Try.f5 Rows.gen1ReadsRow.domain false) (Rows.gen1ReadsSpec.post enc Try.prog Try.f5 false true false false) := by
  refine returnsInHanded_of_change_sized (C := Try.checked) Try.own started (by kernel_rfl) Try.func5
    (ChangeSpec.witness6 (enc := enc) (C := Try.checked) false ⟨#[], #[.slice none 0 0], []⟩ 8 (by kernel_rfl) (by kernel_rfl) (by kernel_rfl) (by kernel_rfl)) ?_
  intro W base args ds gs before hval hW _ hwt _
  exact law_contract gen1Reads_envOk Try.func5 rfl [(.sl (.int .u8), false)] (tb := 4) (by kernel_rfl) (by kernel_rfl) (by kernel_rfl) rfl
    (fun ds h => by match ds, h with | [_], _ => rfl) Try.laidOut Try.mapsRow Try.slicesSize (fun y hg => ⟨0, gen1Reads_tells y.1 (good_bytes hg.1)⟩) W base args ds gs before hval hW hwt

theorem gen1Reads_holds : Rows.Gen1ReadsSaid :=
  OpenClaim.holds_of_wide 5 Try.f5 rfl rfl rfl rfl rfl rfl rfl ⟨rfl, rfl, rfl, rfl, rfl⟩ rfl rfl rfl rfl rfl (by kernel_rfl) Try.func5 (by kernel_rfl)
    (of_decide_eq_true (by kernel_rfl)) (by unfold Func.isWrapper; first | (rw [if_pos (by decide +kernel)]; kernel_rfl) | (rw [if_neg (by decide +kernel)]; exact ⟨rfl, rfl⟩))
    (fun os started H enc _ => gen1Reads_lifted os started H enc)
end Go.Proofs.Ytlmljpmohljefaa
