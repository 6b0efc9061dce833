/- Gen2Reads: whatever bytes are given, the law returns true, and the input reads as it did. There is no condition. -/
import Derived.Test.YtlmljpmohljefaaR0
import Derived.Test.YtlmljpmohljefaaR1
import Derived.Test.YtlmljpmohljefaaK24
set_option linter.unusedVariables false
namespace Go.Proofs.Ytlmljpmohljefaa
open Go.Den
theorem gen2Reads_envOk : EnvOk Try.prog law13_Gen2Reads_E := env_ok (l := [(24, s_alike10), (25, s_awake13), (31, s_dec2b), (32, s_law13_Message)]) th_ok any_ok ⟨⟨s_alike10_ok, s_alike10_det⟩, ⟨s_awake13_ok, s_awake13_det⟩, ⟨s_dec2b_ok, s_dec2b_det⟩, ⟨s_law13_Message_ok, s_law13_Message_det⟩, trivial⟩ _
theorem gen2Reads_tells (b : List Int) (hl : ∀ c ∈ b, 0 ≤ c ∧ c ≤ 255) : denF law13_Gen2Reads_E loopN 0 Try.f9 [.raw] [.d (.sl (.int .u8)) b] [] isTrue = some () := by
  rw [denF_any gen2Reads_envOk.D ((law13_Gen2Reads.eq 0 b).trans (Gen2Reads.pure b hl)) (out := [.d .bool true]) (os := []) (fun rs ros hk => by
    unfold law13_Gen2Reads.k at hk
    split at hk
    · first | (cases hk; exact ⟨rfl, rfl⟩) | (have e := Option.some.inj hk; rw [← e]; exact ⟨rfl, rfl⟩)
    · cases hk)]
  rfl

set_option maxRecDepth 100000 in
theorem gen2Reads_lifted (os : Os) (started : os.Started) (H : Type) (enc : TypeId × Value → H) :
    ReturnsInHanded {} Try.checked os 9 .any (Rows.gen2ReadsSpec.pre6 enc Try.prog Try.f9 Rows.gen2ReadsRow.domain false) (Rows.gen2ReadsSpec.post enc Try.prog Try.f9 false true false false) := by
  refine returnsInHanded_of_change_sized (C := Try.checked) Try.own started (by kernel_rfl) Try.func9
    (ChangeSpec.witness6 (enc := enc) (C := Try.checked) false ⟨#[], #[.slice none 0 0], []⟩ 8 (by kernel_rfl) (by kernel_rfl) (by kernel_rfl) (by kernel_rfl)) ?_
  intro W base args ds gs before hval hW _ hwt _
  exact law_contract gen2Reads_envOk Try.func9 rfl [(.sl (.int .u8), false)] (tb := 4) (by kernel_rfl) (by kernel_rfl) (by kernel_rfl) rfl
    (fun ds h => by match ds, h with | [_], _ => rfl) Try.laidOut Try.mapsRow Try.slicesSize (fun y hg => ⟨0, gen2Reads_tells y.1 (good_bytes hg.1)⟩) W base args ds gs before hval hW hwt

theorem gen2Reads_holds : Rows.Gen2ReadsSaid :=
  OpenClaim.holds_of_wide 9 Try.f9 rfl rfl rfl rfl rfl rfl rfl ⟨rfl, rfl, rfl, rfl, rfl⟩ rfl rfl rfl rfl rfl (by kernel_rfl) Try.func9 (by kernel_rfl)
    (of_decide_eq_true (by kernel_rfl)) (by unfold Func.isWrapper; first | (rw [if_pos (by decide +kernel)]; kernel_rfl) | (rw [if_neg (by decide +kernel)]; exact ⟨rfl, rfl⟩))
    (fun os started H enc _ => gen2Reads_lifted os started H enc)
end Go.Proofs.Ytlmljpmohljefaa
