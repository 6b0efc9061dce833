/- Gen2Image: whatever bytes are given, the law returns true, and the input reads as it did. There is no condition. -/
import Derived.Test.YtlmljpmohljefaaR0
import Derived.Test.YtlmljpmohljefaaR1
import Derived.Test.YtlmljpmohljefaaP4
set_option linter.unusedVariables false
namespace Go.Proofs.Ytlmljpmohljefaa
open Go.Den
theorem gen2Image_envOk : EnvOk Try.prog Gen2Image_E := env_ok (l := [(25, s_awake13), (31, s_dec2b), (26, s_enc2)]) th_ok any_ok ⟨⟨s_awake13_ok, s_awake13_det⟩, ⟨s_dec2b_ok, s_dec2b_det⟩, ⟨s_enc2_ok, s_enc2_det⟩, trivial⟩ _
theorem gen2Image_tells (l : List Int) (hl : ∀ c ∈ l, 0 ≤ c ∧ c ≤ 255) : denF Gen2Image_E loopN 0 Try.f8 [.raw] [.d (.sl (.int .u8)) l] [] isTrue = some () := by
  rw [denF_any gen2Image_envOk.D ((Gen2Image.eq 0 l).trans (Gen2Image.pure l hl)) (out := [.d .bool true]) (os := []) (fun rs ros hk => by
    unfold Gen2Image.k at hk
    split at hk
    · first | (cases hk; exact ⟨rfl, rfl⟩) | (have e := Option.some.inj hk; rw [← e]; exact ⟨rfl, rfl⟩)
    · cases hk)]
  rfl

set_option maxRecDepth 100000 in
theorem gen2Image_lifted (os : Os) (started : os.Started) (H : Type) (enc : TypeId × Value → H) :
    ReturnsInHanded {} Try.checked os 8 .any (Rows.gen2ImageSpec.pre6 enc Try.prog Try.f8 Rows.gen2ImageRow.domain false) (Rows.gen2ImageSpec.post enc Try.prog Try.f8 false true false false) := by
  refine returnsInHanded_of_change_sized (C := Try.checked) Try.own started (by kernel_rfl) Try.func8
    (ChangeSpec.witness6 (enc := enc) (C := Try.checked) false ⟨#[], #[.slice none 0 0], []⟩ 8 (by kernel_rfl) (by kernel_rfl) (by kernel_rfl) (by kernel_rfl)) ?_
  intro W base args ds gs before hval hW _ hwt _
  exact law_contract gen2Image_envOk Try.func8 rfl [(.sl (.int .u8), false)] (tb := 4) (by kernel_rfl) (by kernel_rfl) (by kernel_rfl) rfl
    (fun ds h => by match ds, h with | [_], _ => rfl) Try.laidOut Try.mapsRow Try.slicesSize (fun y hg => ⟨0, gen2Image_tells y.1 (good_bytes hg.1)⟩) W base args ds gs before hval hW hwt

theorem gen2Image_holds : Rows.Gen2ImageSaid :=
  OpenClaim.holds_of_wide 8 Try.f8 rfl rfl rfl rfl rfl rfl rfl ⟨rfl, rfl, rfl, rfl, rfl⟩ rfl rfl rfl rfl rfl (by kernel_rfl) Try.func8 (by kernel_rfl)
    (of_decide_eq_true (by kernel_rfl)) (by unfold Func.isWrapper; first | (rw [if_pos (by decide +kernel)]; kernel_rfl) | (rw [if_neg (by decide +kernel)]; exact ⟨rfl, rfl⟩))
    (fun os started H enc _ => gen2Image_lifted os started H enc)
end Go.Proofs.Ytlmljpmohljefaa
