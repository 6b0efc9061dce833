/- printed by denfn.py -/
import Derived.Test.YtlmljpmohljefaaTh
import Derived.Test.YtlmljpmohljefaaS6
set_option linter.unusedVariables false
namespace Go.Proofs.Ytlmljpmohljefaa
open Go.Den
noncomputable def Gen1Image_E : Env := ⟨th, gam [(16, s_awake11), (22, s_decb), (17, s_enc)], fun i => ⟨[], [], []⟩⟩
noncomputable def Gen1Image.k (rs : List AV) (os : List Den.Obj) : Option Bool :=
  match rs, os with
  | [.d .bool r0], [] => some r0
  | _, _ => none
noncomputable def Gen1Image.b (l : List Int) : Option Bool :=
  (if (decide (((((List.length l)) : Nat) : Int) > (1300 : Int))) then some (true) else (if (inB l) then (match (veil (Option.some (decF l))) with | none => none | some y0 => (if (y0.2.2.2.2.2.2.2.2 != (0 : Int)) then some (true) else (if (smallRecs y0.2.2.2.2.2.2.2.1) then (if ((encF y0.1 y0.2.1 y0.2.2.1 y0.2.2.2.1 y0.2.2.2.2.1 y0.2.2.2.2.2.1 y0.2.2.2.2.2.2.1 0 0 0 y0.2.2.2.2.2.2.2.1).2 == (0 : Int)) then (if ((ByteArray.toList (strOf (encF y0.1 y0.2.1 y0.2.2.1 y0.2.2.2.1 y0.2.2.2.2.1 y0.2.2.2.2.2.1 y0.2.2.2.2.2.2.1 0 0 0 y0.2.2.2.2.2.2.2.1).1)) == (ByteArray.toList (strOf l))) then some (true) else some (false)) else some (false)) else none))) else none))
noncomputable def Gen1Image.f (fuel : Nat) (l : List Int) : Option Bool := Gen1Image.b l
theorem Gen1Image.eq (fuel : Nat) (l : List Int) : (denF Gen1Image_E loopN fuel Try.f4 [.raw] [.d (.sl (.int .u8)) l] [] Gen1Image.k) = Gen1Image.f fuel l := by
  kernel_rfl


end Go.Proofs.Ytlmljpmohljefaa
