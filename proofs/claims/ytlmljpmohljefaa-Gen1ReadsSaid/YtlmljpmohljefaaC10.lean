/- printed by denfn.py -/
import Derived.Test.YtlmljpmohljefaaTh
import Derived.Test.YtlmljpmohljefaaS9
set_option linter.unusedVariables false
namespace Go.Proofs.Ytlmljpmohljefaa
open Go.Den
noncomputable def Gen1Reads_E : Env := ⟨th, gam [(16, s_awake11), (22, s_decb), (23, s_msg1b), (24, s_alike10)], fun i => ⟨[], [], []⟩⟩
noncomputable def Gen1Reads.k (rs : List AV) (os : List Den.Obj) : Option Bool :=
  match rs, os with
  | [.d .bool r0], [] => some r0
  | _, _ => none
noncomputable def Gen1Reads.b (l : List Int) : Option Bool :=
  (if (decide (((((List.length l)) : Nat) : Int) > (120 : Int))) then some (true) else (if (inB l) then (match (veil (Option.some (decF l))) with | none => none | some y0 => (if (inB l) then (match (veil (Option.some (msgL l))) with | none => none | some y1 => (if (!y1.2.2.2.2.2.2.2.2) then (if (y0.2.2.2.2.2.2.2.2 == (4 : Int)) then (if ((smallRecs y0.2.2.2.2.2.2.2.1) && (smallRecs ([] : List (Int × (Int × (Int × ((Int × Int) × (Bool × (List (Int × (List Int))))))))))) then (if ((y0.1 == 0) && ((y0.2.1 == 0) && ((y0.2.2.1 == 0) && ((y0.2.2.2.1 == 0) && ((y0.2.2.2.2.1 == 0) && ((y0.2.2.2.2.2.1 == 0) && ((y0.2.2.2.2.2.2.1 == 0) && ((0 == 0) && ((0 == 0) && ((0 == 0) && (allGo y0.2.2.2.2.2.2.2.1 ([] : List (Int × (Int × (Int × ((Int × Int) × (Bool × (List (Int × (List Int)))))))))))))))))))) then some (true) else some (false)) else none) else some (false)) else (if (y0.2.2.2.2.2.2.2.2 == (0 : Int)) then (if ((smallRecs y0.2.2.2.2.2.2.2.1) && (smallRecs y1.2.2.2.2.2.2.2.1)) then (if ((y0.1 == y1.1) && ((y0.2.1 == y1.2.1) && ((y0.2.2.1 == y1.2.2.1) && ((y0.2.2.2.1 == y1.2.2.2.1) && ((y0.2.2.2.2.1 == y1.2.2.2.2.1) && ((y0.2.2.2.2.2.1 == y1.2.2.2.2.2.1) && ((y0.2.2.2.2.2.2.1 == y1.2.2.2.2.2.2.1) && ((0 == 0) && ((0 == 0) && ((0 == 0) && (allGo y0.2.2.2.2.2.2.2.1 y1.2.2.2.2.2.2.2.1))))))))))) then some (true) else some (false)) else none) else some (false)))) else none)) else none))
noncomputable def Gen1Reads.f (fuel : Nat) (l : List Int) : Option Bool := Gen1Reads.b l
theorem Gen1Reads.eq (fuel : Nat) (l : List Int) : (denF Gen1Reads_E loopN fuel Try.f5 [.raw] [.d (.sl (.int .u8)) l] [] Gen1Reads.k) = Gen1Reads.f fuel l := by
  kernel_rfl


end Go.Proofs.Ytlmljpmohljefaa
