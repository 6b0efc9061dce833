/-
  No cell of these rows narrows 'for every input' (looked for: loops, veiled, ifaces, maps, wideKeys, modest, calm, conditions, laid).
  DERIVED. THE GIVEN ROWS OF THIS SEAT. 12 by the template 'for every input the law returns true; each argument reads behind the call as it read before'; 0 by the template 'total and deterministic' (their statements: YtlmljpmohljefaaTotals.lean).
  GIVEN WITH THE SEED: the statements are not yours to turn. If you find one false, say at which input.
  Laid BY PROGRAM, IN A SANDBOX (cutbox-rows.mjs): the forced cells as the released guide's own fill.sh prints them over the translation 53edd8f7d87cd916… (all of the seat's roots in one cut). By AI agents, Wed Nov 11 2026. No macro, syntax, notation, axiom, sorry.
-/
import Derived.Test.YtlmljpmohljefaaChecked
import GoSem.Claim
import GoSem.ClaimJoined
import GoSem.ClaimMapViews
import Derived.JoinedTies
import Derived.KernelRfl
namespace Go.Proofs.Ytlmljpmohljefaa
/- THE CELL 'sum', in the pinned program and in every row, IS THE sha256 OF THE DUMP (.gsa) THAT YtlmljpmohljefaaProg.lean LOADS. Nothing in Lean hashes anything: it is a label: what it is worth is what the hold of that sum in a sandbox is worth. -/
noncomputable def Try.pinned : Pinned := { name := "ytlmljpmohljefaa", sum := "53edd8f7d87cd916d38e9f726ba7a373d91b6aec6333401ec0cc562c0a8c5ef8", checked := Try.checked }
namespace Rows
def none {H : Type} : Left H := { results := [], args := [] }

/-- 'polyglotlaw11.Gen1Writes': WHATEVER THE INPUT: true; the input reads as it did. -/
def gen1WritesSpec : ChangeSpec := { name := "gen1Writes", fn := fun _ => fun
  | [d] => { results := [.lit (.bool true)], args := [d] }
  | _ => none }
def gen1WritesRow : OpenClaim := { program := "ytlmljpmohljefaa", sum := "53edd8f7d87cd916d38e9f726ba7a373d91b6aec6333401ec0cc562c0a8c5ef8", func := "polyglot/polyglotlaw11.Gen1Writes", spec := "gen1Writes", unfollowed := true, recurses := true, apart := false }
def Gen1WritesSaid : Prop := gen1WritesRow.holds Try.pinned (OpenSpec.ofChange gen1WritesSpec)

/-- ITS FALSE NEIGHBOUR: 'it returns false'. Refute it at one input. -/
def gen1WritesWrong : ChangeSpec := { name := "gen1Writes", fn := fun _ => fun
  | [d] => { results := [.lit (.bool false)], args := [d] }
  | _ => none }
def Gen1WritesWrongFalsely : Prop := gen1WritesRow.holds Try.pinned (OpenSpec.ofChange gen1WritesWrong)

/-- 'polyglotlaw11.Gen1Image': WHATEVER THE INPUT: true; the input reads as it did. -/
def gen1ImageSpec : ChangeSpec := { name := "gen1Image", fn := fun _ => fun
  | [d] => { results := [.lit (.bool true)], args := [d] }
  | _ => none }
def gen1ImageRow : OpenClaim := { program := "ytlmljpmohljefaa", sum := "53edd8f7d87cd916d38e9f726ba7a373d91b6aec6333401ec0cc562c0a8c5ef8", func := "polyglot/polyglotlaw11.Gen1Image", spec := "gen1Image", unfollowed := true, recurses := true, apart := false }
def Gen1ImageSaid : Prop := gen1ImageRow.holds Try.pinned (OpenSpec.ofChange gen1ImageSpec)

/-- ITS FALSE NEIGHBOUR: 'it returns false'. Refute it at one input. -/
def gen1ImageWrong : ChangeSpec := { name := "gen1Image", fn := fun _ => fun
  | [d] => { results := [.lit (.bool false)], args := [d] }
  | _ => none }
def Gen1ImageWrongFalsely : Prop := gen1ImageRow.holds Try.pinned (OpenSpec.ofChange gen1ImageWrong)

/-- 'polyglotlaw11.Gen1Reads': WHATEVER THE INPUT: true; the input reads as it did. -/
def gen1ReadsSpec : ChangeSpec := { name := "gen1Reads", fn := fun _ => fun
  | [d] => { results := [.lit (.bool true)], args := [d] }
  | _ => none }
def gen1ReadsRow : OpenClaim := { program := "ytlmljpmohljefaa", sum := "53edd8f7d87cd916d38e9f726ba7a373d91b6aec6333401ec0cc562c0a8c5ef8", func := "polyglot/polyglotlaw11.Gen1Reads", spec := "gen1Reads", unfollowed := true, recurses := true, apart := false }
def Gen1ReadsSaid : Prop := gen1ReadsRow.holds Try.pinned (OpenSpec.ofChange gen1ReadsSpec)

/-- ITS FALSE NEIGHBOUR: 'it returns false'. Refute it at one input. -/
def gen1ReadsWrong : ChangeSpec := { name := "gen1Reads", fn := fun _ => fun
  | [d] => { results := [.lit (.bool false)], args := [d] }
  | _ => none }
def Gen1ReadsWrongFalsely : Prop := gen1ReadsRow.holds Try.pinned (OpenSpec.ofChange gen1ReadsWrong)

/-- 'polyglotlaw11.Gen1Back': WHATEVER THE INPUT: true; the input reads as it did. -/
def gen1BackSpec : ChangeSpec := { name := "gen1Back", fn := fun _ => fun
  | [d] => { results := [.lit (.bool true)], args := [d] }
  | _ => none }
def gen1BackRow : OpenClaim := { program := "ytlmljpmohljefaa", sum := "53edd8f7d87cd916d38e9f726ba7a373d91b6aec6333401ec0cc562c0a8c5ef8", func := "polyglot/polyglotlaw11.Gen1Back", spec := "gen1Back", unfollowed := true, recurses := true, apart := false }
def Gen1BackSaid : Prop := gen1BackRow.holds Try.pinned (OpenSpec.ofChange gen1BackSpec)

/-- ITS FALSE NEIGHBOUR: 'it returns false'. Refute it at one input. -/
def gen1BackWrong : ChangeSpec := { name := "gen1Back", fn := fun _ => fun
  | [d] => { results := [.lit (.bool false)], args := [d] }
  | _ => none }
def Gen1BackWrongFalsely : Prop := gen1BackRow.holds Try.pinned (OpenSpec.ofChange gen1BackWrong)

/-- 'polyglotlaw13.Gen2Writes': WHATEVER THE INPUT: true; the input reads as it did. -/
def gen2WritesSpec : ChangeSpec := { name := "gen2Writes", fn := fun _ => fun
  | [d] => { results := [.lit (.bool true)], args := [d] }
  | _ => none }
def gen2WritesRow : OpenClaim := { program := "ytlmljpmohljefaa", sum := "53edd8f7d87cd916d38e9f726ba7a373d91b6aec6333401ec0cc562c0a8c5ef8", func := "polyglot/polyglotlaw13.Gen2Writes", spec := "gen2Writes", unfollowed := true, recurses := true, apart := false }
def Gen2WritesSaid : Prop := gen2WritesRow.holds Try.pinned (OpenSpec.ofChange gen2WritesSpec)

/-- ITS FALSE NEIGHBOUR: 'it returns false'. Refute it at one input. -/
def gen2WritesWrong : ChangeSpec := { name := "gen2Writes", fn := fun _ => fun
  | [d] => { results := [.lit (.bool false)], args := [d] }
  | _ => none }
def Gen2WritesWrongFalsely : Prop := gen2WritesRow.holds Try.pinned (OpenSpec.ofChange gen2WritesWrong)

/-- 'polyglotlaw13.Gen2Image': WHATEVER THE INPUT: true; the input reads as it did. -/
def gen2ImageSpec : ChangeSpec := { name := "gen2Image", fn := fun _ => fun
  | [d] => { results := [.lit (.bool true)], args := [d] }
  | _ => none }
def gen2ImageRow : OpenClaim := { program := "ytlmljpmohljefaa", sum := "53edd8f7d87cd916d38e9f726ba7a373d91b6aec6333401ec0cc562c0a8c5ef8", func := "polyglot/polyglotlaw13.Gen2Image", spec := "gen2Image", unfollowed := true, recurses := true, apart := false }
def Gen2ImageSaid : Prop := gen2ImageRow.holds Try.pinned (OpenSpec.ofChange gen2ImageSpec)

/-- ITS FALSE NEIGHBOUR: 'it returns false'. Refute it at one input. -/
def gen2ImageWrong : ChangeSpec := { name := "gen2Image", fn := fun _ => fun
  | [d] => { results := [.lit (.bool false)], args := [d] }
  | _ => none }
def Gen2ImageWrongFalsely : Prop := gen2ImageRow.holds Try.pinned (OpenSpec.ofChange gen2ImageWrong)

/-- 'polyglotlaw13.Gen2Reads': WHATEVER THE INPUT: true; the input reads as it did. -/
def gen2ReadsSpec : ChangeSpec := { name := "gen2Reads", fn := fun _ => fun
  | [d] => { results := [.lit (.bool true)], args := [d] }
  | _ => none }
def gen2ReadsRow : OpenClaim := { program := "ytlmljpmohljefaa", sum := "53edd8f7d87cd916d38e9f726ba7a373d91b6aec6333401ec0cc562c0a8c5ef8", func := "polyglot/polyglotlaw13.Gen2Reads", spec := "gen2Reads", unfollowed := true, recurses := true, apart := false }
def Gen2ReadsSaid : Prop := gen2ReadsRow.holds Try.pinned (OpenSpec.ofChange gen2ReadsSpec)

/-- ITS FALSE NEIGHBOUR: 'it returns false'. Refute it at one input. -/
def gen2ReadsWrong : ChangeSpec := { name := "gen2Reads", fn := fun _ => fun
  | [d] => { results := [.lit (.bool false)], args := [d] }
  | _ => none }
def Gen2ReadsWrongFalsely : Prop := gen2ReadsRow.holds Try.pinned (OpenSpec.ofChange gen2ReadsWrong)

/-- 'polyglotlaw13.Gen2Back': WHATEVER THE INPUT: true; the input reads as it did. -/
def gen2BackSpec : ChangeSpec := { name := "gen2Back", fn := fun _ => fun
  | [d] => { results := [.lit (.bool true)], args := [d] }
  | _ => none }
def gen2BackRow : OpenClaim := { program := "ytlmljpmohljefaa", sum := "53edd8f7d87cd916d38e9f726ba7a373d91b6aec6333401ec0cc562c0a8c5ef8", func := "polyglot/polyglotlaw13.Gen2Back", spec := "gen2Back", unfollowed := true, recurses := true, apart := false }
def Gen2BackSaid : Prop := gen2BackRow.holds Try.pinned (OpenSpec.ofChange gen2BackSpec)

/-- ITS FALSE NEIGHBOUR: 'it returns false'. Refute it at one input. -/
def gen2BackWrong : ChangeSpec := { name := "gen2Back", fn := fun _ => fun
  | [d] => { results := [.lit (.bool false)], args := [d] }
  | _ => none }
def Gen2BackWrongFalsely : Prop := gen2BackRow.holds Try.pinned (OpenSpec.ofChange gen2BackWrong)

/-- 'polyglotlaw16.FitWhy': WHATEVER THE INPUT: true; the input reads as it did. -/
def fitWhySpec : ChangeSpec := { name := "fitWhy", fn := fun _ => fun
  | [d1, d2] => { results := [.lit (.bool true)], args := [d1, d2] }
  | _ => none }
def fitWhyRow : OpenClaim := { program := "ytlmljpmohljefaa", sum := "53edd8f7d87cd916d38e9f726ba7a373d91b6aec6333401ec0cc562c0a8c5ef8", func := "polyglot/polyglotlaw16.FitWhy", spec := "fitWhy", unfollowed := true, recurses := true, apart := false }
def FitWhySaid : Prop := fitWhyRow.holds Try.pinned (OpenSpec.ofChange fitWhySpec)

/-- ITS FALSE NEIGHBOUR: 'it returns false'. Refute it at one input. -/
def fitWhyWrong : ChangeSpec := { name := "fitWhy", fn := fun _ => fun
  | [d1, d2] => { results := [.lit (.bool false)], args := [d1, d2] }
  | _ => none }
def FitWhyWrongFalsely : Prop := fitWhyRow.holds Try.pinned (OpenSpec.ofChange fitWhyWrong)

/-- 'polyglotlaw16.FitRises': WHATEVER THE INPUT: true; the input reads as it did. -/
def fitRisesSpec : ChangeSpec := { name := "fitRises", fn := fun _ => fun
  | [d] => { results := [.lit (.bool true)], args := [d] }
  | _ => none }
def fitRisesRow : OpenClaim := { program := "ytlmljpmohljefaa", sum := "53edd8f7d87cd916d38e9f726ba7a373d91b6aec6333401ec0cc562c0a8c5ef8", func := "polyglot/polyglotlaw16.FitRises", spec := "fitRises", unfollowed := true, recurses := true, apart := false }
def FitRisesSaid : Prop := fitRisesRow.holds Try.pinned (OpenSpec.ofChange fitRisesSpec)

/-- ITS FALSE NEIGHBOUR: 'it returns false'. Refute it at one input. -/
def fitRisesWrong : ChangeSpec := { name := "fitRises", fn := fun _ => fun
  | [d] => { results := [.lit (.bool false)], args := [d] }
  | _ => none }
def FitRisesWrongFalsely : Prop := fitRisesRow.holds Try.pinned (OpenSpec.ofChange fitRisesWrong)

/-- 'polyglotlaw16.FitMany': WHATEVER THE INPUT: true; the input reads as it did. -/
def fitManySpec : ChangeSpec := { name := "fitMany", fn := fun _ => fun
  | [d1, d2] => { results := [.lit (.bool true)], args := [d1, d2] }
  | _ => none }
def fitManyRow : OpenClaim := { program := "ytlmljpmohljefaa", sum := "53edd8f7d87cd916d38e9f726ba7a373d91b6aec6333401ec0cc562c0a8c5ef8", func := "polyglot/polyglotlaw16.FitMany", spec := "fitMany", unfollowed := true, recurses := true, apart := false }
def FitManySaid : Prop := fitManyRow.holds Try.pinned (OpenSpec.ofChange fitManySpec)

/-- ITS FALSE NEIGHBOUR: 'it returns false'. Refute it at one input. -/
def fitManyWrong : ChangeSpec := { name := "fitMany", fn := fun _ => fun
  | [d1, d2] => { results := [.lit (.bool false)], args := [d1, d2] }
  | _ => none }
def FitManyWrongFalsely : Prop := fitManyRow.holds Try.pinned (OpenSpec.ofChange fitManyWrong)

/-- 'polyglotlaw16.FitWrites': WHATEVER THE INPUT: true; the input reads as it did. -/
def fitWritesSpec : ChangeSpec := { name := "fitWrites", fn := fun _ => fun
  | [d] => { results := [.lit (.bool true)], args := [d] }
  | _ => none }
def fitWritesRow : OpenClaim := { program := "ytlmljpmohljefaa", sum := "53edd8f7d87cd916d38e9f726ba7a373d91b6aec6333401ec0cc562c0a8c5ef8", func := "polyglot/polyglotlaw16.FitWrites", spec := "fitWrites", unfollowed := true, recurses := true, apart := false }
def FitWritesSaid : Prop := fitWritesRow.holds Try.pinned (OpenSpec.ofChange fitWritesSpec)

/-- ITS FALSE NEIGHBOUR: 'it returns false'. Refute it at one input. -/
def fitWritesWrong : ChangeSpec := { name := "fitWrites", fn := fun _ => fun
  | [d] => { results := [.lit (.bool false)], args := [d] }
  | _ => none }
def FitWritesWrongFalsely : Prop := fitWritesRow.holds Try.pinned (OpenSpec.ofChange fitWritesWrong)

/- THE SECOND FORM. 'bulk': how many values and letters a reading holds, each counted each time it is reached (what is shared counts as often as it is met; a slice's spare places count too). A statement '..UptoSaid' is the law's where the arguments, and the package variables that the reading takes, are together of bulk at most 1048576: NARROWER than '..Said'. Prove '..Said' where nothing that the law and all that it calls make is longer than what came in: it says more and counts as full. Else prove '..UptoSaid'. A law counts once. -/
mutual
def uptoBulk {H : Type} : DataW H → Nat
  | .lit (.string bytes) => bytes.length + 1
  | .lit _ => 1
  | .nil => 1
  | .ptr d => uptoBulk d + 1
  | .slice elems spare => uptoBulkAll elems + uptoBulkAll spare + 1
  | .agg parts => uptoBulkAll parts + 1
  | .iface _ d => uptoBulk d + 1
  | .map entries => uptoBulkEntries entries + 1
  | .held _ => 1
def uptoBulkAll {H : Type} : List (DataW H) → Nat
  | [] => 0
  | d :: r => uptoBulk d + uptoBulkAll r
def uptoBulkEntries {H : Type} : List (Lit × DataW H) → Nat
  | [] => 0
  | x :: r => uptoBulkEntry x + uptoBulkEntries r
def uptoBulkEntry {H : Type} : Lit × DataW H → Nat
  | (.string bytes, d) => bytes.length + uptoBulk d + 1
  | (_, d) => uptoBulk d + 1
 end
def uptoSmall : (H : Type) → List (DataW H) → Bool := fun _ ds => decide (uptoBulkAll ds ≤ 1048576)
def OpenSpec.upto (s : _root_.Go.ChangeSpec) : _root_.Go.OpenSpec := { _root_.Go.OpenSpec.ofChange s with cond := some uptoSmall }

/-- 'polyglotlaw11.Gen1Writes', WHERE WHAT IT READS IS OF BULK AT MOST 1048576: true; the input reads as it did. -/
def gen1WritesUptoRow : OpenClaim := { program := "ytlmljpmohljefaa", sum := "53edd8f7d87cd916d38e9f726ba7a373d91b6aec6333401ec0cc562c0a8c5ef8", func := "polyglot/polyglotlaw11.Gen1Writes", spec := "gen1Writes", unfollowed := true, recurses := true, apart := false, narrowed := true }
def Gen1WritesUptoSaid : Prop := gen1WritesUptoRow.holds Try.pinned (OpenSpec.upto gen1WritesSpec)

/-- 'polyglotlaw11.Gen1Image', WHERE WHAT IT READS IS OF BULK AT MOST 1048576: true; the input reads as it did. -/
def gen1ImageUptoRow : OpenClaim := { program := "ytlmljpmohljefaa", sum := "53edd8f7d87cd916d38e9f726ba7a373d91b6aec6333401ec0cc562c0a8c5ef8", func := "polyglot/polyglotlaw11.Gen1Image", spec := "gen1Image", unfollowed := true, recurses := true, apart := false, narrowed := true }
def Gen1ImageUptoSaid : Prop := gen1ImageUptoRow.holds Try.pinned (OpenSpec.upto gen1ImageSpec)

/-- 'polyglotlaw11.Gen1Reads', WHERE WHAT IT READS IS OF BULK AT MOST 1048576: true; the input reads as it did. -/
def gen1ReadsUptoRow : OpenClaim := { program := "ytlmljpmohljefaa", sum := "53edd8f7d87cd916d38e9f726ba7a373d91b6aec6333401ec0cc562c0a8c5ef8", func := "polyglot/polyglotlaw11.Gen1Reads", spec := "gen1Reads", unfollowed := true, recurses := true, apart := false, narrowed := true }
def Gen1ReadsUptoSaid : Prop := gen1ReadsUptoRow.holds Try.pinned (OpenSpec.upto gen1ReadsSpec)

/-- 'polyglotlaw11.Gen1Back', WHERE WHAT IT READS IS OF BULK AT MOST 1048576: true; the input reads as it did. -/
def gen1BackUptoRow : OpenClaim := { program := "ytlmljpmohljefaa", sum := "53edd8f7d87cd916d38e9f726ba7a373d91b6aec6333401ec0cc562c0a8c5ef8", func := "polyglot/polyglotlaw11.Gen1Back", spec := "gen1Back", unfollowed := true, recurses := true, apart := false, narrowed := true }
def Gen1BackUptoSaid : Prop := gen1BackUptoRow.holds Try.pinned (OpenSpec.upto gen1BackSpec)

/-- 'polyglotlaw13.Gen2Writes', WHERE WHAT IT READS IS OF BULK AT MOST 1048576: true; the input reads as it did. -/
def gen2WritesUptoRow : OpenClaim := { program := "ytlmljpmohljefaa", sum := "53edd8f7d87cd916d38e9f726ba7a373d91b6aec6333401ec0cc562c0a8c5ef8", func := "polyglot/polyglotlaw13.Gen2Writes", spec := "gen2Writes", unfollowed := true, recurses := true, apart := false, narrowed := true }
def Gen2WritesUptoSaid : Prop := gen2WritesUptoRow.holds Try.pinned (OpenSpec.upto gen2WritesSpec)

/-- 'polyglotlaw13.Gen2Image', WHERE WHAT IT READS IS OF BULK AT MOST 1048576: true; the input reads as it did. -/
def gen2ImageUptoRow : OpenClaim := { program := "ytlmljpmohljefaa", sum := "53edd8f7d87cd916d38e9f726ba7a373d91b6aec6333401ec0cc562c0a8c5ef8", func := "polyglot/polyglotlaw13.Gen2Image", spec := "gen2Image", unfollowed := true, recurses := true, apart := false, narrowed := true }
def Gen2ImageUptoSaid : Prop := gen2ImageUptoRow.holds Try.pinned (OpenSpec.upto gen2ImageSpec)

/-- 'polyglotlaw13.Gen2Reads', WHERE WHAT IT READS IS OF BULK AT MOST 1048576: true; the input reads as it did. -/
def gen2ReadsUptoRow : OpenClaim := { program := "ytlmljpmohljefaa", sum := "53edd8f7d87cd916d38e9f726ba7a373d91b6aec6333401ec0cc562c0a8c5ef8", func := "polyglot/polyglotlaw13.Gen2Reads", spec := "gen2Reads", unfollowed := true, recurses := true, apart := false, narrowed := true }
def Gen2ReadsUptoSaid : Prop := gen2ReadsUptoRow.holds Try.pinned (OpenSpec.upto gen2ReadsSpec)

/-- 'polyglotlaw13.Gen2Back', WHERE WHAT IT READS IS OF BULK AT MOST 1048576: true; the input reads as it did. -/
def gen2BackUptoRow : OpenClaim := { program := "ytlmljpmohljefaa", sum := "53edd8f7d87cd916d38e9f726ba7a373d91b6aec6333401ec0cc562c0a8c5ef8", func := "polyglot/polyglotlaw13.Gen2Back", spec := "gen2Back", unfollowed := true, recurses := true, apart := false, narrowed := true }
def Gen2BackUptoSaid : Prop := gen2BackUptoRow.holds Try.pinned (OpenSpec.upto gen2BackSpec)

/-- 'polyglotlaw16.FitWhy', WHERE WHAT IT READS IS OF BULK AT MOST 1048576: true; the input reads as it did. -/
def fitWhyUptoRow : OpenClaim := { program := "ytlmljpmohljefaa", sum := "53edd8f7d87cd916d38e9f726ba7a373d91b6aec6333401ec0cc562c0a8c5ef8", func := "polyglot/polyglotlaw16.FitWhy", spec := "fitWhy", unfollowed := true, recurses := true, apart := false, narrowed := true }
def FitWhyUptoSaid : Prop := fitWhyUptoRow.holds Try.pinned (OpenSpec.upto fitWhySpec)

/-- 'polyglotlaw16.FitRises', WHERE WHAT IT READS IS OF BULK AT MOST 1048576: true; the input reads as it did. -/
def fitRisesUptoRow : OpenClaim := { program := "ytlmljpmohljefaa", sum := "53edd8f7d87cd916d38e9f726ba7a373d91b6aec6333401ec0cc562c0a8c5ef8", func := "polyglot/polyglotlaw16.FitRises", spec := "fitRises", unfollowed := true, recurses := true, apart := false, narrowed := true }
def FitRisesUptoSaid : Prop := fitRisesUptoRow.holds Try.pinned (OpenSpec.upto fitRisesSpec)

/-- 'polyglotlaw16.FitMany', WHERE WHAT IT READS IS OF BULK AT MOST 1048576: true; the input reads as it did. -/
def fitManyUptoRow : OpenClaim := { program := "ytlmljpmohljefaa", sum := "53edd8f7d87cd916d38e9f726ba7a373d91b6aec6333401ec0cc562c0a8c5ef8", func := "polyglot/polyglotlaw16.FitMany", spec := "fitMany", unfollowed := true, recurses := true, apart := false, narrowed := true }
def FitManyUptoSaid : Prop := fitManyUptoRow.holds Try.pinned (OpenSpec.upto fitManySpec)

/-- 'polyglotlaw16.FitWrites', WHERE WHAT IT READS IS OF BULK AT MOST 1048576: true; the input reads as it did. -/
def fitWritesUptoRow : OpenClaim := { program := "ytlmljpmohljefaa", sum := "53edd8f7d87cd916d38e9f726ba7a373d91b6aec6333401ec0cc562c0a8c5ef8", func := "polyglot/polyglotlaw16.FitWrites", spec := "fitWrites", unfollowed := true, recurses := true, apart := false, narrowed := true }
def FitWritesUptoSaid : Prop := fitWritesUptoRow.holds Try.pinned (OpenSpec.upto fitWritesSpec)

end Rows
end Go.Proofs.Ytlmljpmohljefaa
