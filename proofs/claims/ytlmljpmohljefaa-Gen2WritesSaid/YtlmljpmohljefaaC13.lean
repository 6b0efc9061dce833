/- printed by denfn.py -/
import Derived.Test.YtlmljpmohljefaaTh
import Derived.Test.YtlmljpmohljefaaS11
set_option linter.unusedVariables false
namespace Go.Proofs.Ytlmljpmohljefaa
open Go.Den
noncomputable def s_awake13 : Den.Sum := ⟨[], fun args objs κ => match args, objs with
  | [], [] => κ [.d .bool true] []
  | _, _ => none⟩
noncomputable def awake13_E : Env := ⟨th, gam [(26, s_enc2)], fun i => ⟨[], [], []⟩⟩
noncomputable def awake13.k (rs : List AV) (os : List Den.Obj) : Option Bool :=
  match rs, os with
  | [.d .bool r0], [] => some r0
  | _, _ => none
noncomputable def awake13.b (u : Unit) : Option Bool :=
  some (((enc2 (4 : Int) 0 0 (1 : Int) (2 : Int) 0 0 0 0 0 ((0, ((veil (4294967296 : Int)), (0, (((1 : Int), (2 : Int)), (false, ([] : List (Int × (List Int)))))))) :: ([] : List (Int × (Int × (Int × ((Int × Int) × (Bool × (List (Int × (List Int))))))))))).2 == (14 : Int)))
noncomputable def awake13.f (fuel : Nat) (u : Unit) : Option Bool := awake13.b u
theorem awake13.eq (fuel : Nat) (u : Unit) : (denF awake13_E loopN fuel Try.f25 [.raw] [] [] awake13.k) = awake13.f fuel u := by
  kernel_rfl


noncomputable def Gen2Writes_E : Env := ⟨th, gam [(15, s_few10), (25, s_awake13), (26, s_enc2), (27, s_fits2), (28, s_fits13), (20, s_valid), (29, s_size2), (30, s_body13)], fun i => ⟨[], [], []⟩⟩
noncomputable def Gen2Writes.k (rs : List AV) (os : List Den.Obj) : Option Bool :=
  match rs, os with
  | [.d .bool r0], [] => some r0
  | _, _ => none
noncomputable def Gen2Writes.b (mkind : Int) (mfrom0 : Int) (minc : Int) (mlo : Int) (mhi : Int) (mseq : Int) (mtarget : Int) (mlife : Int) (mepoch : Int) (mbase : Int) (mrecs : List (Int × Int × Int × (Int × Int) × Bool × List (Int × List Int))) : Option Bool :=
  (if (smallRecs mrecs) then (if (!(few8 mrecs)) then some (true) else (if (smallRecs mrecs) then (if (smallRecs mrecs) then (if (smallRecs mrecs) then (if (!((fits2 mkind mfrom0 minc mlo mhi mseq mtarget mlife mepoch mbase mrecs) == (fits13 mkind mfrom0 minc mlo mhi mseq mtarget mlife mepoch mbase mrecs))) then some (false) else (if (smallRecs mrecs) then (if (!(validF mkind mfrom0 minc mlo mhi mseq mtarget mlife mepoch mbase mrecs)) then (if (((((List.length (enc2 mkind mfrom0 minc mlo mhi mseq mtarget mlife mepoch mbase mrecs).1)) : Nat) : Int) == (0 : Int)) then (if ((enc2 mkind mfrom0 minc mlo mhi mseq mtarget mlife mepoch mbase mrecs).2 == (1 : Int)) then (if (smallRecs mrecs) then (if ((size2 mkind mfrom0 minc mlo mhi mseq mtarget mlife mepoch mbase mrecs) == (0 : Int)) then some (true) else some (false)) else none) else some (false)) else some (false)) else (if (smallRecs mrecs) then (if ((validF mkind mfrom0 minc mlo mhi mseq mtarget mlife mepoch mbase mrecs) && (smallRecs mrecs)) then (if ((size2 mkind mfrom0 minc mlo mhi mseq mtarget mlife mepoch mbase mrecs) != ((((List.length (body2 mkind mfrom0 minc mlo mhi mseq mtarget mrecs))) : Nat) : Int)) then some (false) else (if (smallRecs mrecs) then (if (!(fits13 mkind mfrom0 minc mlo mhi mseq mtarget mlife mepoch mbase mrecs)) then (if (((((List.length (enc2 mkind mfrom0 minc mlo mhi mseq mtarget mlife mepoch mbase mrecs).1)) : Nat) : Int) == (0 : Int)) then (if ((enc2 mkind mfrom0 minc mlo mhi mseq mtarget mlife mepoch mbase mrecs).2 == (14 : Int)) then some (true) else some (false)) else some (false)) else (if ((enc2 mkind mfrom0 minc mlo mhi mseq mtarget mlife mepoch mbase mrecs).2 == (0 : Int)) then (if ((validF mkind mfrom0 minc mlo mhi mseq mtarget mlife mepoch mbase mrecs) && (smallRecs mrecs)) then (if ((ByteArray.toList (strOf (enc2 mkind mfrom0 minc mlo mhi mseq mtarget mlife mepoch mbase mrecs).1)) == (ByteArray.toList (strOf (body2 mkind mfrom0 minc mlo mhi mseq mtarget mrecs)))) then some (true) else some (false)) else none) else some (false))) else none)) else none) else none)) else none)) else none) else none) else none)) else none)
noncomputable def Gen2Writes.f (fuel : Nat) (mkind : Int) (mfrom0 : Int) (minc : Int) (mlo : Int) (mhi : Int) (mseq : Int) (mtarget : Int) (mlife : Int) (mepoch : Int) (mbase : Int) (mrecs : List (Int × Int × Int × (Int × Int) × Bool × List (Int × List Int))) : Option Bool := Gen2Writes.b mkind mfrom0 minc mlo mhi mseq mtarget mlife mepoch mbase mrecs
theorem Gen2Writes.eq (fuel : Nat) (mkind : Int) (mfrom0 : Int) (minc : Int) (mlo : Int) (mhi : Int) (mseq : Int) (mtarget : Int) (mlife : Int) (mepoch : Int) (mbase : Int) (mrecs : List (Int × Int × Int × (Int × Int) × Bool × List (Int × List Int))) : (denF Gen2Writes_E loopN fuel Try.f7 [.raw] [.agg [.d (.int .i64) mkind, .d (.int .i64) mfrom0, .d (.int .i64) minc, .d (.int .i64) mlo, .d (.int .i64) mhi, .d (.int .i64) mseq, .d (.int .i64) mtarget, .d (.int .i64) mlife, .d (.int .i64) mepoch, .d (.int .i64) mbase, .d (.sl (.pair (.int .i64) (.pair (.int .i64) (.pair (.int .i64) (.pair (.pair (.int .i64) (.int .i64)) (.pair .bool (.sl (.pair (.int .i64) (.sl (.int .u8)))))))))) mrecs]] [] Gen2Writes.k) = Gen2Writes.f fuel mkind mfrom0 minc mlo mhi mseq mtarget mlife mepoch mbase mrecs := by
  kernel_rfl


end Go.Proofs.Ytlmljpmohljefaa
