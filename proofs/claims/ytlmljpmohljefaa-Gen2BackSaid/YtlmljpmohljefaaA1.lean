/- Printed by auto.py: law13_Gen2Back, law13_rows, law13_num, fit_shaped, fit_room -/
import Derived.Test.YtlmljpmohljefaaTh
import Derived.Test.YtlmljpmohljefaaA0
import Derived.Test.YtlmljpmohljefaaP4
set_option linter.unusedVariables false
set_option linter.unusedSimpArgs false
namespace Go.Proofs.Ytlmljpmohljefaa
open Go.Den
noncomputable def law13_Gen2Back_E : Env := ⟨th, gam [(15, s_few10), (24, s_alike10), (25, s_awake13), (26, s_enc2), (28, s_fits13), (31, s_dec2b)], fun i => ⟨[], [], []⟩⟩
noncomputable def law13_Gen2Back.k (rs : List AV) (os : List Den.Obj) : Option Bool :=
  match rs, os with
  | [.d .bool r0], [] => some r0
  | _, _ => none
noncomputable def law13_Gen2Back.b (mKind : Int) (mFrom : Int) (mInc : Int) (mSpanLo : Int) (mSpanHi : Int) (mSeq : Int) (mTarget : Int) (mLife : Int) (mEpoch : Int) (mBase : Int) (mRecs : List (Int × Int × Int × (Int × Int) × Bool × List (Int × List Int))) : Option Bool :=
  (if (smallRecs mRecs) then (if (!(few8 mRecs)) then some (true) else (if (smallRecs mRecs) then (if (!(fits13 mKind mFrom mInc mSpanLo mSpanHi mSeq mTarget mLife mEpoch mBase mRecs)) then some (true) else (if (smallRecs mRecs) then (if (inS (enc2 mKind mFrom mInc mSpanLo mSpanHi mSeq mTarget mLife mEpoch mBase mRecs).1) then (match (veil (Option.some (decF2 (enc2 mKind mFrom mInc mSpanLo mSpanHi mSeq mTarget mLife mEpoch mBase mRecs).1))) with | none => none | some y0 => (if ((enc2 mKind mFrom mInc mSpanLo mSpanHi mSeq mTarget mLife mEpoch mBase mRecs).2 == (0 : Int)) then (if (y0.2.2.2.2.2.2.2.2 == (0 : Int)) then (if ((smallRecs y0.2.2.2.2.2.2.2.1) && (smallRecs mRecs)) then (if ((y0.1 == mKind) && ((y0.2.1 == mFrom) && ((y0.2.2.1 == mInc) && ((y0.2.2.2.1 == mSpanLo) && ((y0.2.2.2.2.1 == mSpanHi) && ((y0.2.2.2.2.2.1 == mSeq) && ((y0.2.2.2.2.2.2.1 == mTarget) && ((0 == mLife) && ((0 == mEpoch) && ((0 == mBase) && (allGo y0.2.2.2.2.2.2.2.1 mRecs))))))))))) then some (true) else some (false)) else none) else some (false)) else some (false))) else none) else none)) else none)) else none)
noncomputable def law13_Gen2Back.f (fuel : Nat) (mKind : Int) (mFrom : Int) (mInc : Int) (mSpanLo : Int) (mSpanHi : Int) (mSeq : Int) (mTarget : Int) (mLife : Int) (mEpoch : Int) (mBase : Int) (mRecs : List (Int × Int × Int × (Int × Int) × Bool × List (Int × List Int))) : Option Bool := law13_Gen2Back.b mKind mFrom mInc mSpanLo mSpanHi mSeq mTarget mLife mEpoch mBase mRecs
theorem law13_Gen2Back.eq (fuel : Nat) (mKind : Int) (mFrom : Int) (mInc : Int) (mSpanLo : Int) (mSpanHi : Int) (mSeq : Int) (mTarget : Int) (mLife : Int) (mEpoch : Int) (mBase : Int) (mRecs : List (Int × Int × Int × (Int × Int) × Bool × List (Int × List Int))) : (denF law13_Gen2Back_E loopN fuel Try.f10 [.raw] [.agg [.d (.int .i64) mKind, .d (.int .i64) mFrom, .d (.int .i64) mInc, .d (.int .i64) mSpanLo, .d (.int .i64) mSpanHi, .d (.int .i64) mSeq, .d (.int .i64) mTarget, .d (.int .i64) mLife, .d (.int .i64) mEpoch, .d (.int .i64) mBase, .d (.sl (.pair (.int .i64) (.pair (.int .i64) (.pair (.int .i64) (.pair (.pair (.int .i64) (.int .i64)) (.pair .bool (.sl (.pair (.int .i64) (.sl (.int .u8)))))))))) mRecs]] [] law13_Gen2Back.k) = law13_Gen2Back.f fuel mKind mFrom mInc mSpanLo mSpanHi mSeq mTarget mLife mEpoch mBase mRecs := by
  kernel_rfl

noncomputable def s_law13_Gen2Back : Den.Sum := ⟨[.dat (.pair (.int .i64) (.pair (.int .i64) (.pair (.int .i64) (.pair (.pair (.int .i64) (.int .i64)) (.pair (.int .i64) (.pair (.int .i64) (.pair (.int .i64) (.pair (.int .i64) (.pair (.int .i64) (.sl (.pair (.int .i64) (.pair (.int .i64) (.pair (.int .i64) (.pair (.pair (.int .i64) (.int .i64)) (.pair .bool (.sl (.pair (.int .i64) (.sl (.int .u8))))))))))))))))))) true], fun args objs κ => match args, objs with
  | [.agg [.d (.int .i64) mKind, .d (.int .i64) mFrom, .d (.int .i64) mInc, .d (.int .i64) mSpanLo, .d (.int .i64) mSpanHi, .d (.int .i64) mSeq, .d (.int .i64) mTarget, .d (.int .i64) mLife, .d (.int .i64) mEpoch, .d (.int .i64) mBase, .d (.sl (.pair (.int .i64) (.pair (.int .i64) (.pair (.int .i64) (.pair (.pair (.int .i64) (.int .i64)) (.pair .bool (.sl (.pair (.int .i64) (.sl (.int .u8)))))))))) mRecs]], [] => (match veil (law13_Gen2Back.f BIG mKind mFrom mInc mSpanLo mSpanHi mSeq mTarget mLife mEpoch mBase mRecs) with | none => none | some y => κ [.d .bool y] [])
  | _, _ => none⟩
theorem s_law13_Gen2Back_det : SumDet s_law13_Gen2Back := fun avs objs R κ => by
  show s_law13_Gen2Back.run avs objs (two κ) = (s_law13_Gen2Back.run avs objs (two some)).bind κ
  unfold s_law13_Gen2Back
  simp only [veil_eq]
  split
  · split <;> rfl
  · rfl
theorem s_law13_Gen2Back_ok : SumOk Try.prog 10 s_law13_Gen2Back := by
  have hE : EnvOk Try.prog law13_Gen2Back_E := env_ok (l := [(15, s_few10), (24, s_alike10), (25, s_awake13), (26, s_enc2), (28, s_fits13), (31, s_dec2b)]) th_ok any_ok ⟨⟨s_few10_ok, s_few10_det⟩, ⟨s_alike10_ok, s_alike10_det⟩, ⟨s_awake13_ok, s_awake13_det⟩, ⟨s_enc2_ok, s_enc2_det⟩, ⟨s_fits13_ok, s_fits13_det⟩, ⟨s_dec2b_ok, s_dec2b_det⟩, trivial⟩ _
  refine sum_ok hE Try.func10 rfl (by kernel_rfl) s_law13_Gen2Back [.raw] law13_Gen2Back.k ?_
  intro R avs objs κ r h
  unfold s_law13_Gen2Back at h
  simp only [veil_eq] at h
  split at h
  · rename_i mKind mFrom mInc mSpanLo mSpanHi mSeq mTarget mLife mEpoch mBase mRecs
    split at h
    · cases h
    · rename_i y hy
      refine ⟨BIG, _, _, _, (law13_Gen2Back.eq BIG mKind mFrom mInc mSpanLo mSpanHi mSeq mTarget mLife mEpoch mBase mRecs).trans hy, ?_, h⟩
      intro rs ros hk
      unfold law13_Gen2Back.k at hk
      split at hk
      · first | (cases hk; exact ⟨rfl, rfl⟩) | (have e := Option.some.inj hk; rw [← e]; exact ⟨rfl, rfl⟩)
      · cases hk
  · cases h
noncomputable def law13_rows_E : Env := ⟨th, gam [(68, s_splitb)], fun i => if i = 5 then ⟨[1, 2, 8, 10], [], []⟩ else ⟨[], [], []⟩⟩
noncomputable def law13_rows.k (rs : List AV) (os : List Den.Obj) : Option ((List (Int × (List Int))) × Bool) :=
  match rs, os with
  | [.d (.sl (.pair (.int .i64) (.sl (.int .u8)))) r0, .d .bool r1], [] => some (r0, r1)
  | _, _ => none
noncomputable def law13_rows.s5 (b : List Int) (tags : List Int) (widths : List Int) (x1 : (List (Int × (List Int)))) (x2 : Int) : St := ⟨[.dead, .d (.sl (.int .i64)) (tags), .d (.sl (.int .i64)) (widths), .dead, .dead, .dead, .dead, .dead, .d (.sl (.pair (.int .i64) (.sl (.int .u8)))) x1, .dead, .d (.int .i64) x2, .dead, .dead, .dead, .dead, .dead, .dead, .dead, .dead, .dead, .dead, .dead, .dead, .dead, .dead, .dead, .dead, .dead, .dead, .dead, .dead, .dead, .dead, .dead, .dead, .dead, .dead, .dead, .dead, .dead, .dead, .dead, .dead, .dead, .dead, .dead, .dead, .dead, .dead, .dead, .dead, .dead, .dead, .dead, .dead], ofL [], 0⟩
noncomputable def law13_rows.b5 (b : List Int) (tags : List Int) (widths : List Int) (A5 : (List (Int × (List Int))) → Int → Option ((List (Int × (List Int))) × Bool)) (x1 : (List (Int × (List Int)))) (x2 : Int) : Option ((List (Int × (List Int))) × Bool) :=
  (if (decide (x2 < ((((List.length tags)) : Nat) : Int))) then (match (idx x1 x2) with | none => none | some y3 => (match (idx tags x2) with | none => none | some y4 => (if (y3.1 != y4) then some (([] : List (Int × (List Int))), false) else (match (idx x1 x2) with | none => none | some y5 => (match (idx widths x2) with | none => none | some y6 => (if (((((List.length y5.2)) : Nat) : Int) != y6) then some (([] : List (Int × (List Int))), false) else A5 x1 (Go.IntKind.wrap .i64 (x2 + (1 : Int))))))))) else some (x1, true))
noncomputable def law13_rows.l5 (fuel : Nat) (b : List Int) (tags : List Int) (widths : List Int) : Nat → (List (Int × (List Int))) → Int → Option ((List (Int × (List Int))) × Bool)
  | 0, _, _ => none
  | k + 1, x1, x2 => law13_rows.b5 b tags widths (law13_rows.l5 fuel b tags widths k) x1 x2
noncomputable def law13_rows.b (b : List Int) (tags : List Int) (widths : List Int) (E5 : (List (Int × (List Int))) → Int → Option ((List (Int × (List Int))) × Bool)) : Option ((List (Int × (List Int))) × Bool) :=
  (if (inS b) then (match (veil (Option.some (splitF b))) with | none => none | some y0 => (if (y0.2 != (0 : Int)) then some (([] : List (Int × (List Int))), false) else (if (decide (((((List.length y0.1)) : Nat) : Int) < ((((List.length tags)) : Nat) : Int))) then some (([] : List (Int × (List Int))), false) else E5 y0.1 (0 : Int)))) else none)
noncomputable def law13_rows.f (fuel : Nat) (b : List Int) (tags : List Int) (widths : List Int) : Option ((List (Int × (List Int))) × Bool) := law13_rows.b b tags widths (law13_rows.l5 fuel b tags widths fuel)
theorem law13_rows.l5_eq (fuel : Nat) (b : List Int) (tags : List Int) (widths : List Int) : ∀ (k : Nat) (x1 : (List (Int × (List Int)))) (x2 : Int), lp law13_rows_E fuel Try.f73 [.dat (.sl (.pair (.int .i64) (.sl (.int .u8)))) false, .raw] 0 law13_rows.k 5 [] k (law13_rows.s5 b tags widths x1 x2) = law13_rows.l5 fuel b tags widths k x1 x2 := by
  intro k
  induction k with
  | zero => intro x1 x2; rfl
  | succ k ih =>
    intro x1 x2
    have h : lp law13_rows_E fuel Try.f73 [.dat (.sl (.pair (.int .i64) (.sl (.int .u8)))) false, .raw] 0 law13_rows.k 5 [] (k + 1) (law13_rows.s5 b tags widths x1 x2) = law13_rows.b5 b tags widths (fun x1 x2 => lp law13_rows_E fuel Try.f73 [.dat (.sl (.pair (.int .i64) (.sl (.int .u8)))) false, .raw] 0 law13_rows.k 5 [] k (law13_rows.s5 b tags widths x1 x2)) x1 x2 := by kernel_rfl
    rw [h]
    have e5 : (fun x1 x2 => lp law13_rows_E fuel Try.f73 [.dat (.sl (.pair (.int .i64) (.sl (.int .u8)))) false, .raw] 0 law13_rows.k 5 [] k (law13_rows.s5 b tags widths x1 x2)) = law13_rows.l5 fuel b tags widths k := (funext fun x1 => (funext fun x2 => ih x1 x2))
    rw [e5]
    rfl
theorem law13_rows.eq (fuel : Nat) (b : List Int) (tags : List Int) (widths : List Int) : (denF law13_rows_E loopN fuel Try.f73 [.dat (.sl (.pair (.int .i64) (.sl (.int .u8)))) false, .raw] [.d (.sl (.int .u8)) b, .d (.sl (.int .i64)) tags, .d (.sl (.int .i64)) widths] [] law13_rows.k) = law13_rows.f fuel b tags widths := by
  have h : (denF law13_rows_E loopN fuel Try.f73 [.dat (.sl (.pair (.int .i64) (.sl (.int .u8)))) false, .raw] [.d (.sl (.int .u8)) b, .d (.sl (.int .i64)) tags, .d (.sl (.int .i64)) widths] [] law13_rows.k) = law13_rows.b b tags widths (fun x1 x2 => lp law13_rows_E fuel Try.f73 [.dat (.sl (.pair (.int .i64) (.sl (.int .u8)))) false, .raw] 0 law13_rows.k 5 [] fuel (law13_rows.s5 b tags widths x1 x2)) := by kernel_rfl
  rw [h]
  have e5 : (fun x1 x2 => lp law13_rows_E fuel Try.f73 [.dat (.sl (.pair (.int .i64) (.sl (.int .u8)))) false, .raw] 0 law13_rows.k 5 [] fuel (law13_rows.s5 b tags widths x1 x2)) = law13_rows.l5 fuel b tags widths fuel := (funext fun x1 => (funext fun x2 => law13_rows.l5_eq fuel b tags widths fuel x1 x2))
  rw [e5]
  rfl

noncomputable def s_law13_rows : Den.Sum := ⟨[.dat (.sl (.int .u8)) false, .dat (.sl (.int .i64)) false, .dat (.sl (.int .i64)) false], fun args objs κ => match args, objs with
  | [.d (.sl (.int .u8)) b, .d (.sl (.int .i64)) tags, .d (.sl (.int .i64)) widths], [] => (match veil (law13_rows.f BIG b tags widths) with | none => none | some y => κ [.d (.sl (.pair (.int .i64) (.sl (.int .u8)))) y.1, .d .bool y.2] [])
  | _, _ => none⟩
theorem s_law13_rows_det : SumDet s_law13_rows := fun avs objs R κ => by
  show s_law13_rows.run avs objs (two κ) = (s_law13_rows.run avs objs (two some)).bind κ
  unfold s_law13_rows
  simp only [veil_eq]
  split
  · split <;> rfl
  · rfl
theorem s_law13_rows_ok : SumOk Try.prog 73 s_law13_rows := by
  have hE : EnvOk Try.prog law13_rows_E := env_ok (l := [(68, s_splitb)]) th_ok any_ok ⟨⟨s_splitb_ok, s_splitb_det⟩, trivial⟩ _
  refine sum_ok hE Try.func73 rfl (by kernel_rfl) s_law13_rows [.dat (.sl (.pair (.int .i64) (.sl (.int .u8)))) false, .raw] law13_rows.k ?_
  intro R avs objs κ r h
  unfold s_law13_rows at h
  simp only [veil_eq] at h
  split at h
  · rename_i b tags widths
    split at h
    · cases h
    · rename_i y hy
      refine ⟨BIG, _, _, _, (law13_rows.eq BIG b tags widths).trans hy, ?_, h⟩
      intro rs ros hk
      unfold law13_rows.k at hk
      split at hk
      · first | (cases hk; exact ⟨rfl, rfl⟩) | (have e := Option.some.inj hk; rw [← e]; exact ⟨rfl, rfl⟩)
      · cases hk
  · cases h
noncomputable def law13_num_E : Env := ⟨th, gam [], fun i => if i = 3 then ⟨[0, 3, 4], [], []⟩ else ⟨[], [], []⟩⟩
noncomputable def law13_num.k (rs : List AV) (os : List Den.Obj) : Option Int :=
  match rs, os with
  | [.d (.int .i64) r0], [] => some r0
  | _, _ => none
noncomputable def law13_num.s3 (b : List Int) (x0 : Int) (x1 : Int) : St := ⟨[.d (.sl (.int .u8)) (b), .dead, .dead, .d (.int .i64) x0, .d (.int .i64) x1, .dead, .dead, .dead, .dead, .dead, .dead, .dead, .dead, .dead, .dead, .dead, .dead, .dead, .dead, .dead], ofL [], 0⟩
noncomputable def law13_num.b3 (b : List Int) (A3 : Int → Int → Option Int) (x0 : Int) (x1 : Int) : Option Int :=
  (if (decide (x1 < ((((List.length b)) : Nat) : Int))) then (match (idx b x1) with | none => none | some y2 => A3 (Go.IntKind.wrap .i64 ((Go.IntKind.wrap .i64 (x0 * (256 : Int))) + (Go.IntKind.wrap .i64 y2))) (Go.IntKind.wrap .i64 (x1 + (1 : Int)))) else some (x0))
noncomputable def law13_num.l3 (fuel : Nat) (b : List Int) : Nat → Int → Int → Option Int
  | 0, _, _ => none
  | k + 1, x0, x1 => law13_num.b3 b (law13_num.l3 fuel b k) x0 x1
noncomputable def law13_num.b (b : List Int) (E3 : Int → Int → Option Int) : Option Int :=
  E3 (0 : Int) (0 : Int)
noncomputable def law13_num.f (fuel : Nat) (b : List Int) : Option Int := law13_num.b b (law13_num.l3 fuel b fuel)
theorem law13_num.l3_eq (fuel : Nat) (b : List Int) : ∀ (k : Nat) (x0 : Int) (x1 : Int), lp law13_num_E fuel Try.f74 [.raw] 0 law13_num.k 3 [] k (law13_num.s3 b x0 x1) = law13_num.l3 fuel b k x0 x1 := by
  intro k
  induction k with
  | zero => intro x0 x1; rfl
  | succ k ih =>
    intro x0 x1
    have h : lp law13_num_E fuel Try.f74 [.raw] 0 law13_num.k 3 [] (k + 1) (law13_num.s3 b x0 x1) = law13_num.b3 b (fun x0 x1 => lp law13_num_E fuel Try.f74 [.raw] 0 law13_num.k 3 [] k (law13_num.s3 b x0 x1)) x0 x1 := by kernel_rfl
    rw [h]
    have e3 : (fun x0 x1 => lp law13_num_E fuel Try.f74 [.raw] 0 law13_num.k 3 [] k (law13_num.s3 b x0 x1)) = law13_num.l3 fuel b k := (funext fun x0 => (funext fun x1 => ih x0 x1))
    rw [e3]
    rfl
theorem law13_num.eq (fuel : Nat) (b : List Int) : (denF law13_num_E loopN fuel Try.f74 [.raw] [.d (.sl (.int .u8)) b] [] law13_num.k) = law13_num.f fuel b := by
  have h : (denF law13_num_E loopN fuel Try.f74 [.raw] [.d (.sl (.int .u8)) b] [] law13_num.k) = law13_num.b b (fun x0 x1 => lp law13_num_E fuel Try.f74 [.raw] 0 law13_num.k 3 [] fuel (law13_num.s3 b x0 x1)) := by kernel_rfl
  rw [h]
  have e3 : (fun x0 x1 => lp law13_num_E fuel Try.f74 [.raw] 0 law13_num.k 3 [] fuel (law13_num.s3 b x0 x1)) = law13_num.l3 fuel b fuel := (funext fun x0 => (funext fun x1 => law13_num.l3_eq fuel b fuel x0 x1))
  rw [e3]
  rfl

noncomputable def s_law13_num : Den.Sum := ⟨[.dat (.sl (.int .u8)) false], fun args objs κ => match args, objs with
  | [.d (.sl (.int .u8)) b], [] => (match veil (law13_num.f BIG b) with | none => none | some y => κ [.d (.int .i64) y] [])
  | _, _ => none⟩
theorem s_law13_num_det : SumDet s_law13_num := fun avs objs R κ => by
  show s_law13_num.run avs objs (two κ) = (s_law13_num.run avs objs (two some)).bind κ
  unfold s_law13_num
  simp only [veil_eq]
  split
  · split <;> rfl
  · rfl
theorem s_law13_num_ok : SumOk Try.prog 74 s_law13_num := by
  have hE : EnvOk Try.prog law13_num_E := env_ok (l := []) th_ok any_ok trivial _
  refine sum_ok hE Try.func74 rfl (by kernel_rfl) s_law13_num [.raw] law13_num.k ?_
  intro R avs objs κ r h
  unfold s_law13_num at h
  simp only [veil_eq] at h
  split at h
  · rename_i b
    split at h
    · cases h
    · rename_i y hy
      refine ⟨BIG, _, _, _, (law13_num.eq BIG b).trans hy, ?_, h⟩
      intro rs ros hk
      unfold law13_num.k at hk
      split at hk
      · first | (cases hk; exact ⟨rfl, rfl⟩) | (have e := Option.some.inj hk; rw [← e]; exact ⟨rfl, rfl⟩)
      · cases hk
  · cases h
noncomputable def fit_shaped_E : Env := ⟨th, gam [(20, s_valid)], fun i => ⟨[], [], []⟩⟩
noncomputable def fit_shaped.k (rs : List AV) (os : List Den.Obj) : Option Bool :=
  match rs, os with
  | [.d .bool r0], [] => some r0
  | _, _ => none
noncomputable def fit_shaped.b (mKind : Int) (mFrom : Int) (mInc : Int) (mSpanLo : Int) (mSpanHi : Int) (mSeq : Int) (mTarget : Int) (mLife : Int) (mEpoch : Int) (mBase : Int) (mRecs : List (Int × Int × Int × (Int × Int) × Bool × List (Int × List Int))) (gen : Int) : Option Bool :=
  (if (smallRecs mRecs) then (if (validF mKind mFrom mInc mSpanLo mSpanHi mSeq mTarget mLife mEpoch mBase mRecs) then (if (decide (gen ≥ (1 : Int))) then some ((decide (gen ≤ (3 : Int)))) else some (false)) else some (false)) else none)
noncomputable def fit_shaped.f (fuel : Nat) (mKind : Int) (mFrom : Int) (mInc : Int) (mSpanLo : Int) (mSpanHi : Int) (mSeq : Int) (mTarget : Int) (mLife : Int) (mEpoch : Int) (mBase : Int) (mRecs : List (Int × Int × Int × (Int × Int) × Bool × List (Int × List Int))) (gen : Int) : Option Bool := fit_shaped.b mKind mFrom mInc mSpanLo mSpanHi mSeq mTarget mLife mEpoch mBase mRecs gen
theorem fit_shaped.eq (fuel : Nat) (mKind : Int) (mFrom : Int) (mInc : Int) (mSpanLo : Int) (mSpanHi : Int) (mSeq : Int) (mTarget : Int) (mLife : Int) (mEpoch : Int) (mBase : Int) (mRecs : List (Int × Int × Int × (Int × Int) × Bool × List (Int × List Int))) (gen : Int) : (denF fit_shaped_E loopN fuel Try.f76 [.raw] [.agg [.d (.int .i64) mKind, .d (.int .i64) mFrom, .d (.int .i64) mInc, .d (.int .i64) mSpanLo, .d (.int .i64) mSpanHi, .d (.int .i64) mSeq, .d (.int .i64) mTarget, .d (.int .i64) mLife, .d (.int .i64) mEpoch, .d (.int .i64) mBase, .d (.sl (.pair (.int .i64) (.pair (.int .i64) (.pair (.int .i64) (.pair (.pair (.int .i64) (.int .i64)) (.pair .bool (.sl (.pair (.int .i64) (.sl (.int .u8)))))))))) mRecs], .d (.int .i64) gen] [] fit_shaped.k) = fit_shaped.f fuel mKind mFrom mInc mSpanLo mSpanHi mSeq mTarget mLife mEpoch mBase mRecs gen := by
  kernel_rfl

noncomputable def s_fit_shaped : Den.Sum := ⟨[.dat (.pair (.int .i64) (.pair (.int .i64) (.pair (.int .i64) (.pair (.pair (.int .i64) (.int .i64)) (.pair (.int .i64) (.pair (.int .i64) (.pair (.int .i64) (.pair (.int .i64) (.pair (.int .i64) (.sl (.pair (.int .i64) (.pair (.int .i64) (.pair (.int .i64) (.pair (.pair (.int .i64) (.int .i64)) (.pair .bool (.sl (.pair (.int .i64) (.sl (.int .u8))))))))))))))))))) true, .raw], fun args objs κ => match args, objs with
  | [.agg [.d (.int .i64) mKind, .d (.int .i64) mFrom, .d (.int .i64) mInc, .d (.int .i64) mSpanLo, .d (.int .i64) mSpanHi, .d (.int .i64) mSeq, .d (.int .i64) mTarget, .d (.int .i64) mLife, .d (.int .i64) mEpoch, .d (.int .i64) mBase, .d (.sl (.pair (.int .i64) (.pair (.int .i64) (.pair (.int .i64) (.pair (.pair (.int .i64) (.int .i64)) (.pair .bool (.sl (.pair (.int .i64) (.sl (.int .u8)))))))))) mRecs], .d (.int .i64) gen], [] => (match veil (fit_shaped.f BIG mKind mFrom mInc mSpanLo mSpanHi mSeq mTarget mLife mEpoch mBase mRecs gen) with | none => none | some y => κ [.d .bool y] [])
  | _, _ => none⟩
theorem s_fit_shaped_det : SumDet s_fit_shaped := fun avs objs R κ => by
  show s_fit_shaped.run avs objs (two κ) = (s_fit_shaped.run avs objs (two some)).bind κ
  unfold s_fit_shaped
  simp only [veil_eq]
  split
  · split <;> rfl
  · rfl
theorem s_fit_shaped_ok : SumOk Try.prog 76 s_fit_shaped := by
  have hE : EnvOk Try.prog fit_shaped_E := env_ok (l := [(20, s_valid)]) th_ok any_ok ⟨⟨s_valid_ok, s_valid_det⟩, trivial⟩ _
  refine sum_ok hE Try.func76 rfl (by kernel_rfl) s_fit_shaped [.raw] fit_shaped.k ?_
  intro R avs objs κ r h
  unfold s_fit_shaped at h
  simp only [veil_eq] at h
  split at h
  · rename_i mKind mFrom mInc mSpanLo mSpanHi mSeq mTarget mLife mEpoch mBase mRecs gen
    split at h
    · cases h
    · rename_i y hy
      refine ⟨BIG, _, _, _, (fit_shaped.eq BIG mKind mFrom mInc mSpanLo mSpanHi mSeq mTarget mLife mEpoch mBase mRecs gen).trans hy, ?_, h⟩
      intro rs ros hk
      unfold fit_shaped.k at hk
      split at hk
      · first | (cases hk; exact ⟨rfl, rfl⟩) | (have e := Option.some.inj hk; rw [← e]; exact ⟨rfl, rfl⟩)
      · cases hk
  · cases h
noncomputable def fit_room_E : Env := ⟨th, gam [], fun i => ⟨[], [], []⟩⟩
noncomputable def fit_room.k (rs : List AV) (os : List Den.Obj) : Option Int :=
  match rs, os with
  | [.d (.int .i64) r0], [] => some r0
  | _, _ => none
noncomputable def fit_room.b (gen : Int) : Option Int :=
  (if (gen == (1 : Int)) then some ((65535 : Int)) else (if (gen == (2 : Int)) then some ((veil (4294967295 : Int))) else some ((veil (281474976710655 : Int)))))
noncomputable def fit_room.f (fuel : Nat) (gen : Int) : Option Int := fit_room.b gen
theorem fit_room.eq (fuel : Nat) (gen : Int) : (denF fit_room_E loopN fuel Try.f77 [.raw] [.d (.int .i64) gen] [] fit_room.k) = fit_room.f fuel gen := by
  kernel_rfl

noncomputable def s_fit_room : Den.Sum := ⟨[.raw], fun args objs κ => match args, objs with
  | [.d (.int .i64) gen], [] => (match veil (fit_room.f BIG gen) with | none => none | some y => κ [.d (.int .i64) y] [])
  | _, _ => none⟩
theorem s_fit_room_det : SumDet s_fit_room := fun avs objs R κ => by
  show s_fit_room.run avs objs (two κ) = (s_fit_room.run avs objs (two some)).bind κ
  unfold s_fit_room
  simp only [veil_eq]
  split
  · split <;> rfl
  · rfl
theorem s_fit_room_ok : SumOk Try.prog 77 s_fit_room := by
  have hE : EnvOk Try.prog fit_room_E := env_ok (l := []) th_ok any_ok trivial _
  refine sum_ok hE Try.func77 rfl (by kernel_rfl) s_fit_room [.raw] fit_room.k ?_
  intro R avs objs κ r h
  unfold s_fit_room at h
  simp only [veil_eq] at h
  split at h
  · rename_i gen
    split at h
    · cases h
    · rename_i y hy
      refine ⟨BIG, _, _, _, (fit_room.eq BIG gen).trans hy, ?_, h⟩
      intro rs ros hk
      unfold fit_room.k at hk
      split at hk
      · first | (cases hk; exact ⟨rfl, rfl⟩) | (have e := Option.some.inj hk; rw [← e]; exact ⟨rfl, rfl⟩)
      · cases hk
  · cases h
end Go.Proofs.Ytlmljpmohljefaa
