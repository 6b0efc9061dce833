/- SayScripts, part 2: what the row leans on. -/
import Derived.Test.YthangnlmckeipaaGreatDoorZSayScripts1
set_option linter.unusedVariables false
set_option linter.unusedSimpArgs false
set_option maxRecDepth 100000
namespace Go.Proofs.YthangnlmckeipaaGreatDoor
open Go.Den
open Go.Den Go.RowKit
open Go.Say (Word)
open Go.Say (Word Deed mv1 zero names partsOf)
noncomputable def say_readBag.f (fuel : Nat) (aKind : Int) (aI : Int) (aK : Int) (aAt : Int) (aBy : Int) (aLo : Int) (aHi : Int) (aBag : List (Int × List Int)) (aDraws : List Int) (words : List ByteArray) : Option (Bool × Int × Int × Int × Int × Int × Int × Int × (List (Int × (List Int))) × (List Int) × (List ByteArray)) := say_readBag.b aKind aI aK aAt aBy aLo aHi aBag aDraws words (say_readBag.l2 fuel aKind aI aK aAt aBy aLo aHi aBag aDraws words fuel)
theorem say_readBag.l2_eq (fuel : Nat) (aKind : Int) (aI : Int) (aK : Int) (aAt : Int) (aBy : Int) (aLo : Int) (aHi : Int) (aBag : List (Int × List Int)) (aDraws : List Int) (words : List ByteArray) : ∀ (k : Nat) (x0 : Int) (x1 : Int) (x2 : (List (Int × (List Int)))), lp say_readBag_E fuel Tryz.f45 [.own 9 .str, .raw, .pb [.own (some 0) [] 7 48 (.pair (.int .i64) (.sl (.int .u8))) true, .own (some 0) [] 8 3 (.int .i64) true, .kill 1, .kill 2]] 3 say_readBag.k 2 [] k (say_readBag.s2 aKind aI aK aAt aBy aLo aHi aBag aDraws words x0 x1 x2) = say_readBag.l2 fuel aKind aI aK aAt aBy aLo aHi aBag aDraws words k x0 x1 x2 := by
  intro k
  induction k with
  | zero => intro x0 x1 x2; rfl
  | succ k ih =>
    intro x0 x1 x2
    have h : lp say_readBag_E fuel Tryz.f45 [.own 9 .str, .raw, .pb [.own (some 0) [] 7 48 (.pair (.int .i64) (.sl (.int .u8))) true, .own (some 0) [] 8 3 (.int .i64) true, .kill 1, .kill 2]] 3 say_readBag.k 2 [] (k + 1) (say_readBag.s2 aKind aI aK aAt aBy aLo aHi aBag aDraws words x0 x1 x2) = say_readBag.b2 aKind aI aK aAt aBy aLo aHi aBag aDraws words (fun x0 x1 x2 => lp say_readBag_E fuel Tryz.f45 [.own 9 .str, .raw, .pb [.own (some 0) [] 7 48 (.pair (.int .i64) (.sl (.int .u8))) true, .own (some 0) [] 8 3 (.int .i64) true, .kill 1, .kill 2]] 3 say_readBag.k 2 [] k (say_readBag.s2 aKind aI aK aAt aBy aLo aHi aBag aDraws words x0 x1 x2)) x0 x1 x2 := by kernel_rfl
    rw [h]
    have e2 : (fun x0 x1 x2 => lp say_readBag_E fuel Tryz.f45 [.own 9 .str, .raw, .pb [.own (some 0) [] 7 48 (.pair (.int .i64) (.sl (.int .u8))) true, .own (some 0) [] 8 3 (.int .i64) true, .kill 1, .kill 2]] 3 say_readBag.k 2 [] k (say_readBag.s2 aKind aI aK aAt aBy aLo aHi aBag aDraws words x0 x1 x2)) = say_readBag.l2 fuel aKind aI aK aAt aBy aLo aHi aBag aDraws words k := (funext fun x0 => (funext fun x1 => (funext fun x2 => ih x0 x1 x2)))
    rw [e2]
    rfl
theorem say_readBag.eq (fuel : Nat) (aKind : Int) (aI : Int) (aK : Int) (aAt : Int) (aBy : Int) (aLo : Int) (aHi : Int) (aBag : List (Int × List Int)) (aDraws : List Int) (words : List ByteArray) : (denF say_readBag_E loopN fuel Tryz.f45 [.own 9 .str, .raw, .pb [.own (some 0) [] 7 48 (.pair (.int .i64) (.sl (.int .u8))) true, .own (some 0) [] 8 3 (.int .i64) true, .kill 1, .kill 2]] [.ptr 0 0, .d (.sl .str) words] [.box [.d (.int .i64) aKind, .d (.int .i64) aI, .d (.int .i64) aK, .d (.int .i64) aAt, .d (.int .i64) aBy, .d (.int .i64) aLo, .d (.int .i64) aHi, .row 1, .row 2], .row 48 (.pair (.int .i64) (.sl (.int .u8))) aBag false, .row 3 (.int .i64) aDraws false] say_readBag.k) = say_readBag.f fuel aKind aI aK aAt aBy aLo aHi aBag aDraws words := by
  have h : (denF say_readBag_E loopN fuel Tryz.f45 [.own 9 .str, .raw, .pb [.own (some 0) [] 7 48 (.pair (.int .i64) (.sl (.int .u8))) true, .own (some 0) [] 8 3 (.int .i64) true, .kill 1, .kill 2]] [.ptr 0 0, .d (.sl .str) words] [.box [.d (.int .i64) aKind, .d (.int .i64) aI, .d (.int .i64) aK, .d (.int .i64) aAt, .d (.int .i64) aBy, .d (.int .i64) aLo, .d (.int .i64) aHi, .row 1, .row 2], .row 48 (.pair (.int .i64) (.sl (.int .u8))) aBag false, .row 3 (.int .i64) aDraws false] say_readBag.k) = say_readBag.b aKind aI aK aAt aBy aLo aHi aBag aDraws words (fun x0 x1 x2 => lp say_readBag_E fuel Tryz.f45 [.own 9 .str, .raw, .pb [.own (some 0) [] 7 48 (.pair (.int .i64) (.sl (.int .u8))) true, .own (some 0) [] 8 3 (.int .i64) true, .kill 1, .kill 2]] 3 say_readBag.k 2 [] fuel (say_readBag.s2 aKind aI aK aAt aBy aLo aHi aBag aDraws words x0 x1 x2)) := by kernel_rfl
  rw [h]
  have e2 : (fun x0 x1 x2 => lp say_readBag_E fuel Tryz.f45 [.own 9 .str, .raw, .pb [.own (some 0) [] 7 48 (.pair (.int .i64) (.sl (.int .u8))) true, .own (some 0) [] 8 3 (.int .i64) true, .kill 1, .kill 2]] 3 say_readBag.k 2 [] fuel (say_readBag.s2 aKind aI aK aAt aBy aLo aHi aBag aDraws words x0 x1 x2)) = say_readBag.l2 fuel aKind aI aK aAt aBy aLo aHi aBag aDraws words fuel := (funext fun x0 => (funext fun x1 => (funext fun x2 => say_readBag.l2_eq fuel aKind aI aK aAt aBy aLo aHi aBag aDraws words fuel x0 x1 x2)))
  rw [e2]
  rfl
theorem say_readBag.l2_at (fuel nN kK : Nat) (hN : nN = kK + 1) (aKind : Int) (aI : Int) (aK : Int) (aAt : Int) (aBy : Int) (aLo : Int) (aHi : Int) (aBag : List (Int × List Int)) (aDraws : List Int) (words : List ByteArray) (x0 : Int) (x1 : Int) (x2 : (List (Int × (List Int)))) : say_readBag.l2 fuel aKind aI aK aAt aBy aLo aHi aBag aDraws words nN x0 x1 x2 = say_readBag.b2 aKind aI aK aAt aBy aLo aHi aBag aDraws words (say_readBag.l2 fuel aKind aI aK aAt aBy aLo aHi aBag aDraws words kK) x0 x1 x2 := by
  subst hN
  rfl
noncomputable def s_say_readBag : Den.Sum := ⟨[.pb [.own none [] 7 48 (.pair (.int .i64) (.sl (.int .u8))) false, .own none [] 8 3 (.int .i64) false], .dat (.sl .str) false], fun args objs κ => match args, objs with
  | [.ptr 0 0, .d (.sl .str) words], [.box [.d (.int .i64) aKind, .d (.int .i64) aI, .d (.int .i64) aK, .d (.int .i64) aAt, .d (.int .i64) aBy, .d (.int .i64) aLo, .d (.int .i64) aHi, .row 1, .row 2], .row 48 (.pair (.int .i64) (.sl (.int .u8))) aBag false, .row 3 (.int .i64) aDraws false] => (match veil (say_readBag.f BIG aKind aI aK aAt aBy aLo aHi aBag aDraws words) with | none => none | some y => κ [.row 5, .d .bool y.1] [.box [.d (.int .i64) y.2.1, .d (.int .i64) y.2.2.1, .d (.int .i64) y.2.2.2.1, .d (.int .i64) y.2.2.2.2.1, .d (.int .i64) y.2.2.2.2.2.1, .d (.int .i64) y.2.2.2.2.2.2.1, .d (.int .i64) y.2.2.2.2.2.2.2.1, .row 3, .row 4], .gone, .gone, .row 48 (.pair (.int .i64) (.sl (.int .u8))) y.2.2.2.2.2.2.2.2.1 false, .row 3 (.int .i64) y.2.2.2.2.2.2.2.2.2.1 false, .row 9 .str y.2.2.2.2.2.2.2.2.2.2 false])
  | _, _ => none⟩
theorem s_say_readBag_det : SumDet s_say_readBag := fun avs objs R κ => by
  show s_say_readBag.run avs objs (two κ) = (s_say_readBag.run avs objs (two some)).bind κ
  unfold s_say_readBag
  simp only [veil_eq]
  split
  · split <;> rfl
  · rfl
theorem s_say_readBag_ok : SumOk Tryz.prog 45 s_say_readBag := by
  have hE : EnvOk Tryz.prog say_readBag_E := env_ok (l := [(63, s_say_readField)]) th_ok any_ok ⟨⟨s_say_readField_ok, s_say_readField_det⟩, trivial⟩ _
  refine sum_ok hE Tryz.func45 rfl (by kernel_rfl) s_say_readBag [.own 9 .str, .raw, .pb [.own (some 0) [] 7 48 (.pair (.int .i64) (.sl (.int .u8))) true, .own (some 0) [] 8 3 (.int .i64) true, .kill 1, .kill 2]] say_readBag.k ?_
  intro R avs objs κ r h
  unfold s_say_readBag at h
  simp only [veil_eq] at h
  split at h
  · rename_i words aKind aI aK aAt aBy aLo aHi aBag aDraws
    split at h
    · cases h
    · rename_i y hy
      refine ⟨BIG, _, _, _, (say_readBag.eq BIG aKind aI aK aAt aBy aLo aHi aBag aDraws words).trans hy, ?_, h⟩
      intro rs ros hk
      unfold say_readBag.k at hk
      split at hk
      · first | (cases hk; exact ⟨rfl, rfl⟩) | (have e := Option.some.inj hk; rw [← e]; exact ⟨rfl, rfl⟩)
      · cases hk
  · cases h
noncomputable def say_number_c1_E : Env := ⟨th, gam [(34, s_say_parts_c1), (35, s_say_parts_c2), (36, s_say_parts_c3), (37, s_say_parts_c4)], fun i => ⟨[], [], []⟩⟩
noncomputable def s_say_number_c1 : Den.Sum := inl say_number_c1_E BIG Tryz.f56 [.raw, .raw, .raw] []
theorem say_number_c1_envOk : EnvOk Tryz.prog say_number_c1_E := env_ok (l := [(34, s_say_parts_c1), (35, s_say_parts_c2), (36, s_say_parts_c3), (37, s_say_parts_c4)]) th_ok any_ok ⟨⟨s_say_parts_c1_ok, s_say_parts_c1_det⟩, ⟨s_say_parts_c2_ok, s_say_parts_c2_det⟩, ⟨s_say_parts_c3_ok, s_say_parts_c3_det⟩, ⟨s_say_parts_c4_ok, s_say_parts_c4_det⟩, trivial⟩ _
theorem s_say_number_c1_det : SumDet s_say_number_c1 := inl_det say_number_c1_envOk.D _ _ _ _
theorem s_say_number_c1_ok : SumOk Tryz.prog 56 s_say_number_c1 := inl_ok say_number_c1_envOk Tryz.func56 rfl (by kernel_rfl) _ _ _
noncomputable def say_number_c2_E : Env := ⟨th, gam [(58, s_itoaS), (34, s_say_parts_c1), (35, s_say_parts_c2), (36, s_say_parts_c3), (37, s_say_parts_c4)], fun i => ⟨[], [], []⟩⟩
noncomputable def s_say_number_c2 : Den.Sum := inl say_number_c2_E BIG Tryz.f57 [.raw, .raw] [.raw]
theorem say_number_c2_envOk : EnvOk Tryz.prog say_number_c2_E := env_ok (l := [(58, s_itoaS), (34, s_say_parts_c1), (35, s_say_parts_c2), (36, s_say_parts_c3), (37, s_say_parts_c4)]) th_ok any_ok ⟨⟨s_itoaS_ok, s_itoaS_det⟩, ⟨s_say_parts_c1_ok, s_say_parts_c1_det⟩, ⟨s_say_parts_c2_ok, s_say_parts_c2_det⟩, ⟨s_say_parts_c3_ok, s_say_parts_c3_det⟩, ⟨s_say_parts_c4_ok, s_say_parts_c4_det⟩, trivial⟩ _
theorem s_say_number_c2_det : SumDet s_say_number_c2 := inl_det say_number_c2_envOk.D _ _ _ _
theorem s_say_number_c2_ok : SumOk Tryz.prog 57 s_say_number_c2 := inl_ok say_number_c2_envOk Tryz.func57 rfl (by kernel_rfl) _ _ _
noncomputable def say_number_c3_E : Env := ⟨th, gam [(60, s_parseS), (34, s_say_parts_c1), (35, s_say_parts_c2), (36, s_say_parts_c3), (37, s_say_parts_c4)], fun i => ⟨[], [], []⟩⟩
noncomputable def s_say_number_c3 : Den.Sum := inl say_number_c3_E BIG Tryz.f59 [.raw, .raw, .raw] [.raw, .raw]
theorem say_number_c3_envOk : EnvOk Tryz.prog say_number_c3_E := env_ok (l := [(60, s_parseS), (34, s_say_parts_c1), (35, s_say_parts_c2), (36, s_say_parts_c3), (37, s_say_parts_c4)]) th_ok any_ok ⟨⟨s_parseS_ok, s_parseS_det⟩, ⟨s_say_parts_c1_ok, s_say_parts_c1_det⟩, ⟨s_say_parts_c2_ok, s_say_parts_c2_det⟩, ⟨s_say_parts_c3_ok, s_say_parts_c3_det⟩, ⟨s_say_parts_c4_ok, s_say_parts_c4_det⟩, trivial⟩ _
theorem s_say_number_c3_det : SumDet s_say_number_c3 := inl_det say_number_c3_envOk.D _ _ _ _
theorem s_say_number_c3_ok : SumOk Tryz.prog 59 s_say_number_c3 := inl_ok say_number_c3_envOk Tryz.func59 rfl (by kernel_rfl) _ _ _
noncomputable def slices_Contains_api_Span_api_Span_E : Env := ⟨th, gam [(87, s_slices_Index_api_Span_api_Span)], fun i => ⟨[], [], []⟩⟩
noncomputable def slices_Contains_api_Span_api_Span.k (rs : List AV) (os : List Den.Obj) : Option Bool :=
  match rs, os with
  | [.d .bool r0], [] => some r0
  | _, _ => none
noncomputable def slices_Contains_api_Span_api_Span.b (s : List (Int × Int)) (vLo : Int) (vHi : Int) : Option Bool :=
  (match (veil (slices_Index_api_Span_api_Span.f BIG s vLo vHi)) with | none => none | some y0 => some ((decide (y0 ≥ (0 : Int)))))
noncomputable def slices_Contains_api_Span_api_Span.f (fuel : Nat) (s : List (Int × Int)) (vLo : Int) (vHi : Int) : Option Bool := slices_Contains_api_Span_api_Span.b s vLo vHi
theorem slices_Contains_api_Span_api_Span.eq (fuel : Nat) (s : List (Int × Int)) (vLo : Int) (vHi : Int) : (denF slices_Contains_api_Span_api_Span_E loopN fuel Tryz.f73 [.raw] [.d (.sl (.pair (.int .i64) (.int .i64))) s, .agg [.d (.int .i64) vLo, .d (.int .i64) vHi]] [] slices_Contains_api_Span_api_Span.k) = slices_Contains_api_Span_api_Span.f fuel s vLo vHi := by
  kernel_rfl
noncomputable def s_slices_Contains_api_Span_api_Span : Den.Sum := ⟨[.dat (.sl (.pair (.int .i64) (.int .i64))) false, .dat (.pair (.int .i64) (.int .i64)) true], fun args objs κ => match args, objs with
  | [.d (.sl (.pair (.int .i64) (.int .i64))) s, .agg [.d (.int .i64) vLo, .d (.int .i64) vHi]], [] => (match veil (slices_Contains_api_Span_api_Span.f BIG s vLo vHi) with | none => none | some y => κ [.d .bool y] [])
  | _, _ => none⟩
theorem s_slices_Contains_api_Span_api_Span_det : SumDet s_slices_Contains_api_Span_api_Span := fun avs objs R κ => by
  show s_slices_Contains_api_Span_api_Span.run avs objs (two κ) = (s_slices_Contains_api_Span_api_Span.run avs objs (two some)).bind κ
  unfold s_slices_Contains_api_Span_api_Span
  simp only [veil_eq]
  split
  · split <;> rfl
  · rfl
theorem s_slices_Contains_api_Span_api_Span_ok : SumOk Tryz.prog 73 s_slices_Contains_api_Span_api_Span := by
  have hE : EnvOk Tryz.prog slices_Contains_api_Span_api_Span_E := env_ok (l := [(87, s_slices_Index_api_Span_api_Span)]) th_ok any_ok ⟨⟨s_slices_Index_api_Span_api_Span_ok, s_slices_Index_api_Span_api_Span_det⟩, trivial⟩ _
  refine sum_ok hE Tryz.func73 rfl (by kernel_rfl) s_slices_Contains_api_Span_api_Span [.raw] slices_Contains_api_Span_api_Span.k ?_
  intro R avs objs κ r h
  unfold s_slices_Contains_api_Span_api_Span at h
  simp only [veil_eq] at h
  split at h
  · rename_i s vLo vHi
    split at h
    · cases h
    · rename_i y hy
      refine ⟨BIG, _, _, _, (slices_Contains_api_Span_api_Span.eq BIG s vLo vHi).trans hy, ?_, h⟩
      intro rs ros hk
      unfold slices_Contains_api_Span_api_Span.k at hk
      split at hk
      · first | (cases hk; exact ⟨rfl, rfl⟩) | (have e := Option.some.inj hk; rw [← e]; exact ⟨rfl, rfl⟩)
      · cases hk
  · cases h
noncomputable def cmp_Compare_byte_E : Env := ⟨th, gam [(101, s_cmp_isNaN_byte)], fun i => ⟨[], [], []⟩⟩
noncomputable def cmp_Compare_byte.k (rs : List AV) (os : List Den.Obj) : Option Int :=
  match rs, os with
  | [.d (.int .i64) r0], [] => some r0
  | _, _ => none
noncomputable def cmp_Compare_byte.b (x0 : Int) (y0p : Int) : Option Int :=
  (match (veil (cmp_isNaN_byte.f BIG x0)) with | none => none | some y0 => (match (veil (cmp_isNaN_byte.f BIG y0p)) with | none => none | some y1 => (if y0 then (if y1 then some ((0 : Int)) else some ((-(1 : Int)))) else (if y1 then some ((1 : Int)) else (if (decide (x0 < y0p)) then some ((-(1 : Int))) else (if (decide (x0 > y0p)) then some ((1 : Int)) else some ((0 : Int))))))))
noncomputable def cmp_Compare_byte.f (fuel : Nat) (x0 : Int) (y0p : Int) : Option Int := cmp_Compare_byte.b x0 y0p
theorem cmp_Compare_byte.eq (fuel : Nat) (x0 : Int) (y0p : Int) : (denF cmp_Compare_byte_E loopN fuel Tryz.f89 [.raw] [.d (.int .u8) x0, .d (.int .u8) y0p] [] cmp_Compare_byte.k) = cmp_Compare_byte.f fuel x0 y0p := by
  kernel_rfl
noncomputable def s_cmp_Compare_byte : Den.Sum := ⟨[.raw, .raw], fun args objs κ => match args, objs with
  | [.d (.int .u8) x0, .d (.int .u8) y0p], [] => (match veil (cmp_Compare_byte.f BIG x0 y0p) with | none => none | some y => κ [.d (.int .i64) y] [])
  | _, _ => none⟩
theorem s_cmp_Compare_byte_det : SumDet s_cmp_Compare_byte := fun avs objs R κ => by
  show s_cmp_Compare_byte.run avs objs (two κ) = (s_cmp_Compare_byte.run avs objs (two some)).bind κ
  unfold s_cmp_Compare_byte
  simp only [veil_eq]
  split
  · split <;> rfl
  · rfl
theorem s_cmp_Compare_byte_ok : SumOk Tryz.prog 89 s_cmp_Compare_byte := by
  have hE : EnvOk Tryz.prog cmp_Compare_byte_E := env_ok (l := [(101, s_cmp_isNaN_byte)]) th_ok any_ok ⟨⟨s_cmp_isNaN_byte_ok, s_cmp_isNaN_byte_det⟩, trivial⟩ _
  refine sum_ok hE Tryz.func89 rfl (by kernel_rfl) s_cmp_Compare_byte [.raw] cmp_Compare_byte.k ?_
  intro R avs objs κ r h
  unfold s_cmp_Compare_byte at h
  simp only [veil_eq] at h
  split at h
  · rename_i x0 y0p
    split at h
    · cases h
    · rename_i y hy
      refine ⟨BIG, _, _, _, (cmp_Compare_byte.eq BIG x0 y0p).trans hy, ?_, h⟩
      intro rs ros hk
      unfold cmp_Compare_byte.k at hk
      split at hk
      · first | (cases hk; exact ⟨rfl, rfl⟩) | (have e := Option.some.inj hk; rw [← e]; exact ⟨rfl, rfl⟩)
      · cases hk
  · cases h
noncomputable def say_number_E : Env := ⟨th, gam [(56, s_say_number_c1), (57, s_say_number_c2), (58, s_itoaS), (59, s_say_number_c3), (60, s_parseS)], fun i => ⟨[], [], []⟩⟩
noncomputable def s_say_number : Den.Sum := inl say_number_E BIG Tryz.f33 [.raw, .raw] [.raw]
theorem say_number_envOk : EnvOk Tryz.prog say_number_E := env_ok (l := [(56, s_say_number_c1), (57, s_say_number_c2), (58, s_itoaS), (59, s_say_number_c3), (60, s_parseS)]) th_ok any_ok ⟨⟨s_say_number_c1_ok, s_say_number_c1_det⟩, ⟨s_say_number_c2_ok, s_say_number_c2_det⟩, ⟨s_itoaS_ok, s_itoaS_det⟩, ⟨s_say_number_c3_ok, s_say_number_c3_det⟩, ⟨s_parseS_ok, s_parseS_det⟩, trivial⟩ _
theorem s_say_number_det : SumDet s_say_number := inl_det say_number_envOk.D _ _ _ _
theorem s_say_number_ok : SumOk Tryz.prog 33 s_say_number := inl_ok say_number_envOk Tryz.func33 rfl (by kernel_rfl) _ _ _
noncomputable def say_parts_c6_E : Env := ⟨th, gam [(40, s_span_Text)], fun i => ⟨[], [], []⟩⟩
noncomputable def s_say_parts_c6 : Den.Sum := inl say_parts_c6_E BIG Tryz.f39 [.raw] [.raw]
theorem say_parts_c6_envOk : EnvOk Tryz.prog say_parts_c6_E := env_ok (l := [(40, s_span_Text)]) th_ok any_ok ⟨⟨s_span_Text_ok, s_span_Text_det⟩, trivial⟩ _
theorem s_say_parts_c6_det : SumDet s_say_parts_c6 := inl_det say_parts_c6_envOk.D _ _ _ _
theorem s_say_parts_c6_ok : SumOk Tryz.prog 39 s_say_parts_c6 := inl_ok say_parts_c6_envOk Tryz.func39 rfl (by kernel_rfl) _ _ _
noncomputable def say_parts_c7_E : Env := ⟨th, gam [(43, s_bag_Copy)], fun i => ⟨[], [], []⟩⟩
noncomputable def s_say_parts_c7 : Den.Sum := inl say_parts_c7_E BIG Tryz.f42 [.raw, .raw] []
theorem say_parts_c7_envOk : EnvOk Tryz.prog say_parts_c7_E := env_ok (l := [(43, s_bag_Copy)]) th_ok any_ok ⟨⟨s_bag_Copy_ok, s_bag_Copy_det⟩, trivial⟩ _
theorem s_say_parts_c7_det : SumDet s_say_parts_c7 := inl_det say_parts_c7_envOk.D _ _ _ _
theorem s_say_parts_c7_ok : SumOk Tryz.prog 42 s_say_parts_c7 := inl_ok say_parts_c7_envOk Tryz.func42 rfl (by kernel_rfl) _ _ _
noncomputable def span_Parse_E : Env := ⟨th, gam [(73, s_slices_Contains_api_Span_api_Span), (74, s_span_All)], fun i => ⟨[], [], []⟩⟩
noncomputable def span_Parse.k (rs : List AV) (os : List Den.Obj) : Option (Int × Int × Int) :=
  match rs, os with
  | [.agg [.d (.int .i64) r0, .d (.int .i64) r1], .d (.int .i64) r2], [] => some (r0, r1, r2)
  | _, _ => none
noncomputable def span_Parse.b (t : ByteArray) : Option (Int × Int × Int) :=
  (if (((((ByteArray.size t)) : Nat) : Int) != (3 : Int)) then some (0, 0, (4 : Int)) else (match (idx (Array.toList (ByteArray.data t)) (1 : Int)) with | none => none | some y0 => (if (((((UInt8.toNat y0)) : Nat) : Int) != (45 : Int)) then some (0, 0, (4 : Int)) else (match (idx (Array.toList (ByteArray.data t)) (0 : Int)) with | none => none | some y1 => (match (idx (Array.toList (ByteArray.data t)) (2 : Int)) with | none => none | some y2 => (match (veil (span_All.f BIG ())) with | none => none | some y3 => (match (veil (slices_Contains_api_Span_api_Span.f BIG y3 (Go.IntKind.wrap .i64 ((Go.IntKind.wrap .i64 ((((UInt8.toNat y1)) : Nat) : Int)) - (48 : Int))) (Go.IntKind.wrap .i64 ((Go.IntKind.wrap .i64 ((((UInt8.toNat y2)) : Nat) : Int)) - (48 : Int))))) with | none => none | some y4 => (if (!y4) then some (0, 0, (4 : Int)) else some ((Go.IntKind.wrap .i64 ((Go.IntKind.wrap .i64 ((((UInt8.toNat y1)) : Nat) : Int)) - (48 : Int))), (Go.IntKind.wrap .i64 ((Go.IntKind.wrap .i64 ((((UInt8.toNat y2)) : Nat) : Int)) - (48 : Int))), (0 : Int))))))))))
noncomputable def span_Parse.f (fuel : Nat) (t : ByteArray) : Option (Int × Int × Int) := span_Parse.b t
theorem span_Parse.eq (fuel : Nat) (t : ByteArray) : (denF span_Parse_E loopN fuel Tryz.f61 [.dat (.pair (.int .i64) (.int .i64)) true, .raw] [.d .str t] [] span_Parse.k) = span_Parse.f fuel t := by
  kernel_rfl
noncomputable def s_span_Parse : Den.Sum := ⟨[.raw], fun args objs κ => match args, objs with
  | [.d .str t], [] => (match veil (span_Parse.f BIG t) with | none => none | some y => κ [.agg [.d (.int .i64) y.1, .d (.int .i64) y.2.1], .d (.int .i64) y.2.2] [])
  | _, _ => none⟩
theorem s_span_Parse_det : SumDet s_span_Parse := fun avs objs R κ => by
  show s_span_Parse.run avs objs (two κ) = (s_span_Parse.run avs objs (two some)).bind κ
  unfold s_span_Parse
  simp only [veil_eq]
  split
  · split <;> rfl
  · rfl
theorem s_span_Parse_ok : SumOk Tryz.prog 61 s_span_Parse := by
  have hE : EnvOk Tryz.prog span_Parse_E := env_ok (l := [(73, s_slices_Contains_api_Span_api_Span), (74, s_span_All)]) th_ok any_ok ⟨⟨s_slices_Contains_api_Span_api_Span_ok, s_slices_Contains_api_Span_api_Span_det⟩, ⟨s_span_All_ok, s_span_All_det⟩, trivial⟩ _
  refine sum_ok hE Tryz.func61 rfl (by kernel_rfl) s_span_Parse [.dat (.pair (.int .i64) (.int .i64)) true, .raw] span_Parse.k ?_
  intro R avs objs κ r h
  unfold s_span_Parse at h
  simp only [veil_eq] at h
  split at h
  · rename_i t
    split at h
    · cases h
    · rename_i y hy
      refine ⟨BIG, _, _, _, (span_Parse.eq BIG t).trans hy, ?_, h⟩
      intro rs ros hk
      unfold span_Parse.k at hk
      split at hk
      · first | (cases hk; exact ⟨rfl, rfl⟩) | (have e := Option.some.inj hk; rw [← e]; exact ⟨rfl, rfl⟩)
      · cases hk
  · cases h
noncomputable def slices_Compare_byte_byte_E : Env := ⟨th, gam [(89, s_cmp_Compare_byte)], fun i => if i = 2 then ⟨[0, 1, 9, 10, 11], [], []⟩ else ⟨[], [], []⟩⟩
noncomputable def slices_Compare_byte_byte.k (rs : List AV) (os : List Den.Obj) : Option Int :=
  match rs, os with
  | [.d (.int .i64) r0], [] => some r0
  | _, _ => none
noncomputable def slices_Compare_byte_byte.s2 (s1 : List Int) (s2 : List Int) (x0 : Int) (x1 : Int) : St := ⟨[.d (.sl (.int .u8)) (s1), .d (.sl (.int .u8)) (s2), .dead, .dead, .dead, .dead, .dead, .dead, .dead, .d (.sl (.int .u8)) (s1), .d (.int .i64) x0, .d (.int .i64) x1, .dead, .dead, .dead, .dead, .dead, .dead, .dead, .dead, .dead, .dead, .dead, .dead, .dead, .dead, .dead, .dead, .dead, .dead, .dead, .dead, .dead, .dead, .dead, .dead], ofL [], 0⟩
noncomputable def slices_Compare_byte_byte.b2 (s1 : List Int) (s2 : List Int) (A2 : Int → Int → Option Int) (x0 : Int) (x1 : Int) : Option Int :=
  (if (decide (x1 < x0)) then (match (idx s1 x1) with | none => none | some y2 => (if (decide (x1 ≥ ((((List.length s2)) : Nat) : Int))) then some ((1 : Int)) else (match (idx s2 x1) with | none => none | some y3 => (match (veil (cmp_Compare_byte.f BIG y2 y3)) with | none => none | some y4 => (if (y4 != (0 : Int)) then some (y4) else A2 x0 (Go.IntKind.wrap .i64 (x1 + (1 : Int)))))))) else (if (decide (((((List.length s1)) : Nat) : Int) < ((((List.length s2)) : Nat) : Int))) then some ((-(1 : Int))) else some ((0 : Int))))
noncomputable def slices_Compare_byte_byte.l2 (fuel : Nat) (s1 : List Int) (s2 : List Int) : Nat → Int → Int → Option Int
  | 0, _, _ => none
  | k + 1, x0, x1 => slices_Compare_byte_byte.b2 s1 s2 (slices_Compare_byte_byte.l2 fuel s1 s2 k) x0 x1
noncomputable def slices_Compare_byte_byte.b (s1 : List Int) (s2 : List Int) (E2 : Int → Int → Option Int) : Option Int :=
  E2 ((((List.length s1)) : Nat) : Int) (0 : Int)
noncomputable def slices_Compare_byte_byte.f (fuel : Nat) (s1 : List Int) (s2 : List Int) : Option Int := slices_Compare_byte_byte.b s1 s2 (slices_Compare_byte_byte.l2 fuel s1 s2 fuel)
theorem slices_Compare_byte_byte.l2_eq (fuel : Nat) (s1 : List Int) (s2 : List Int) : ∀ (k : Nat) (x0 : Int) (x1 : Int), lp slices_Compare_byte_byte_E fuel Tryz.f77 [.raw] 0 slices_Compare_byte_byte.k 2 [] k (slices_Compare_byte_byte.s2 s1 s2 x0 x1) = slices_Compare_byte_byte.l2 fuel s1 s2 k x0 x1 := by
  intro k
  induction k with
  | zero => intro x0 x1; rfl
  | succ k ih =>
    intro x0 x1
    have h : lp slices_Compare_byte_byte_E fuel Tryz.f77 [.raw] 0 slices_Compare_byte_byte.k 2 [] (k + 1) (slices_Compare_byte_byte.s2 s1 s2 x0 x1) = slices_Compare_byte_byte.b2 s1 s2 (fun x0 x1 => lp slices_Compare_byte_byte_E fuel Tryz.f77 [.raw] 0 slices_Compare_byte_byte.k 2 [] k (slices_Compare_byte_byte.s2 s1 s2 x0 x1)) x0 x1 := by kernel_rfl
    rw [h]
    have e2 : (fun x0 x1 => lp slices_Compare_byte_byte_E fuel Tryz.f77 [.raw] 0 slices_Compare_byte_byte.k 2 [] k (slices_Compare_byte_byte.s2 s1 s2 x0 x1)) = slices_Compare_byte_byte.l2 fuel s1 s2 k := (funext fun x0 => (funext fun x1 => ih x0 x1))
    rw [e2]
    rfl
theorem slices_Compare_byte_byte.eq (fuel : Nat) (s1 : List Int) (s2 : List Int) : (denF slices_Compare_byte_byte_E loopN fuel Tryz.f77 [.raw] [.d (.sl (.int .u8)) s1, .d (.sl (.int .u8)) s2] [] slices_Compare_byte_byte.k) = slices_Compare_byte_byte.f fuel s1 s2 := by
  have h : (denF slices_Compare_byte_byte_E loopN fuel Tryz.f77 [.raw] [.d (.sl (.int .u8)) s1, .d (.sl (.int .u8)) s2] [] slices_Compare_byte_byte.k) = slices_Compare_byte_byte.b s1 s2 (fun x0 x1 => lp slices_Compare_byte_byte_E fuel Tryz.f77 [.raw] 0 slices_Compare_byte_byte.k 2 [] fuel (slices_Compare_byte_byte.s2 s1 s2 x0 x1)) := by kernel_rfl
  rw [h]
  have e2 : (fun x0 x1 => lp slices_Compare_byte_byte_E fuel Tryz.f77 [.raw] 0 slices_Compare_byte_byte.k 2 [] fuel (slices_Compare_byte_byte.s2 s1 s2 x0 x1)) = slices_Compare_byte_byte.l2 fuel s1 s2 fuel := (funext fun x0 => (funext fun x1 => slices_Compare_byte_byte.l2_eq fuel s1 s2 fuel x0 x1))
  rw [e2]
  rfl
noncomputable def s_slices_Compare_byte_byte : Den.Sum := ⟨[.dat (.sl (.int .u8)) false, .dat (.sl (.int .u8)) false], fun args objs κ => match args, objs with
  | [.d (.sl (.int .u8)) s1, .d (.sl (.int .u8)) s2], [] => (match veil (slices_Compare_byte_byte.f BIG s1 s2) with | none => none | some y => κ [.d (.int .i64) y] [])
  | _, _ => none⟩
theorem s_slices_Compare_byte_byte_det : SumDet s_slices_Compare_byte_byte := fun avs objs R κ => by
  show s_slices_Compare_byte_byte.run avs objs (two κ) = (s_slices_Compare_byte_byte.run avs objs (two some)).bind κ
  unfold s_slices_Compare_byte_byte
  simp only [veil_eq]
  split
  · split <;> rfl
  · rfl
theorem s_slices_Compare_byte_byte_ok : SumOk Tryz.prog 77 s_slices_Compare_byte_byte := by
  have hE : EnvOk Tryz.prog slices_Compare_byte_byte_E := env_ok (l := [(89, s_cmp_Compare_byte)]) th_ok any_ok ⟨⟨s_cmp_Compare_byte_ok, s_cmp_Compare_byte_det⟩, trivial⟩ _
  refine sum_ok hE Tryz.func77 rfl (by kernel_rfl) s_slices_Compare_byte_byte [.raw] slices_Compare_byte_byte.k ?_
  intro R avs objs κ r h
  unfold s_slices_Compare_byte_byte at h
  simp only [veil_eq] at h
  split at h
  · rename_i s1 s2
    split at h
    · cases h
    · rename_i y hy
      refine ⟨BIG, _, _, _, (slices_Compare_byte_byte.eq BIG s1 s2).trans hy, ?_, h⟩
      intro rs ros hk
      unfold slices_Compare_byte_byte.k at hk
      split at hk
      · first | (cases hk; exact ⟨rfl, rfl⟩) | (have e := Option.some.inj hk; rw [← e]; exact ⟨rfl, rfl⟩)
      · cases hk
  · cases h
noncomputable def say_readSpan_E : Env := ⟨th, gam [(61, s_span_Parse)], fun i => ⟨[], [], []⟩⟩
noncomputable def s_say_readSpan : Den.Sum := inl say_readSpan_E BIG Tryz.f41 [.raw, .raw] [.raw, .raw]
theorem say_readSpan_envOk : EnvOk Tryz.prog say_readSpan_E := env_ok (l := [(61, s_span_Parse)]) th_ok any_ok ⟨⟨s_span_Parse_ok, s_span_Parse_det⟩, trivial⟩ _
theorem s_say_readSpan_det : SumDet s_say_readSpan := inl_det say_readSpan_envOk.D _ _ _ _
theorem s_say_readSpan_ok : SumOk Tryz.prog 41 s_say_readSpan := inl_ok say_readSpan_envOk Tryz.func41 rfl (by kernel_rfl) _ _ _
noncomputable def bag_sign_E : Env := ⟨th, gam [(77, s_slices_Compare_byte_byte)], fun i => ⟨[], [], []⟩⟩
noncomputable def bag_sign.k (rs : List AV) (os : List Den.Obj) : Option Int :=
  match rs, os with
  | [.d (.int .i64) r0], [] => some r0
  | _, _ => none
noncomputable def bag_sign.b (fTag : Int) (fData : List Int) (gTag : Int) (gData : List Int) : Option Int :=
  (if (fTag != gTag) then (if (decide (fTag < gTag)) then some ((-(1 : Int))) else some ((1 : Int))) else (match (veil (slices_Compare_byte_byte.f BIG fData gData)) with | none => none | some y0 => some (y0)))
noncomputable def bag_sign.f (fuel : Nat) (fTag : Int) (fData : List Int) (gTag : Int) (gData : List Int) : Option Int := bag_sign.b fTag fData gTag gData
theorem bag_sign.eq (fuel : Nat) (fTag : Int) (fData : List Int) (gTag : Int) (gData : List Int) : (denF bag_sign_E loopN fuel Tryz.f64 [.raw] [.agg [.d (.int .i64) fTag, .d (.sl (.int .u8)) fData], .agg [.d (.int .i64) gTag, .d (.sl (.int .u8)) gData]] [] bag_sign.k) = bag_sign.f fuel fTag fData gTag gData := by
  kernel_rfl
noncomputable def s_bag_sign : Den.Sum := ⟨[.dat (.pair (.int .i64) (.sl (.int .u8))) true, .dat (.pair (.int .i64) (.sl (.int .u8))) true], fun args objs κ => match args, objs with
  | [.agg [.d (.int .i64) fTag, .d (.sl (.int .u8)) fData], .agg [.d (.int .i64) gTag, .d (.sl (.int .u8)) gData]], [] => (match veil (bag_sign.f BIG fTag fData gTag gData) with | none => none | some y => κ [.d (.int .i64) y] [])
  | _, _ => none⟩
theorem s_bag_sign_det : SumDet s_bag_sign := fun avs objs R κ => by
  show s_bag_sign.run avs objs (two κ) = (s_bag_sign.run avs objs (two some)).bind κ
  unfold s_bag_sign
  simp only [veil_eq]
  split
  · split <;> rfl
  · rfl
theorem s_bag_sign_ok : SumOk Tryz.prog 64 s_bag_sign := by
  have hE : EnvOk Tryz.prog bag_sign_E := env_ok (l := [(77, s_slices_Compare_byte_byte)]) th_ok any_ok ⟨⟨s_slices_Compare_byte_byte_ok, s_slices_Compare_byte_byte_det⟩, trivial⟩ _
  refine sum_ok hE Tryz.func64 rfl (by kernel_rfl) s_bag_sign [.raw] bag_sign.k ?_
  intro R avs objs κ r h
  unfold s_bag_sign at h
  simp only [veil_eq] at h
  split at h
  · rename_i fTag fData gTag gData
    split at h
    · cases h
    · rename_i y hy
      refine ⟨BIG, _, _, _, (bag_sign.eq BIG fTag fData gTag gData).trans hy, ?_, h⟩
      intro rs ros hk
      unfold bag_sign.k at hk
      split at hk
      · first | (cases hk; exact ⟨rfl, rfl⟩) | (have e := Option.some.inj hk; rw [← e]; exact ⟨rfl, rfl⟩)
      · cases hk
  · cases h
noncomputable def say_parts_E : Env := ⟨th, gam [(33, s_say_number), (34, s_say_parts_c1), (35, s_say_parts_c2), (36, s_say_parts_c3), (37, s_say_parts_c4), (38, s_say_parts_c5), (39, s_say_parts_c6), (40, s_span_Text), (41, s_say_readSpan), (42, s_say_parts_c7), (43, s_bag_Copy), (44, s_say_sayBag), (45, s_say_readBag), (46, s_say_parts_c8), (47, s_cloneDS), (48, s_say_sayDraws), (49, s_say_readDraws), (56, s_say_number_c1), (57, s_say_number_c2), (58, s_itoaS), (59, s_say_number_c3), (60, s_parseS), (61, s_span_Parse)], fun i => ⟨[], [], []⟩⟩
noncomputable def s_say_parts : Den.Sum := inl say_parts_E BIG Tryz.f21 [] [.raw]
theorem say_parts_envOk : EnvOk Tryz.prog say_parts_E := env_ok (l := [(33, s_say_number), (34, s_say_parts_c1), (35, s_say_parts_c2), (36, s_say_parts_c3), (37, s_say_parts_c4), (38, s_say_parts_c5), (39, s_say_parts_c6), (40, s_span_Text), (41, s_say_readSpan), (42, s_say_parts_c7), (43, s_bag_Copy), (44, s_say_sayBag), (45, s_say_readBag), (46, s_say_parts_c8), (47, s_cloneDS), (48, s_say_sayDraws), (49, s_say_readDraws), (56, s_say_number_c1), (57, s_say_number_c2), (58, s_itoaS), (59, s_say_number_c3), (60, s_parseS), (61, s_span_Parse)]) th_ok any_ok ⟨⟨s_say_number_ok, s_say_number_det⟩, ⟨s_say_parts_c1_ok, s_say_parts_c1_det⟩, ⟨s_say_parts_c2_ok, s_say_parts_c2_det⟩, ⟨s_say_parts_c3_ok, s_say_parts_c3_det⟩, ⟨s_say_parts_c4_ok, s_say_parts_c4_det⟩, ⟨s_say_parts_c5_ok, s_say_parts_c5_det⟩, ⟨s_say_parts_c6_ok, s_say_parts_c6_det⟩, ⟨s_span_Text_ok, s_span_Text_det⟩, ⟨s_say_readSpan_ok, s_say_readSpan_det⟩, ⟨s_say_parts_c7_ok, s_say_parts_c7_det⟩, ⟨s_bag_Copy_ok, s_bag_Copy_det⟩, ⟨s_say_sayBag_ok, s_say_sayBag_det⟩, ⟨s_say_readBag_ok, s_say_readBag_det⟩, ⟨s_say_parts_c8_ok, s_say_parts_c8_det⟩, ⟨s_cloneDS_ok, s_cloneDS_det⟩, ⟨s_say_sayDraws_ok, s_say_sayDraws_det⟩, ⟨s_say_readDraws_ok, s_say_readDraws_det⟩, ⟨s_say_number_c1_ok, s_say_number_c1_det⟩, ⟨s_say_number_c2_ok, s_say_number_c2_det⟩, ⟨s_itoaS_ok, s_itoaS_det⟩, ⟨s_say_number_c3_ok, s_say_number_c3_det⟩, ⟨s_parseS_ok, s_parseS_det⟩, ⟨s_span_Parse_ok, s_span_Parse_det⟩, trivial⟩ _
theorem s_say_parts_det : SumDet s_say_parts := inl_det say_parts_envOk.D _ _ _ _
theorem s_say_parts_ok : SumOk Tryz.prog 21 s_say_parts := inl_ok say_parts_envOk Tryz.func21 rfl (by kernel_rfl) _ _ _
noncomputable def bag_Compare_E : Env := ⟨th, gam [(64, s_bag_sign)], fun i => if i = 2 then ⟨[0, 1, 5], [], []⟩ else ⟨[], [], []⟩⟩
noncomputable def bag_Compare.k (rs : List AV) (os : List Den.Obj) : Option Int :=
  match rs, os with
  | [.d (.int .i64) r0], [] => some r0
  | _, _ => none
noncomputable def bag_Compare.s2 (a : List (Int × List Int)) (b : List (Int × List Int)) (x0 : Int) : St := ⟨[.d (.sl (.pair (.int .i64) (.sl (.int .u8)))) (a), .d (.sl (.pair (.int .i64) (.sl (.int .u8)))) (b), .dead, .dead, .dead, .d (.int .i64) x0, .dead, .dead, .dead, .dead, .dead, .dead, .dead, .dead, .dead, .dead, .dead, .dead, .dead, .dead, .dead, .dead, .dead, .dead, .dead, .dead, .dead, .dead, .dead, .dead, .dead, .dead, .dead, .dead, .dead, .dead, .dead, .dead, .dead, .dead, .dead, .dead, .dead], ofL [], 0⟩
noncomputable def bag_Compare.b2 (a : List (Int × List Int)) (b : List (Int × List Int)) (A2 : Int → Option Int) (x0 : Int) : Option Int :=
  (if (decide (x0 < ((((List.length a)) : Nat) : Int))) then (if (decide (x0 < ((((List.length b)) : Nat) : Int))) then (match (idx a x0) with | none => none | some y1 => (match (idx b x0) with | none => none | some y2 => (match (veil (bag_sign.f BIG y1.1 y1.2 y2.1 y2.2)) with | none => none | some y3 => (if (y3 != (0 : Int)) then some (y3) else A2 (Go.IntKind.wrap .i64 (x0 + (1 : Int))))))) else (if (decide (((((List.length a)) : Nat) : Int) < ((((List.length b)) : Nat) : Int))) then some ((-(1 : Int))) else (if (decide (((((List.length a)) : Nat) : Int) > ((((List.length b)) : Nat) : Int))) then some ((1 : Int)) else some ((0 : Int))))) else (if (decide (((((List.length a)) : Nat) : Int) < ((((List.length b)) : Nat) : Int))) then some ((-(1 : Int))) else (if (decide (((((List.length a)) : Nat) : Int) > ((((List.length b)) : Nat) : Int))) then some ((1 : Int)) else some ((0 : Int)))))
noncomputable def bag_Compare.l2 (fuel : Nat) (a : List (Int × List Int)) (b : List (Int × List Int)) : Nat → Int → Option Int
  | 0, _ => none
  | k + 1, x0 => bag_Compare.b2 a b (bag_Compare.l2 fuel a b k) x0
noncomputable def bag_Compare.b (a : List (Int × List Int)) (b : List (Int × List Int)) (E2 : Int → Option Int) : Option Int :=
  E2 (0 : Int)
noncomputable def bag_Compare.f (fuel : Nat) (a : List (Int × List Int)) (b : List (Int × List Int)) : Option Int := bag_Compare.b a b (bag_Compare.l2 fuel a b fuel)
theorem bag_Compare.l2_eq (fuel : Nat) (a : List (Int × List Int)) (b : List (Int × List Int)) : ∀ (k : Nat) (x0 : Int), lp bag_Compare_E fuel Tryz.f50 [.raw] 0 bag_Compare.k 2 [] k (bag_Compare.s2 a b x0) = bag_Compare.l2 fuel a b k x0 := by
  intro k
  induction k with
  | zero => intro x0; rfl
  | succ k ih =>
    intro x0
    have h : lp bag_Compare_E fuel Tryz.f50 [.raw] 0 bag_Compare.k 2 [] (k + 1) (bag_Compare.s2 a b x0) = bag_Compare.b2 a b (fun x0 => lp bag_Compare_E fuel Tryz.f50 [.raw] 0 bag_Compare.k 2 [] k (bag_Compare.s2 a b x0)) x0 := by kernel_rfl
    rw [h]
    have e2 : (fun x0 => lp bag_Compare_E fuel Tryz.f50 [.raw] 0 bag_Compare.k 2 [] k (bag_Compare.s2 a b x0)) = bag_Compare.l2 fuel a b k := (funext fun x0 => ih x0)
    rw [e2]
    rfl
theorem bag_Compare.eq (fuel : Nat) (a : List (Int × List Int)) (b : List (Int × List Int)) : (denF bag_Compare_E loopN fuel Tryz.f50 [.raw] [.d (.sl (.pair (.int .i64) (.sl (.int .u8)))) a, .d (.sl (.pair (.int .i64) (.sl (.int .u8)))) b] [] bag_Compare.k) = bag_Compare.f fuel a b := by
  have h : (denF bag_Compare_E loopN fuel Tryz.f50 [.raw] [.d (.sl (.pair (.int .i64) (.sl (.int .u8)))) a, .d (.sl (.pair (.int .i64) (.sl (.int .u8)))) b] [] bag_Compare.k) = bag_Compare.b a b (fun x0 => lp bag_Compare_E fuel Tryz.f50 [.raw] 0 bag_Compare.k 2 [] fuel (bag_Compare.s2 a b x0)) := by kernel_rfl
  rw [h]
  have e2 : (fun x0 => lp bag_Compare_E fuel Tryz.f50 [.raw] 0 bag_Compare.k 2 [] fuel (bag_Compare.s2 a b x0)) = bag_Compare.l2 fuel a b fuel := (funext fun x0 => bag_Compare.l2_eq fuel a b fuel x0)
  rw [e2]
  rfl
noncomputable def s_bag_Compare : Den.Sum := ⟨[.dat (.sl (.pair (.int .i64) (.sl (.int .u8)))) false, .dat (.sl (.pair (.int .i64) (.sl (.int .u8)))) false], fun args objs κ => match args, objs with
  | [.d (.sl (.pair (.int .i64) (.sl (.int .u8)))) a, .d (.sl (.pair (.int .i64) (.sl (.int .u8)))) b], [] => (match veil (bag_Compare.f BIG a b) with | none => none | some y => κ [.d (.int .i64) y] [])
  | _, _ => none⟩
theorem s_bag_Compare_det : SumDet s_bag_Compare := fun avs objs R κ => by
  show s_bag_Compare.run avs objs (two κ) = (s_bag_Compare.run avs objs (two some)).bind κ
  unfold s_bag_Compare
  simp only [veil_eq]
  split
  · split <;> rfl
  · rfl
theorem s_bag_Compare_ok : SumOk Tryz.prog 50 s_bag_Compare := by
  have hE : EnvOk Tryz.prog bag_Compare_E := env_ok (l := [(64, s_bag_sign)]) th_ok any_ok ⟨⟨s_bag_sign_ok, s_bag_sign_det⟩, trivial⟩ _
  refine sum_ok hE Tryz.func50 rfl (by kernel_rfl) s_bag_Compare [.raw] bag_Compare.k ?_
  intro R avs objs κ r h
  unfold s_bag_Compare at h
  simp only [veil_eq] at h
  split at h
  · rename_i a b
    split at h
    · cases h
    · rename_i y hy
      refine ⟨BIG, _, _, _, (bag_Compare.eq BIG a b).trans hy, ?_, h⟩
      intro rs ros hk
      unfold bag_Compare.k at hk
      split at hk
      · first | (cases hk; exact ⟨rfl, rfl⟩) | (have e := Option.some.inj hk; rw [← e]; exact ⟨rfl, rfl⟩)
      · cases hk
  · cases h
noncomputable def say_Parse_E : Env := ⟨th, gam [(19, s_splitS), (20, s_say_rows), (21, s_say_parts), (33, s_say_number), (34, s_say_parts_c1), (35, s_say_parts_c2), (36, s_say_parts_c3), (37, s_say_parts_c4), (38, s_say_parts_c5), (39, s_say_parts_c6), (40, s_span_Text), (41, s_say_readSpan), (42, s_say_parts_c7), (43, s_bag_Copy), (44, s_say_sayBag), (45, s_say_readBag), (46, s_say_parts_c8), (47, s_cloneDS), (48, s_say_sayDraws), (49, s_say_readDraws), (56, s_say_number_c1), (57, s_say_number_c2), (58, s_itoaS), (59, s_say_number_c3), (60, s_parseS), (61, s_span_Parse)], fun i => if i = 3 then ⟨[2, 4, 14, 15], [], [4]⟩ else if i = 8 then ⟨[2, 4, 6, 7, 8, 9, 14, 15, 33, 34], [(8, 9, .str), (1455, 48, (.pair (.int .i64) (.sl (.int .u8)))), (1456, 3, (.int .i64))], [8]⟩ else ⟨[], [], []⟩⟩
noncomputable def say_Parse.k (rs : List AV) (os : List Den.Obj) : Option (Int × Int × Int × Int × Int × Int × Int × (List (Int × (List Int))) × (List Int) × Int) :=
  match rs, os with
  | [.agg [.d (.int .i64) r0, .d (.int .i64) r1, .d (.int .i64) r2, .d (.int .i64) r3, .d (.int .i64) r4, .d (.int .i64) r5, .d (.int .i64) r6, .d (.sl (.pair (.int .i64) (.sl (.int .u8)))) r7, .d (.sl (.int .i64)) r8], .d (.int .i64) r9], [] => some (r0, r1, r2, r3, r4, r5, r6, r7, r8, r9)
  | _, _ => none
noncomputable def say_Parse.s8 (line : ByteArray) (x5 : (List ByteArray)) (x6 : Bool) (x7 : (List (ByteArray × Int))) (x8 : Int) (x9 : Int) (x10 : ByteArray) (x11 : Int) (x12 : Int) (x13 : Int) (x14 : Int) (x15 : Int) (x16 : Int) (x17 : Int) (x18 : Int) (x19 : (List (Int × (List Int)))) (x20 : (List Int)) : St := ⟨[.dead, .dead, .ptr 64 0, .dead, .d (.sl .str) ((splitL line (⟨((32 :: ([] : List UInt8))).toArray⟩ : ByteArray))), .dead, .ptr 65 0, .ptr 66 0, .d (.sl .str) x5, .d .bool x6, .dead, .dead, .dead, .dead, .d (.arr 12 (.pair .str (.int .i64))) x7, .d (.int .i64) x8, .dead, .dead, .dead, .dead, .dead, .dead, .dead, .dead, .dead, .dead, .dead, .dead, .dead, .dead, .dead, .dead, .dead, .agg [.d (.int .i64) ((1 : Int)), .fn (.func 56) [] [.ptr 69 0], .fn (.func 57) [] [.ptr 69 0], .fn (.func 59) [] [.ptr 69 0], .d (.int .i64) ((2 : Int)), .fn (.func 56) [] [.ptr 70 0], .fn (.func 57) [] [.ptr 70 0], .fn (.func 59) [] [.ptr 70 0], .d (.int .i64) ((4 : Int)), .fn (.func 56) [] [.ptr 71 0], .fn (.func 57) [] [.ptr 71 0], .fn (.func 59) [] [.ptr 71 0], .d (.int .i64) ((8 : Int)), .fn (.func 56) [] [.ptr 72 0], .fn (.func 57) [] [.ptr 72 0], .fn (.func 59) [] [.ptr 72 0], .d (.int .i64) ((16 : Int)), .fn (.func 38) [] [], .fn (.func 39) [] [], .fn (.func 41) [] [], .d (.int .i64) ((32 : Int)), .fn (.func 42) [] [], .fn (.func 44) [] [], .fn (.func 45) [] [], .d (.int .i64) ((64 : Int)), .fn (.func 46) [] [], .fn (.func 48) [] [], .fn (.func 49) [] []], .d (.int .i64) x9, .dead, .dead, .dead, .dead, .dead, .dead, .dead, .dead, .dead, .dead, .dead, .dead, .dead, .dead, .dead, .dead, .dead, .dead, .dead, .dead, .dead, .dead, .dead, .dead, .dead, .dead, .dead, .dead], ofL [(64, .box [.d (.int .i64) (0), .d (.int .i64) (0), .d (.int .i64) (0), .d (.int .i64) (0), .d (.int .i64) (0), .d (.int .i64) (0), .d (.int .i64) (0), .nilsl, .nilsl]), (65, .box [.d .str x10, .d (.int .i64) x11]), (66, .box [.d (.int .i64) x12, .d (.int .i64) x13, .d (.int .i64) x14, .d (.int .i64) x15, .d (.int .i64) x16, .d (.int .i64) x17, .d (.int .i64) x18, .row 67, .row 68]), (67, .row 48 (.pair (.int .i64) (.sl (.int .u8))) x19 false), (68, .row 3 (.int .i64) x20 false), (69, .box [.fn (.func 34) [] []]), (70, .box [.fn (.func 35) [] []]), (71, .box [.fn (.func 36) [] []]), (72, .box [.fn (.func 37) [] []])], 0⟩
noncomputable def say_Parse.b8 (line : ByteArray) (A3 : (List (ByteArray × Int)) → Int → Option (Int × Int × Int × Int × Int × Int × Int × (List (Int × (List Int))) × (List Int) × Int)) (A8 : (List ByteArray) → Bool → (List (ByteArray × Int)) → Int → Int → ByteArray → Int → Int → Int → Int → Int → Int → Int → Int → (List (Int × (List Int))) → (List Int) → Option (Int × Int × Int × Int × Int × Int × Int × (List (Int × (List Int))) × (List Int) × Int)) (x5 : (List ByteArray)) (x6 : Bool) (x7 : (List (ByteArray × Int))) (x8 : Int) (x9 : Int) (x10 : ByteArray) (x11 : Int) (x12 : Int) (x13 : Int) (x14 : Int) (x15 : Int) (x16 : Int) (x17 : Int) (x18 : Int) (x19 : (List (Int × (List Int)))) (x20 : (List Int)) : Option (Int × Int × Int × Int × Int × Int × Int × (List (Int × (List Int))) × (List Int) × Int) :=
  (if (decide (x9 < (7 : Int))) then (if (x9 == (0 : Int)) then (if x6 then (if ((bits Go.BinOp.and .i64 x11 (1 : Int)) != (0 : Int)) then (if (((((List.length x5)) : Nat) : Int) == (0 : Int)) then A8 ([] : List ByteArray) false x7 x8 (Go.IntKind.wrap .i64 (x9 + (1 : Int))) x10 x11 x12 x13 x14 x15 x16 x17 x18 x19 x20 else (match (idx x5 (0 : Int)) with | none => none | some y21 => (if ((ByteArray.size y21) ≤ (281474976710656 : Nat)) then (if (((0 : Int) ≤ (1 : Int)) ∧ ((1 : Int) ≤ ((((List.length x5)) : Nat) : Int))) then A8 (List.drop (Int.toNat (1 : Int)) (List.take (List.length x5) x5)) (parseB y21).2 x7 x8 (Go.IntKind.wrap .i64 (x9 + (1 : Int))) x10 x11 x12 (parseB y21).1 x14 x15 x16 x17 x18 x19 x20 else none) else none))) else A8 x5 x6 x7 x8 (Go.IntKind.wrap .i64 (x9 + (1 : Int))) x10 x11 x12 x13 x14 x15 x16 x17 x18 x19 x20) else A8 x5 x6 x7 x8 (Go.IntKind.wrap .i64 (x9 + (1 : Int))) x10 x11 x12 x13 x14 x15 x16 x17 x18 x19 x20) else (if (x9 == (1 : Int)) then (if x6 then (if ((bits Go.BinOp.and .i64 x11 (2 : Int)) != (0 : Int)) then (if (((((List.length x5)) : Nat) : Int) == (0 : Int)) then A8 ([] : List ByteArray) false x7 x8 (Go.IntKind.wrap .i64 (x9 + (1 : Int))) x10 x11 x12 x13 x14 x15 x16 x17 x18 x19 x20 else (match (idx x5 (0 : Int)) with | none => none | some y22 => (if ((ByteArray.size y22) ≤ (281474976710656 : Nat)) then (if (((0 : Int) ≤ (1 : Int)) ∧ ((1 : Int) ≤ ((((List.length x5)) : Nat) : Int))) then A8 (List.drop (Int.toNat (1 : Int)) (List.take (List.length x5) x5)) (parseB y22).2 x7 x8 (Go.IntKind.wrap .i64 (x9 + (1 : Int))) x10 x11 x12 x13 (parseB y22).1 x15 x16 x17 x18 x19 x20 else none) else none))) else A8 x5 x6 x7 x8 (Go.IntKind.wrap .i64 (x9 + (1 : Int))) x10 x11 x12 x13 x14 x15 x16 x17 x18 x19 x20) else A8 x5 x6 x7 x8 (Go.IntKind.wrap .i64 (x9 + (1 : Int))) x10 x11 x12 x13 x14 x15 x16 x17 x18 x19 x20) else (if (x9 == (2 : Int)) then (if x6 then (if ((bits Go.BinOp.and .i64 x11 (4 : Int)) != (0 : Int)) then (if (((((List.length x5)) : Nat) : Int) == (0 : Int)) then A8 ([] : List ByteArray) false x7 x8 (Go.IntKind.wrap .i64 (x9 + (1 : Int))) x10 x11 x12 x13 x14 x15 x16 x17 x18 x19 x20 else (match (idx x5 (0 : Int)) with | none => none | some y23 => (if ((ByteArray.size y23) ≤ (281474976710656 : Nat)) then (if (((0 : Int) ≤ (1 : Int)) ∧ ((1 : Int) ≤ ((((List.length x5)) : Nat) : Int))) then A8 (List.drop (Int.toNat (1 : Int)) (List.take (List.length x5) x5)) (parseB y23).2 x7 x8 (Go.IntKind.wrap .i64 (x9 + (1 : Int))) x10 x11 x12 x13 x14 (parseB y23).1 x16 x17 x18 x19 x20 else none) else none))) else A8 x5 x6 x7 x8 (Go.IntKind.wrap .i64 (x9 + (1 : Int))) x10 x11 x12 x13 x14 x15 x16 x17 x18 x19 x20) else A8 x5 x6 x7 x8 (Go.IntKind.wrap .i64 (x9 + (1 : Int))) x10 x11 x12 x13 x14 x15 x16 x17 x18 x19 x20) else (if (x9 == (3 : Int)) then (if x6 then (if ((bits Go.BinOp.and .i64 x11 (8 : Int)) != (0 : Int)) then (if (((((List.length x5)) : Nat) : Int) == (0 : Int)) then A8 ([] : List ByteArray) false x7 x8 (Go.IntKind.wrap .i64 (x9 + (1 : Int))) x10 x11 x12 x13 x14 x15 x16 x17 x18 x19 x20 else (match (idx x5 (0 : Int)) with | none => none | some y24 => (if ((ByteArray.size y24) ≤ (281474976710656 : Nat)) then (if (((0 : Int) ≤ (1 : Int)) ∧ ((1 : Int) ≤ ((((List.length x5)) : Nat) : Int))) then A8 (List.drop (Int.toNat (1 : Int)) (List.take (List.length x5) x5)) (parseB y24).2 x7 x8 (Go.IntKind.wrap .i64 (x9 + (1 : Int))) x10 x11 x12 x13 x14 x15 (parseB y24).1 x17 x18 x19 x20 else none) else none))) else A8 x5 x6 x7 x8 (Go.IntKind.wrap .i64 (x9 + (1 : Int))) x10 x11 x12 x13 x14 x15 x16 x17 x18 x19 x20) else A8 x5 x6 x7 x8 (Go.IntKind.wrap .i64 (x9 + (1 : Int))) x10 x11 x12 x13 x14 x15 x16 x17 x18 x19 x20) else (if (x9 == (4 : Int)) then (if x6 then (if ((bits Go.BinOp.and .i64 x11 (16 : Int)) != (0 : Int)) then (if (((((List.length x5)) : Nat) : Int) == (0 : Int)) then A8 ([] : List ByteArray) false x7 x8 (Go.IntKind.wrap .i64 (x9 + (1 : Int))) x10 x11 x12 x13 x14 x15 x16 x17 x18 x19 x20 else (match (idx x5 (0 : Int)) with | none => none | some y25 => (match (veil (span_Parse.f BIG y25)) with | none => none | some y26 => (if (((0 : Int) ≤ (1 : Int)) ∧ ((1 : Int) ≤ ((((List.length x5)) : Nat) : Int))) then A8 (List.drop (Int.toNat (1 : Int)) (List.take (List.length x5) x5)) (y26.2.2 == (0 : Int)) x7 x8 (Go.IntKind.wrap .i64 (x9 + (1 : Int))) x10 x11 x12 x13 x14 x15 x16 y26.1 y26.2.1 x19 x20 else none)))) else A8 x5 x6 x7 x8 (Go.IntKind.wrap .i64 (x9 + (1 : Int))) x10 x11 x12 x13 x14 x15 x16 x17 x18 x19 x20) else A8 x5 x6 x7 x8 (Go.IntKind.wrap .i64 (x9 + (1 : Int))) x10 x11 x12 x13 x14 x15 x16 x17 x18 x19 x20) else (if (x9 == (5 : Int)) then (if x6 then (if ((bits Go.BinOp.and .i64 x11 (32 : Int)) != (0 : Int)) then (match (veil (say_readBag.f BIG x12 x13 x14 x15 x16 x17 x18 x19 x20 x5)) with | none => none | some y27 => A8 y27.2.2.2.2.2.2.2.2.2.2 y27.1 x7 x8 (Go.IntKind.wrap .i64 (x9 + (1 : Int))) x10 x11 y27.2.1 y27.2.2.1 y27.2.2.2.1 y27.2.2.2.2.1 y27.2.2.2.2.2.1 y27.2.2.2.2.2.2.1 y27.2.2.2.2.2.2.2.1 y27.2.2.2.2.2.2.2.2.1 y27.2.2.2.2.2.2.2.2.2.1) else A8 x5 x6 x7 x8 (Go.IntKind.wrap .i64 (x9 + (1 : Int))) x10 x11 x12 x13 x14 x15 x16 x17 x18 x19 x20) else A8 x5 x6 x7 x8 (Go.IntKind.wrap .i64 (x9 + (1 : Int))) x10 x11 x12 x13 x14 x15 x16 x17 x18 x19 x20) else (if (x9 == (6 : Int)) then (if x6 then (if ((bits Go.BinOp.and .i64 x11 (64 : Int)) != (0 : Int)) then (match (veil (say_readDraws.f BIG x12 x13 x14 x15 x16 x17 x18 x19 x20 x5)) with | none => none | some y28 => A8 y28.2.2.2.2.2.2.2.2.2.2 y28.1 x7 x8 (Go.IntKind.wrap .i64 (x9 + (1 : Int))) x10 x11 y28.2.1 y28.2.2.1 y28.2.2.2.1 y28.2.2.2.2.1 y28.2.2.2.2.2.1 y28.2.2.2.2.2.2.1 y28.2.2.2.2.2.2.2.1 y28.2.2.2.2.2.2.2.2.1 y28.2.2.2.2.2.2.2.2.2.1) else A8 x5 x6 x7 x8 (Go.IntKind.wrap .i64 (x9 + (1 : Int))) x10 x11 x12 x13 x14 x15 x16 x17 x18 x19 x20) else A8 x5 x6 x7 x8 (Go.IntKind.wrap .i64 (x9 + (1 : Int))) x10 x11 x12 x13 x14 x15 x16 x17 x18 x19 x20) else none))))))) else (if x6 then (if (((((List.length x5)) : Nat) : Int) == (0 : Int)) then some (x12, x13, x14, x15, x16, x17, x18, x19, x20, (0 : Int)) else A3 x7 (Go.IntKind.wrap .i64 (x8 + (1 : Int)))) else A3 x7 (Go.IntKind.wrap .i64 (x8 + (1 : Int)))))
noncomputable def say_Parse.l8 (fuel : Nat) (line : ByteArray) (A3 : (List (ByteArray × Int)) → Int → Option (Int × Int × Int × Int × Int × Int × Int × (List (Int × (List Int))) × (List Int) × Int)) : Nat → (List ByteArray) → Bool → (List (ByteArray × Int)) → Int → Int → ByteArray → Int → Int → Int → Int → Int → Int → Int → Int → (List (Int × (List Int))) → (List Int) → Option (Int × Int × Int × Int × Int × Int × Int × (List (Int × (List Int))) × (List Int) × Int)
  | 0, _, _, _, _, _, _, _, _, _, _, _, _, _, _, _, _ => none
  | k + 1, x5, x6, x7, x8, x9, x10, x11, x12, x13, x14, x15, x16, x17, x18, x19, x20 => say_Parse.b8 line A3 (say_Parse.l8 fuel line A3 k) x5 x6 x7 x8 x9 x10 x11 x12 x13 x14 x15 x16 x17 x18 x19 x20
noncomputable def say_Parse.s3 (line : ByteArray) (x1 : (List (ByteArray × Int))) (x2 : Int) : St := ⟨[.dead, .dead, .ptr 64 0, .dead, .d (.sl .str) ((splitL line (⟨((32 :: ([] : List UInt8))).toArray⟩ : ByteArray))), .dead, .dead, .dead, .dead, .dead, .dead, .dead, .dead, .dead, .d (.arr 12 (.pair .str (.int .i64))) x1, .d (.int .i64) x2, .dead, .dead, .dead, .dead, .dead, .dead, .dead, .dead, .dead, .dead, .dead, .dead, .dead, .dead, .dead, .dead, .dead, .dead, .dead, .dead, .dead, .dead, .dead, .dead, .dead, .dead, .dead, .dead, .dead, .dead, .dead, .dead, .dead, .dead, .dead, .dead, .dead, .dead, .dead, .dead, .dead, .dead, .dead, .dead, .dead, .dead, .dead], ofL [(64, .box [.d (.int .i64) (0), .d (.int .i64) (0), .d (.int .i64) (0), .d (.int .i64) (0), .d (.int .i64) (0), .d (.int .i64) (0), .d (.int .i64) (0), .nilsl, .nilsl])], 0⟩
noncomputable def say_Parse.b3 (line : ByteArray) (A3 : (List (ByteArray × Int)) → Int → Option (Int × Int × Int × Int × Int × Int × Int × (List (Int × (List Int))) × (List Int) × Int)) (E8 : (List ByteArray) → Bool → (List (ByteArray × Int)) → Int → Int → ByteArray → Int → Int → Int → Int → Int → Int → Int → Int → (List (Int × (List Int))) → (List Int) → Option (Int × Int × Int × Int × Int × Int × Int × (List (Int × (List Int))) × (List Int) × Int)) (x1 : (List (ByteArray × Int))) (x2 : Int) : Option (Int × Int × Int × Int × Int × Int × Int × (List (Int × (List Int))) × (List Int) × Int) :=
  (if (decide (x2 < (12 : Int))) then (match (idx x1 x2) with | none => none | some y3 => (if (x2 == (0 : Int)) then A3 x1 (Go.IntKind.wrap .i64 (x2 + (1 : Int))) else (match (idx (splitL line (⟨((32 :: ([] : List UInt8))).toArray⟩ : ByteArray)) (0 : Int)) with | none => none | some y4 => (if (!((ByteArray.toList y3.1) == (ByteArray.toList y4))) then A3 x1 (Go.IntKind.wrap .i64 (x2 + (1 : Int))) else (if (((0 : Int) ≤ (1 : Int)) ∧ ((1 : Int) ≤ ((((List.length (splitL line (⟨((32 :: ([] : List UInt8))).toArray⟩ : ByteArray)))) : Nat) : Int))) then E8 (List.drop (Int.toNat (1 : Int)) (List.take (List.length (splitL line (⟨((32 :: ([] : List UInt8))).toArray⟩ : ByteArray))) (splitL line (⟨((32 :: ([] : List UInt8))).toArray⟩ : ByteArray)))) true x1 x2 (0 : Int) y3.1 y3.2 x2 0 0 0 0 0 0 ([] : List (Int × (List Int))) ([] : List Int) else none))))) else some (0, 0, 0, 0, 0, 0, 0, ([] : List (Int × (List Int))), ([] : List Int), (16 : Int)))
noncomputable def say_Parse.l3 (fuel : Nat) (line : ByteArray) : Nat → (List (ByteArray × Int)) → Int → Option (Int × Int × Int × Int × Int × Int × Int × (List (Int × (List Int))) × (List Int) × Int)
  | 0, _, _ => none
  | k + 1, x1, x2 => say_Parse.b3 line (say_Parse.l3 fuel line k) (say_Parse.l8 fuel line (say_Parse.l3 fuel line k) fuel) x1 x2
noncomputable def say_Parse.b (line : ByteArray) (E3 : (List (ByteArray × Int)) → Int → Option (Int × Int × Int × Int × Int × Int × Int × (List (Int × (List Int))) × (List Int) × Int)) : Option (Int × Int × Int × Int × Int × Int × Int × (List (Int × (List Int))) × (List Int) × Int) :=
  (if (((ByteArray.size line) < (4294967281 : Nat)) ∧ ((1 : Nat) ≤ (ByteArray.size (⟨((32 :: ([] : List UInt8))).toArray⟩ : ByteArray)))) then (match (veil (say_rows.f BIG ())) with | none => none | some y0 => E3 y0 (0 : Int)) else none)
noncomputable def say_Parse.f (fuel : Nat) (line : ByteArray) : Option (Int × Int × Int × Int × Int × Int × Int × (List (Int × (List Int))) × (List Int) × Int) := say_Parse.b line (say_Parse.l3 fuel line fuel)
theorem say_Parse.l8_eq (fuel : Nat) (line : ByteArray) (k3 : Nat) : ∀ (k : Nat) (x5 : (List ByteArray)) (x6 : Bool) (x7 : (List (ByteArray × Int))) (x8 : Int) (x9 : Int) (x10 : ByteArray) (x11 : Int) (x12 : Int) (x13 : Int) (x14 : Int) (x15 : Int) (x16 : Int) (x17 : Int) (x18 : Int) (x19 : (List (Int × (List Int)))) (x20 : (List Int)), lp say_Parse_E fuel Tryz.f8 [.dat (.pair (.int .i64) (.pair (.int .i64) (.pair (.int .i64) (.pair (.int .i64) (.pair (.int .i64) (.pair (.pair (.int .i64) (.int .i64)) (.pair (.sl (.pair (.int .i64) (.sl (.int .u8)))) (.sl (.int .i64))))))))) true, .raw] 0 say_Parse.k 8 [k3] k (say_Parse.s8 line x5 x6 x7 x8 x9 x10 x11 x12 x13 x14 x15 x16 x17 x18 x19 x20) = say_Parse.l8 fuel line (fun x1 x2 => lp say_Parse_E fuel Tryz.f8 [.dat (.pair (.int .i64) (.pair (.int .i64) (.pair (.int .i64) (.pair (.int .i64) (.pair (.int .i64) (.pair (.pair (.int .i64) (.int .i64)) (.pair (.sl (.pair (.int .i64) (.sl (.int .u8)))) (.sl (.int .i64))))))))) true, .raw] 0 say_Parse.k 3 [] k3 (say_Parse.s3 line x1 x2)) k x5 x6 x7 x8 x9 x10 x11 x12 x13 x14 x15 x16 x17 x18 x19 x20 := by
  intro k
  induction k with
  | zero => intro x5 x6 x7 x8 x9 x10 x11 x12 x13 x14 x15 x16 x17 x18 x19 x20; rfl
  | succ k ih =>
    intro x5 x6 x7 x8 x9 x10 x11 x12 x13 x14 x15 x16 x17 x18 x19 x20
    have h : lp say_Parse_E fuel Tryz.f8 [.dat (.pair (.int .i64) (.pair (.int .i64) (.pair (.int .i64) (.pair (.int .i64) (.pair (.int .i64) (.pair (.pair (.int .i64) (.int .i64)) (.pair (.sl (.pair (.int .i64) (.sl (.int .u8)))) (.sl (.int .i64))))))))) true, .raw] 0 say_Parse.k 8 [k3] (k + 1) (say_Parse.s8 line x5 x6 x7 x8 x9 x10 x11 x12 x13 x14 x15 x16 x17 x18 x19 x20) = say_Parse.b8 line (fun x1 x2 => lp say_Parse_E fuel Tryz.f8 [.dat (.pair (.int .i64) (.pair (.int .i64) (.pair (.int .i64) (.pair (.int .i64) (.pair (.int .i64) (.pair (.pair (.int .i64) (.int .i64)) (.pair (.sl (.pair (.int .i64) (.sl (.int .u8)))) (.sl (.int .i64))))))))) true, .raw] 0 say_Parse.k 3 [] k3 (say_Parse.s3 line x1 x2)) (fun x5 x6 x7 x8 x9 x10 x11 x12 x13 x14 x15 x16 x17 x18 x19 x20 => lp say_Parse_E fuel Tryz.f8 [.dat (.pair (.int .i64) (.pair (.int .i64) (.pair (.int .i64) (.pair (.int .i64) (.pair (.int .i64) (.pair (.pair (.int .i64) (.int .i64)) (.pair (.sl (.pair (.int .i64) (.sl (.int .u8)))) (.sl (.int .i64))))))))) true, .raw] 0 say_Parse.k 8 [k3] k (say_Parse.s8 line x5 x6 x7 x8 x9 x10 x11 x12 x13 x14 x15 x16 x17 x18 x19 x20)) x5 x6 x7 x8 x9 x10 x11 x12 x13 x14 x15 x16 x17 x18 x19 x20 := by kernel_rfl
    rw [h]
    have e8 : (fun x5 x6 x7 x8 x9 x10 x11 x12 x13 x14 x15 x16 x17 x18 x19 x20 => lp say_Parse_E fuel Tryz.f8 [.dat (.pair (.int .i64) (.pair (.int .i64) (.pair (.int .i64) (.pair (.int .i64) (.pair (.int .i64) (.pair (.pair (.int .i64) (.int .i64)) (.pair (.sl (.pair (.int .i64) (.sl (.int .u8)))) (.sl (.int .i64))))))))) true, .raw] 0 say_Parse.k 8 [k3] k (say_Parse.s8 line x5 x6 x7 x8 x9 x10 x11 x12 x13 x14 x15 x16 x17 x18 x19 x20)) = say_Parse.l8 fuel line (fun x1 x2 => lp say_Parse_E fuel Tryz.f8 [.dat (.pair (.int .i64) (.pair (.int .i64) (.pair (.int .i64) (.pair (.int .i64) (.pair (.int .i64) (.pair (.pair (.int .i64) (.int .i64)) (.pair (.sl (.pair (.int .i64) (.sl (.int .u8)))) (.sl (.int .i64))))))))) true, .raw] 0 say_Parse.k 3 [] k3 (say_Parse.s3 line x1 x2)) k := (funext fun x5 => (funext fun x6 => (funext fun x7 => (funext fun x8 => (funext fun x9 => (funext fun x10 => (funext fun x11 => (funext fun x12 => (funext fun x13 => (funext fun x14 => (funext fun x15 => (funext fun x16 => (funext fun x17 => (funext fun x18 => (funext fun x19 => (funext fun x20 => ih x5 x6 x7 x8 x9 x10 x11 x12 x13 x14 x15 x16 x17 x18 x19 x20))))))))))))))))
    rw [e8]
    rfl
theorem say_Parse.l3_eq (fuel : Nat) (line : ByteArray) : ∀ (k : Nat) (x1 : (List (ByteArray × Int))) (x2 : Int), lp say_Parse_E fuel Tryz.f8 [.dat (.pair (.int .i64) (.pair (.int .i64) (.pair (.int .i64) (.pair (.int .i64) (.pair (.int .i64) (.pair (.pair (.int .i64) (.int .i64)) (.pair (.sl (.pair (.int .i64) (.sl (.int .u8)))) (.sl (.int .i64))))))))) true, .raw] 0 say_Parse.k 3 [] k (say_Parse.s3 line x1 x2) = say_Parse.l3 fuel line k x1 x2 := by
  intro k
  induction k with
  | zero => intro x1 x2; rfl
  | succ k ih =>
    intro x1 x2
    have h : lp say_Parse_E fuel Tryz.f8 [.dat (.pair (.int .i64) (.pair (.int .i64) (.pair (.int .i64) (.pair (.int .i64) (.pair (.int .i64) (.pair (.pair (.int .i64) (.int .i64)) (.pair (.sl (.pair (.int .i64) (.sl (.int .u8)))) (.sl (.int .i64))))))))) true, .raw] 0 say_Parse.k 3 [] (k + 1) (say_Parse.s3 line x1 x2) = say_Parse.b3 line (fun x1 x2 => lp say_Parse_E fuel Tryz.f8 [.dat (.pair (.int .i64) (.pair (.int .i64) (.pair (.int .i64) (.pair (.int .i64) (.pair (.int .i64) (.pair (.pair (.int .i64) (.int .i64)) (.pair (.sl (.pair (.int .i64) (.sl (.int .u8)))) (.sl (.int .i64))))))))) true, .raw] 0 say_Parse.k 3 [] k (say_Parse.s3 line x1 x2)) (fun x5 x6 x7 x8 x9 x10 x11 x12 x13 x14 x15 x16 x17 x18 x19 x20 => lp say_Parse_E fuel Tryz.f8 [.dat (.pair (.int .i64) (.pair (.int .i64) (.pair (.int .i64) (.pair (.int .i64) (.pair (.int .i64) (.pair (.pair (.int .i64) (.int .i64)) (.pair (.sl (.pair (.int .i64) (.sl (.int .u8)))) (.sl (.int .i64))))))))) true, .raw] 0 say_Parse.k 8 [k] fuel (say_Parse.s8 line x5 x6 x7 x8 x9 x10 x11 x12 x13 x14 x15 x16 x17 x18 x19 x20)) x1 x2 := by kernel_rfl
    rw [h]
    have e3 : (fun x1 x2 => lp say_Parse_E fuel Tryz.f8 [.dat (.pair (.int .i64) (.pair (.int .i64) (.pair (.int .i64) (.pair (.int .i64) (.pair (.int .i64) (.pair (.pair (.int .i64) (.int .i64)) (.pair (.sl (.pair (.int .i64) (.sl (.int .u8)))) (.sl (.int .i64))))))))) true, .raw] 0 say_Parse.k 3 [] k (say_Parse.s3 line x1 x2)) = say_Parse.l3 fuel line k := (funext fun x1 => (funext fun x2 => ih x1 x2))
    rw [e3]
    have e8 : (fun x5 x6 x7 x8 x9 x10 x11 x12 x13 x14 x15 x16 x17 x18 x19 x20 => lp say_Parse_E fuel Tryz.f8 [.dat (.pair (.int .i64) (.pair (.int .i64) (.pair (.int .i64) (.pair (.int .i64) (.pair (.int .i64) (.pair (.pair (.int .i64) (.int .i64)) (.pair (.sl (.pair (.int .i64) (.sl (.int .u8)))) (.sl (.int .i64))))))))) true, .raw] 0 say_Parse.k 8 [k] fuel (say_Parse.s8 line x5 x6 x7 x8 x9 x10 x11 x12 x13 x14 x15 x16 x17 x18 x19 x20)) = say_Parse.l8 fuel line (fun x1 x2 => lp say_Parse_E fuel Tryz.f8 [.dat (.pair (.int .i64) (.pair (.int .i64) (.pair (.int .i64) (.pair (.int .i64) (.pair (.int .i64) (.pair (.pair (.int .i64) (.int .i64)) (.pair (.sl (.pair (.int .i64) (.sl (.int .u8)))) (.sl (.int .i64))))))))) true, .raw] 0 say_Parse.k 3 [] k (say_Parse.s3 line x1 x2)) fuel := (funext fun x5 => (funext fun x6 => (funext fun x7 => (funext fun x8 => (funext fun x9 => (funext fun x10 => (funext fun x11 => (funext fun x12 => (funext fun x13 => (funext fun x14 => (funext fun x15 => (funext fun x16 => (funext fun x17 => (funext fun x18 => (funext fun x19 => (funext fun x20 => say_Parse.l8_eq fuel line k fuel x5 x6 x7 x8 x9 x10 x11 x12 x13 x14 x15 x16 x17 x18 x19 x20))))))))))))))))
    rw [e8]
    rw [e3]
    rfl
theorem say_Parse.eq (fuel : Nat) (line : ByteArray) : (denF say_Parse_E loopN fuel Tryz.f8 [.dat (.pair (.int .i64) (.pair (.int .i64) (.pair (.int .i64) (.pair (.int .i64) (.pair (.int .i64) (.pair (.pair (.int .i64) (.int .i64)) (.pair (.sl (.pair (.int .i64) (.sl (.int .u8)))) (.sl (.int .i64))))))))) true, .raw] [.d .str line] [] say_Parse.k) = say_Parse.f fuel line := by
  have h : (denF say_Parse_E loopN fuel Tryz.f8 [.dat (.pair (.int .i64) (.pair (.int .i64) (.pair (.int .i64) (.pair (.int .i64) (.pair (.int .i64) (.pair (.pair (.int .i64) (.int .i64)) (.pair (.sl (.pair (.int .i64) (.sl (.int .u8)))) (.sl (.int .i64))))))))) true, .raw] [.d .str line] [] say_Parse.k) = say_Parse.b line (fun x1 x2 => lp say_Parse_E fuel Tryz.f8 [.dat (.pair (.int .i64) (.pair (.int .i64) (.pair (.int .i64) (.pair (.int .i64) (.pair (.int .i64) (.pair (.pair (.int .i64) (.int .i64)) (.pair (.sl (.pair (.int .i64) (.sl (.int .u8)))) (.sl (.int .i64))))))))) true, .raw] 0 say_Parse.k 3 [] fuel (say_Parse.s3 line x1 x2)) := by kernel_rfl
  rw [h]
  have e3 : (fun x1 x2 => lp say_Parse_E fuel Tryz.f8 [.dat (.pair (.int .i64) (.pair (.int .i64) (.pair (.int .i64) (.pair (.int .i64) (.pair (.int .i64) (.pair (.pair (.int .i64) (.int .i64)) (.pair (.sl (.pair (.int .i64) (.sl (.int .u8)))) (.sl (.int .i64))))))))) true, .raw] 0 say_Parse.k 3 [] fuel (say_Parse.s3 line x1 x2)) = say_Parse.l3 fuel line fuel := (funext fun x1 => (funext fun x2 => say_Parse.l3_eq fuel line fuel x1 x2))
  rw [e3]
  rfl
theorem say_Parse.l8_at (fuel nN kK : Nat) (hN : nN = kK + 1) (line : ByteArray) (A3 : (List (ByteArray × Int)) → Int → Option (Int × Int × Int × Int × Int × Int × Int × (List (Int × (List Int))) × (List Int) × Int)) (x5 : (List ByteArray)) (x6 : Bool) (x7 : (List (ByteArray × Int))) (x8 : Int) (x9 : Int) (x10 : ByteArray) (x11 : Int) (x12 : Int) (x13 : Int) (x14 : Int) (x15 : Int) (x16 : Int) (x17 : Int) (x18 : Int) (x19 : (List (Int × (List Int)))) (x20 : (List Int)) : say_Parse.l8 fuel line A3 nN x5 x6 x7 x8 x9 x10 x11 x12 x13 x14 x15 x16 x17 x18 x19 x20 = say_Parse.b8 line A3 (say_Parse.l8 fuel line A3 kK) x5 x6 x7 x8 x9 x10 x11 x12 x13 x14 x15 x16 x17 x18 x19 x20 := by
  subst hN
  rfl
theorem say_Parse.l3_at (fuel nN kK : Nat) (hN : nN = kK + 1) (line : ByteArray) (x1 : (List (ByteArray × Int))) (x2 : Int) : say_Parse.l3 fuel line nN x1 x2 = say_Parse.b3 line (say_Parse.l3 fuel line kK) (say_Parse.l8 fuel line (say_Parse.l3 fuel line kK) fuel) x1 x2 := by
  subst hN
  rfl
noncomputable def s_say_Parse : Den.Sum := ⟨[.raw], fun args objs κ => match args, objs with
  | [.d .str line], [] => (match veil (say_Parse.f BIG line) with | none => none | some y => κ [.agg [.d (.int .i64) y.1, .d (.int .i64) y.2.1, .d (.int .i64) y.2.2.1, .d (.int .i64) y.2.2.2.1, .d (.int .i64) y.2.2.2.2.1, .d (.int .i64) y.2.2.2.2.2.1, .d (.int .i64) y.2.2.2.2.2.2.1, .d (.sl (.pair (.int .i64) (.sl (.int .u8)))) y.2.2.2.2.2.2.2.1, .d (.sl (.int .i64)) y.2.2.2.2.2.2.2.2.1], .d (.int .i64) y.2.2.2.2.2.2.2.2.2] [])
  | _, _ => none⟩
theorem s_say_Parse_det : SumDet s_say_Parse := fun avs objs R κ => by
  show s_say_Parse.run avs objs (two κ) = (s_say_Parse.run avs objs (two some)).bind κ
  unfold s_say_Parse
  simp only [veil_eq]
  split
  · split <;> rfl
  · rfl
theorem s_say_Parse_ok : SumOk Tryz.prog 8 s_say_Parse := by
  have hE : EnvOk Tryz.prog say_Parse_E := env_ok (l := [(19, s_splitS), (20, s_say_rows), (21, s_say_parts), (33, s_say_number), (34, s_say_parts_c1), (35, s_say_parts_c2), (36, s_say_parts_c3), (37, s_say_parts_c4), (38, s_say_parts_c5), (39, s_say_parts_c6), (40, s_span_Text), (41, s_say_readSpan), (42, s_say_parts_c7), (43, s_bag_Copy), (44, s_say_sayBag), (45, s_say_readBag), (46, s_say_parts_c8), (47, s_cloneDS), (48, s_say_sayDraws), (49, s_say_readDraws), (56, s_say_number_c1), (57, s_say_number_c2), (58, s_itoaS), (59, s_say_number_c3), (60, s_parseS), (61, s_span_Parse)]) th_ok any_ok ⟨⟨s_splitS_ok, s_splitS_det⟩, ⟨s_say_rows_ok, s_say_rows_det⟩, ⟨s_say_parts_ok, s_say_parts_det⟩, ⟨s_say_number_ok, s_say_number_det⟩, ⟨s_say_parts_c1_ok, s_say_parts_c1_det⟩, ⟨s_say_parts_c2_ok, s_say_parts_c2_det⟩, ⟨s_say_parts_c3_ok, s_say_parts_c3_det⟩, ⟨s_say_parts_c4_ok, s_say_parts_c4_det⟩, ⟨s_say_parts_c5_ok, s_say_parts_c5_det⟩, ⟨s_say_parts_c6_ok, s_say_parts_c6_det⟩, ⟨s_span_Text_ok, s_span_Text_det⟩, ⟨s_say_readSpan_ok, s_say_readSpan_det⟩, ⟨s_say_parts_c7_ok, s_say_parts_c7_det⟩, ⟨s_bag_Copy_ok, s_bag_Copy_det⟩, ⟨s_say_sayBag_ok, s_say_sayBag_det⟩, ⟨s_say_readBag_ok, s_say_readBag_det⟩, ⟨s_say_parts_c8_ok, s_say_parts_c8_det⟩, ⟨s_cloneDS_ok, s_cloneDS_det⟩, ⟨s_say_sayDraws_ok, s_say_sayDraws_det⟩, ⟨s_say_readDraws_ok, s_say_readDraws_det⟩, ⟨s_say_number_c1_ok, s_say_number_c1_det⟩, ⟨s_say_number_c2_ok, s_say_number_c2_det⟩, ⟨s_itoaS_ok, s_itoaS_det⟩, ⟨s_say_number_c3_ok, s_say_number_c3_det⟩, ⟨s_parseS_ok, s_parseS_det⟩, ⟨s_span_Parse_ok, s_span_Parse_det⟩, trivial⟩ _
  refine sum_ok hE Tryz.func8 rfl (by kernel_rfl) s_say_Parse [.dat (.pair (.int .i64) (.pair (.int .i64) (.pair (.int .i64) (.pair (.int .i64) (.pair (.int .i64) (.pair (.pair (.int .i64) (.int .i64)) (.pair (.sl (.pair (.int .i64) (.sl (.int .u8)))) (.sl (.int .i64))))))))) true, .raw] say_Parse.k ?_
  intro R avs objs κ r h
  unfold s_say_Parse at h
  simp only [veil_eq] at h
  split at h
  · rename_i line
    split at h
    · cases h
    · rename_i y hy
      refine ⟨BIG, _, _, _, (say_Parse.eq BIG line).trans hy, ?_, h⟩
      intro rs ros hk
      unfold say_Parse.k at hk
      split at hk
      · first | (cases hk; exact ⟨rfl, rfl⟩) | (have e := Option.some.inj hk; rw [← e]; exact ⟨rfl, rfl⟩)
      · cases hk
  · cases h
noncomputable def say_Text_E : Env := ⟨th, gam [(17, s_span_Valid), (21, s_say_parts), (26, s_say_of), (28, s_joinS), (33, s_say_number), (34, s_say_parts_c1), (35, s_say_parts_c2), (36, s_say_parts_c3), (37, s_say_parts_c4), (38, s_say_parts_c5), (39, s_say_parts_c6), (40, s_span_Text), (41, s_say_readSpan), (42, s_say_parts_c7), (43, s_bag_Copy), (44, s_say_sayBag), (45, s_say_readBag), (46, s_say_parts_c8), (47, s_cloneDS), (48, s_say_sayDraws), (49, s_say_readDraws), (56, s_say_number_c1), (57, s_say_number_c2), (58, s_itoaS), (59, s_say_number_c3), (60, s_parseS), (61, s_span_Parse)], fun i => if i = 8 then ⟨[1, 4, 6, 30, 31], [], []⟩ else ⟨[], [], []⟩⟩
noncomputable def say_Text.k (rs : List AV) (os : List Den.Obj) : Option (ByteArray × Int) :=
  match rs, os with
  | [.d .str r0, .d (.int .i64) r1], [] => some (r0, r1)
  | _, _ => none
noncomputable def say_Text.s8 (aKind : Int) (aI : Int) (aK : Int) (aAt : Int) (aBy : Int) (aSpanLo : Int) (aSpanHi : Int) (aBag : List (Int × List Int)) (aDraws : List Int) (x2 : Int) (x3 : ByteArray) (x4 : Int) (x5 : (List ByteArray)) : St := ⟨[.dead, .ptr 64 0, .dead, .dead, .ptr 65 0, .dead, .row 66, .dead, .dead, .dead, .dead, .dead, .dead, .dead, .dead, .dead, .dead, .dead, .dead, .dead, .dead, .dead, .dead, .dead, .dead, .dead, .dead, .dead, .dead, .dead, .agg [.d (.int .i64) ((1 : Int)), .fn (.func 56) [] [.ptr 67 0], .fn (.func 57) [] [.ptr 67 0], .fn (.func 59) [] [.ptr 67 0], .d (.int .i64) ((2 : Int)), .fn (.func 56) [] [.ptr 68 0], .fn (.func 57) [] [.ptr 68 0], .fn (.func 59) [] [.ptr 68 0], .d (.int .i64) ((4 : Int)), .fn (.func 56) [] [.ptr 69 0], .fn (.func 57) [] [.ptr 69 0], .fn (.func 59) [] [.ptr 69 0], .d (.int .i64) ((8 : Int)), .fn (.func 56) [] [.ptr 70 0], .fn (.func 57) [] [.ptr 70 0], .fn (.func 59) [] [.ptr 70 0], .d (.int .i64) ((16 : Int)), .fn (.func 38) [] [], .fn (.func 39) [] [], .fn (.func 41) [] [], .d (.int .i64) ((32 : Int)), .fn (.func 42) [] [], .fn (.func 44) [] [], .fn (.func 45) [] [], .d (.int .i64) ((64 : Int)), .fn (.func 46) [] [], .fn (.func 48) [] [], .fn (.func 49) [] []], .d (.int .i64) x2, .dead, .dead, .dead, .dead, .dead, .dead, .dead, .dead, .dead, .dead, .dead, .dead, .dead, .dead, .dead, .dead, .dead], ofL [(64, .box [.d (.int .i64) (aKind), .d (.int .i64) (aI), .d (.int .i64) (aK), .d (.int .i64) (aAt), .d (.int .i64) (aBy), .d (.int .i64) (aSpanLo), .d (.int .i64) (aSpanHi), .d (.sl (.pair (.int .i64) (.sl (.int .u8)))) (aBag), .d (.sl (.int .i64)) (aDraws)]), (65, .box [.d .str x3, .d (.int .i64) x4]), (66, .row 9 .str x5 false), (67, .box [.fn (.func 34) [] []]), (68, .box [.fn (.func 35) [] []]), (69, .box [.fn (.func 36) [] []]), (70, .box [.fn (.func 37) [] []])], 0⟩
noncomputable def say_Text.b8 (aKind : Int) (aI : Int) (aK : Int) (aAt : Int) (aBy : Int) (aSpanLo : Int) (aSpanHi : Int) (aBag : List (Int × List Int)) (aDraws : List Int) (A8 : Int → ByteArray → Int → (List ByteArray) → Option (ByteArray × Int)) (x2 : Int) (x3 : ByteArray) (x4 : Int) (x5 : (List ByteArray)) : Option (ByteArray × Int) :=
  (if (decide (x2 < (7 : Int))) then (if (x2 == (0 : Int)) then (if ((bits Go.BinOp.and .i64 x4 (1 : Int)) != (0 : Int)) then (if (((-9223372036854775808) ≤ aI) ∧ (aI ≤ 9223372036854775807)) then (if ((((List.length x5) + (List.length ((itoaT aI) :: ([] : List ByteArray)))) * (16 : Nat)) ≤ lim) then A8 (Go.IntKind.wrap .i64 (x2 + (1 : Int))) x3 x4 (x5 ++ ((itoaT aI) :: ([] : List ByteArray))) else none) else none) else A8 (Go.IntKind.wrap .i64 (x2 + (1 : Int))) x3 x4 x5) else (if (x2 == (1 : Int)) then (if ((bits Go.BinOp.and .i64 x4 (2 : Int)) != (0 : Int)) then (if (((-9223372036854775808) ≤ aK) ∧ (aK ≤ 9223372036854775807)) then (if ((((List.length x5) + (List.length ((itoaT aK) :: ([] : List ByteArray)))) * (16 : Nat)) ≤ lim) then A8 (Go.IntKind.wrap .i64 (x2 + (1 : Int))) x3 x4 (x5 ++ ((itoaT aK) :: ([] : List ByteArray))) else none) else none) else A8 (Go.IntKind.wrap .i64 (x2 + (1 : Int))) x3 x4 x5) else (if (x2 == (2 : Int)) then (if ((bits Go.BinOp.and .i64 x4 (4 : Int)) != (0 : Int)) then (if (((-9223372036854775808) ≤ aAt) ∧ (aAt ≤ 9223372036854775807)) then (if ((((List.length x5) + (List.length ((itoaT aAt) :: ([] : List ByteArray)))) * (16 : Nat)) ≤ lim) then A8 (Go.IntKind.wrap .i64 (x2 + (1 : Int))) x3 x4 (x5 ++ ((itoaT aAt) :: ([] : List ByteArray))) else none) else none) else A8 (Go.IntKind.wrap .i64 (x2 + (1 : Int))) x3 x4 x5) else (if (x2 == (3 : Int)) then (if ((bits Go.BinOp.and .i64 x4 (8 : Int)) != (0 : Int)) then (if (((-9223372036854775808) ≤ aBy) ∧ (aBy ≤ 9223372036854775807)) then (if ((((List.length x5) + (List.length ((itoaT aBy) :: ([] : List ByteArray)))) * (16 : Nat)) ≤ lim) then A8 (Go.IntKind.wrap .i64 (x2 + (1 : Int))) x3 x4 (x5 ++ ((itoaT aBy) :: ([] : List ByteArray))) else none) else none) else A8 (Go.IntKind.wrap .i64 (x2 + (1 : Int))) x3 x4 x5) else (if (x2 == (4 : Int)) then (if ((bits Go.BinOp.and .i64 x4 (16 : Int)) != (0 : Int)) then (match (veil (span_Text.f BIG aSpanLo aSpanHi)) with | none => none | some y6 => (if ((((List.length x5) + (List.length (y6 :: ([] : List ByteArray)))) * (16 : Nat)) ≤ lim) then A8 (Go.IntKind.wrap .i64 (x2 + (1 : Int))) x3 x4 (x5 ++ (y6 :: ([] : List ByteArray))) else none)) else A8 (Go.IntKind.wrap .i64 (x2 + (1 : Int))) x3 x4 x5) else (if (x2 == (5 : Int)) then (if ((bits Go.BinOp.and .i64 x4 (32 : Int)) != (0 : Int)) then (match (veil (say_sayBag.f BIG aKind aI aK aAt aBy aSpanLo aSpanHi aBag aDraws)) with | none => none | some y7 => (if ((((List.length x5) + (List.length y7)) * (16 : Nat)) ≤ lim) then A8 (Go.IntKind.wrap .i64 (x2 + (1 : Int))) x3 x4 (x5 ++ y7) else none)) else A8 (Go.IntKind.wrap .i64 (x2 + (1 : Int))) x3 x4 x5) else (if (x2 == (6 : Int)) then (if ((bits Go.BinOp.and .i64 x4 (64 : Int)) != (0 : Int)) then (match (veil (say_sayDraws.f BIG aKind aI aK aAt aBy aSpanLo aSpanHi aBag aDraws)) with | none => none | some y8 => (if ((((List.length x5) + (List.length y8)) * (16 : Nat)) ≤ lim) then A8 (Go.IntKind.wrap .i64 (x2 + (1 : Int))) x3 x4 (x5 ++ y8) else none)) else A8 (Go.IntKind.wrap .i64 (x2 + (1 : Int))) x3 x4 x5) else none))))))) else (if (joinFits x5 (⟨((32 :: ([] : List UInt8))).toArray⟩ : ByteArray)) then some ((joinB x5 (⟨((32 :: ([] : List UInt8))).toArray⟩ : ByteArray)), (0 : Int)) else none))
noncomputable def say_Text.l8 (fuel : Nat) (aKind : Int) (aI : Int) (aK : Int) (aAt : Int) (aBy : Int) (aSpanLo : Int) (aSpanHi : Int) (aBag : List (Int × List Int)) (aDraws : List Int) : Nat → Int → ByteArray → Int → (List ByteArray) → Option (ByteArray × Int)
  | 0, _, _, _, _ => none
  | k + 1, x2, x3, x4, x5 => say_Text.b8 aKind aI aK aAt aBy aSpanLo aSpanHi aBag aDraws (say_Text.l8 fuel aKind aI aK aAt aBy aSpanLo aSpanHi aBag aDraws k) x2 x3 x4 x5
noncomputable def say_Text.b (aKind : Int) (aI : Int) (aK : Int) (aAt : Int) (aBy : Int) (aSpanLo : Int) (aSpanHi : Int) (aBag : List (Int × List Int)) (aDraws : List Int) (E8 : Int → ByteArray → Int → (List ByteArray) → Option (ByteArray × Int)) : Option (ByteArray × Int) :=
  (match (veil (say_of.f BIG aKind)) with | none => none | some y0 => (if (!y0.2.2) then some ((⟨(([] : List UInt8)).toArray⟩ : ByteArray), (10 : Int)) else (if ((bits Go.BinOp.and .i64 y0.2.1 (16 : Int)) != (0 : Int)) then (match (veil (span_Valid.f BIG aSpanLo aSpanHi)) with | none => none | some y1 => (if (!y1) then some ((⟨(([] : List UInt8)).toArray⟩ : ByteArray), (1 : Int)) else E8 (0 : Int) y0.1 y0.2.1 (y0.1 :: ([] : List ByteArray)))) else E8 (0 : Int) y0.1 y0.2.1 (y0.1 :: ([] : List ByteArray)))))
noncomputable def say_Text.f (fuel : Nat) (aKind : Int) (aI : Int) (aK : Int) (aAt : Int) (aBy : Int) (aSpanLo : Int) (aSpanHi : Int) (aBag : List (Int × List Int)) (aDraws : List Int) : Option (ByteArray × Int) := say_Text.b aKind aI aK aAt aBy aSpanLo aSpanHi aBag aDraws (say_Text.l8 fuel aKind aI aK aAt aBy aSpanLo aSpanHi aBag aDraws fuel)
theorem say_Text.l8_eq (fuel : Nat) (aKind : Int) (aI : Int) (aK : Int) (aAt : Int) (aBy : Int) (aSpanLo : Int) (aSpanHi : Int) (aBag : List (Int × List Int)) (aDraws : List Int) : ∀ (k : Nat) (x2 : Int) (x3 : ByteArray) (x4 : Int) (x5 : (List ByteArray)), lp say_Text_E fuel Tryz.f16 [.raw, .raw] 0 say_Text.k 8 [] k (say_Text.s8 aKind aI aK aAt aBy aSpanLo aSpanHi aBag aDraws x2 x3 x4 x5) = say_Text.l8 fuel aKind aI aK aAt aBy aSpanLo aSpanHi aBag aDraws k x2 x3 x4 x5 := by
  intro k
  induction k with
  | zero => intro x2 x3 x4 x5; rfl
  | succ k ih =>
    intro x2 x3 x4 x5
    have h : lp say_Text_E fuel Tryz.f16 [.raw, .raw] 0 say_Text.k 8 [] (k + 1) (say_Text.s8 aKind aI aK aAt aBy aSpanLo aSpanHi aBag aDraws x2 x3 x4 x5) = say_Text.b8 aKind aI aK aAt aBy aSpanLo aSpanHi aBag aDraws (fun x2 x3 x4 x5 => lp say_Text_E fuel Tryz.f16 [.raw, .raw] 0 say_Text.k 8 [] k (say_Text.s8 aKind aI aK aAt aBy aSpanLo aSpanHi aBag aDraws x2 x3 x4 x5)) x2 x3 x4 x5 := by kernel_rfl
    rw [h]
    have e8 : (fun x2 x3 x4 x5 => lp say_Text_E fuel Tryz.f16 [.raw, .raw] 0 say_Text.k 8 [] k (say_Text.s8 aKind aI aK aAt aBy aSpanLo aSpanHi aBag aDraws x2 x3 x4 x5)) = say_Text.l8 fuel aKind aI aK aAt aBy aSpanLo aSpanHi aBag aDraws k := (funext fun x2 => (funext fun x3 => (funext fun x4 => (funext fun x5 => ih x2 x3 x4 x5))))
    rw [e8]
    rfl
theorem say_Text.eq (fuel : Nat) (aKind : Int) (aI : Int) (aK : Int) (aAt : Int) (aBy : Int) (aSpanLo : Int) (aSpanHi : Int) (aBag : List (Int × List Int)) (aDraws : List Int) : (denF say_Text_E loopN fuel Tryz.f16 [.raw, .raw] [.agg [.d (.int .i64) aKind, .d (.int .i64) aI, .d (.int .i64) aK, .d (.int .i64) aAt, .d (.int .i64) aBy, .d (.int .i64) aSpanLo, .d (.int .i64) aSpanHi, .d (.sl (.pair (.int .i64) (.sl (.int .u8)))) aBag, .d (.sl (.int .i64)) aDraws]] [] say_Text.k) = say_Text.f fuel aKind aI aK aAt aBy aSpanLo aSpanHi aBag aDraws := by
  have h : (denF say_Text_E loopN fuel Tryz.f16 [.raw, .raw] [.agg [.d (.int .i64) aKind, .d (.int .i64) aI, .d (.int .i64) aK, .d (.int .i64) aAt, .d (.int .i64) aBy, .d (.int .i64) aSpanLo, .d (.int .i64) aSpanHi, .d (.sl (.pair (.int .i64) (.sl (.int .u8)))) aBag, .d (.sl (.int .i64)) aDraws]] [] say_Text.k) = say_Text.b aKind aI aK aAt aBy aSpanLo aSpanHi aBag aDraws (fun x2 x3 x4 x5 => lp say_Text_E fuel Tryz.f16 [.raw, .raw] 0 say_Text.k 8 [] fuel (say_Text.s8 aKind aI aK aAt aBy aSpanLo aSpanHi aBag aDraws x2 x3 x4 x5)) := by kernel_rfl
  rw [h]
  have e8 : (fun x2 x3 x4 x5 => lp say_Text_E fuel Tryz.f16 [.raw, .raw] 0 say_Text.k 8 [] fuel (say_Text.s8 aKind aI aK aAt aBy aSpanLo aSpanHi aBag aDraws x2 x3 x4 x5)) = say_Text.l8 fuel aKind aI aK aAt aBy aSpanLo aSpanHi aBag aDraws fuel := (funext fun x2 => (funext fun x3 => (funext fun x4 => (funext fun x5 => say_Text.l8_eq fuel aKind aI aK aAt aBy aSpanLo aSpanHi aBag aDraws fuel x2 x3 x4 x5))))
  rw [e8]
  rfl
theorem say_Text.l8_at (fuel nN kK : Nat) (hN : nN = kK + 1) (aKind : Int) (aI : Int) (aK : Int) (aAt : Int) (aBy : Int) (aSpanLo : Int) (aSpanHi : Int) (aBag : List (Int × List Int)) (aDraws : List Int) (x2 : Int) (x3 : ByteArray) (x4 : Int) (x5 : (List ByteArray)) : say_Text.l8 fuel aKind aI aK aAt aBy aSpanLo aSpanHi aBag aDraws nN x2 x3 x4 x5 = say_Text.b8 aKind aI aK aAt aBy aSpanLo aSpanHi aBag aDraws (say_Text.l8 fuel aKind aI aK aAt aBy aSpanLo aSpanHi aBag aDraws kK) x2 x3 x4 x5 := by
  subst hN
  rfl
noncomputable def s_say_Text : Den.Sum := ⟨[.dat (.pair (.int .i64) (.pair (.int .i64) (.pair (.int .i64) (.pair (.int .i64) (.pair (.int .i64) (.pair (.pair (.int .i64) (.int .i64)) (.pair (.sl (.pair (.int .i64) (.sl (.int .u8)))) (.sl (.int .i64))))))))) true], fun args objs κ => match args, objs with
  | [.agg [.d (.int .i64) aKind, .d (.int .i64) aI, .d (.int .i64) aK, .d (.int .i64) aAt, .d (.int .i64) aBy, .d (.int .i64) aSpanLo, .d (.int .i64) aSpanHi, .d (.sl (.pair (.int .i64) (.sl (.int .u8)))) aBag, .d (.sl (.int .i64)) aDraws]], [] => (match veil (say_Text.f BIG aKind aI aK aAt aBy aSpanLo aSpanHi aBag aDraws) with | none => none | some y => κ [.d .str y.1, .d (.int .i64) y.2] [])
  | _, _ => none⟩
theorem s_say_Text_det : SumDet s_say_Text := fun avs objs R κ => by
  show s_say_Text.run avs objs (two κ) = (s_say_Text.run avs objs (two some)).bind κ
  unfold s_say_Text
  simp only [veil_eq]
  split
  · split <;> rfl
  · rfl
theorem s_say_Text_ok : SumOk Tryz.prog 16 s_say_Text := by
  have hE : EnvOk Tryz.prog say_Text_E := env_ok (l := [(17, s_span_Valid), (21, s_say_parts), (26, s_say_of), (28, s_joinS), (33, s_say_number), (34, s_say_parts_c1), (35, s_say_parts_c2), (36, s_say_parts_c3), (37, s_say_parts_c4), (38, s_say_parts_c5), (39, s_say_parts_c6), (40, s_span_Text), (41, s_say_readSpan), (42, s_say_parts_c7), (43, s_bag_Copy), (44, s_say_sayBag), (45, s_say_readBag), (46, s_say_parts_c8), (47, s_cloneDS), (48, s_say_sayDraws), (49, s_say_readDraws), (56, s_say_number_c1), (57, s_say_number_c2), (58, s_itoaS), (59, s_say_number_c3), (60, s_parseS), (61, s_span_Parse)]) th_ok any_ok ⟨⟨s_span_Valid_ok, s_span_Valid_det⟩, ⟨s_say_parts_ok, s_say_parts_det⟩, ⟨s_say_of_ok, s_say_of_det⟩, ⟨s_joinS_ok, s_joinS_det⟩, ⟨s_say_number_ok, s_say_number_det⟩, ⟨s_say_parts_c1_ok, s_say_parts_c1_det⟩, ⟨s_say_parts_c2_ok, s_say_parts_c2_det⟩, ⟨s_say_parts_c3_ok, s_say_parts_c3_det⟩, ⟨s_say_parts_c4_ok, s_say_parts_c4_det⟩, ⟨s_say_parts_c5_ok, s_say_parts_c5_det⟩, ⟨s_say_parts_c6_ok, s_say_parts_c6_det⟩, ⟨s_span_Text_ok, s_span_Text_det⟩, ⟨s_say_readSpan_ok, s_say_readSpan_det⟩, ⟨s_say_parts_c7_ok, s_say_parts_c7_det⟩, ⟨s_bag_Copy_ok, s_bag_Copy_det⟩, ⟨s_say_sayBag_ok, s_say_sayBag_det⟩, ⟨s_say_readBag_ok, s_say_readBag_det⟩, ⟨s_say_parts_c8_ok, s_say_parts_c8_det⟩, ⟨s_cloneDS_ok, s_cloneDS_det⟩, ⟨s_say_sayDraws_ok, s_say_sayDraws_det⟩, ⟨s_say_readDraws_ok, s_say_readDraws_det⟩, ⟨s_say_number_c1_ok, s_say_number_c1_det⟩, ⟨s_say_number_c2_ok, s_say_number_c2_det⟩, ⟨s_itoaS_ok, s_itoaS_det⟩, ⟨s_say_number_c3_ok, s_say_number_c3_det⟩, ⟨s_parseS_ok, s_parseS_det⟩, ⟨s_span_Parse_ok, s_span_Parse_det⟩, trivial⟩ _
  refine sum_ok hE Tryz.func16 rfl (by kernel_rfl) s_say_Text [.raw, .raw] say_Text.k ?_
  intro R avs objs κ r h
  unfold s_say_Text at h
  simp only [veil_eq] at h
  split at h
  · rename_i aKind aI aK aAt aBy aSpanLo aSpanHi aBag aDraws
    split at h
    · cases h
    · rename_i y hy
      refine ⟨BIG, _, _, _, (say_Text.eq BIG aKind aI aK aAt aBy aSpanLo aSpanHi aBag aDraws).trans hy, ?_, h⟩
      intro rs ros hk
      unfold say_Text.k at hk
      split at hk
      · first | (cases hk; exact ⟨rfl, rfl⟩) | (have e := Option.some.inj hk; rw [← e]; exact ⟨rfl, rfl⟩)
      · cases hk
  · cases h
noncomputable def bag_Same_E : Env := ⟨th, gam [(50, s_bag_Compare)], fun i => ⟨[], [], []⟩⟩
noncomputable def bag_Same.k (rs : List AV) (os : List Den.Obj) : Option Bool :=
  match rs, os with
  | [.d .bool r0], [] => some r0
  | _, _ => none
noncomputable def bag_Same.b (a : List (Int × List Int)) (b : List (Int × List Int)) : Option Bool :=
  (match (veil (bag_Compare.f BIG a b)) with | none => none | some y0 => some ((y0 == (0 : Int))))
noncomputable def bag_Same.f (fuel : Nat) (a : List (Int × List Int)) (b : List (Int × List Int)) : Option Bool := bag_Same.b a b
theorem bag_Same.eq (fuel : Nat) (a : List (Int × List Int)) (b : List (Int × List Int)) : (denF bag_Same_E loopN fuel Tryz.f22 [.raw] [.d (.sl (.pair (.int .i64) (.sl (.int .u8)))) a, .d (.sl (.pair (.int .i64) (.sl (.int .u8)))) b] [] bag_Same.k) = bag_Same.f fuel a b := by
  kernel_rfl
noncomputable def s_bag_Same : Den.Sum := ⟨[.dat (.sl (.pair (.int .i64) (.sl (.int .u8)))) false, .dat (.sl (.pair (.int .i64) (.sl (.int .u8)))) false], fun args objs κ => match args, objs with
  | [.d (.sl (.pair (.int .i64) (.sl (.int .u8)))) a, .d (.sl (.pair (.int .i64) (.sl (.int .u8)))) b], [] => (match veil (bag_Same.f BIG a b) with | none => none | some y => κ [.d .bool y] [])
  | _, _ => none⟩
theorem s_bag_Same_det : SumDet s_bag_Same := fun avs objs R κ => by
  show s_bag_Same.run avs objs (two κ) = (s_bag_Same.run avs objs (two some)).bind κ
  unfold s_bag_Same
  simp only [veil_eq]
  split
  · split <;> rfl
  · rfl
theorem s_bag_Same_ok : SumOk Tryz.prog 22 s_bag_Same := by
  have hE : EnvOk Tryz.prog bag_Same_E := env_ok (l := [(50, s_bag_Compare)]) th_ok any_ok ⟨⟨s_bag_Compare_ok, s_bag_Compare_det⟩, trivial⟩ _
  refine sum_ok hE Tryz.func22 rfl (by kernel_rfl) s_bag_Same [.raw] bag_Same.k ?_
  intro R avs objs κ r h
  unfold s_bag_Same at h
  simp only [veil_eq] at h
  split at h
  · rename_i a b
    split at h
    · cases h
    · rename_i y hy
      refine ⟨BIG, _, _, _, (bag_Same.eq BIG a b).trans hy, ?_, h⟩
      intro rs ros hk
      unfold bag_Same.k at hk
      split at hk
      · first | (cases hk; exact ⟨rfl, rfl⟩) | (have e := Option.some.inj hk; rw [← e]; exact ⟨rfl, rfl⟩)
      · cases hk
  · cases h
noncomputable def law39_awake_E : Env := ⟨th, gam [(8, s_say_Parse), (16, s_say_Text)], fun i => ⟨[], [], []⟩⟩
noncomputable def law39_awake.k (rs : List AV) (os : List Den.Obj) : Option Bool :=
  match rs, os with
  | [.d .bool r0], [] => some r0
  | _, _ => none
noncomputable def law39_awake.b (u : Unit) : Option Bool :=
  (match (veil (say_Parse.f BIG (⟨((115 :: (116 :: (97 :: (114 :: (116 :: (32 :: (51 :: (32 :: (49 :: (45 :: (50 :: (32 :: (52 :: (48 :: (58 :: (48 :: (97 :: (102 :: (102 :: ([] : List UInt8))))))))))))))))))))).toArray⟩ : ByteArray))) with | none => none | some y0 => (match (veil (say_Text.f BIG (3 : Int) 0 0 0 0 0 0 ([] : List (Int × (List Int))) ((5 : Int) :: ((-(1 : Int)) :: ([] : List Int))))) with | none => none | some y1 => (match (veil (say_Parse.f BIG (⟨((115 :: (116 :: (111 :: (112 :: (32 :: (48 :: (51 :: ([] : List UInt8))))))))).toArray⟩ : ByteArray))) with | none => none | some y2 => (if (y0.2.2.2.2.2.2.2.2.2 == (0 : Int)) then (if (y0.2.1 == (3 : Int)) then (if (y0.2.2.2.2.2.2.1 == (2 : Int)) then (if (((((List.length y0.2.2.2.2.2.2.2.1)) : Nat) : Int) == (1 : Int)) then (match (idx y0.2.2.2.2.2.2.2.1 (0 : Int)) with | none => none | some y3 => (if ((ByteArray.toList (strOf y3.2)) == (ByteArray.toList (strOf ((10 : Int) :: ((255 : Int) :: ([] : List Int)))))) then (if (y1.2 == (0 : Int)) then (if ((ByteArray.toList y1.1) == (ByteArray.toList (⟨((116 :: (105 :: (99 :: (107 :: (32 :: (48 :: (32 :: (53 :: (32 :: (45 :: (49 :: ([] : List UInt8))))))))))))).toArray⟩ : ByteArray))) then some ((y2.2.2.2.2.2.2.2.2.2 == (16 : Int))) else some (false)) else some (false)) else some (false))) else some (false)) else some (false)) else some (false)) else some (false)))))
noncomputable def law39_awake.f (fuel : Nat) (u : Unit) : Option Bool := law39_awake.b u
theorem law39_awake.eq (fuel : Nat) (u : Unit) : (denF law39_awake_E loopN fuel Tryz.f7 [.raw] [] [] law39_awake.k) = law39_awake.f fuel u := by
  kernel_rfl
noncomputable def s_law39_awake : Den.Sum := ⟨[], fun args objs κ => match args, objs with
  | [], [] => (match veil (law39_awake.f BIG ()) with | none => none | some y => κ [.d .bool y] [])
  | _, _ => none⟩
theorem s_law39_awake_det : SumDet s_law39_awake := fun avs objs R κ => by
  show s_law39_awake.run avs objs (two κ) = (s_law39_awake.run avs objs (two some)).bind κ
  unfold s_law39_awake
  simp only [veil_eq]
  split
  · split <;> rfl
  · rfl
theorem s_law39_awake_ok : SumOk Tryz.prog 7 s_law39_awake := by
  have hE : EnvOk Tryz.prog law39_awake_E := env_ok (l := [(8, s_say_Parse), (16, s_say_Text)]) th_ok any_ok ⟨⟨s_say_Parse_ok, s_say_Parse_det⟩, ⟨s_say_Text_ok, s_say_Text_det⟩, trivial⟩ _
  refine sum_ok hE Tryz.func7 rfl (by kernel_rfl) s_law39_awake [.raw] law39_awake.k ?_
  intro R avs objs κ r h
  unfold s_law39_awake at h
  simp only [veil_eq] at h
  split at h
  · skip
    split at h
    · cases h
    · rename_i y hy
      refine ⟨BIG, _, _, _, (law39_awake.eq BIG ()).trans hy, ?_, h⟩
      intro rs ros hk
      unfold law39_awake.k at hk
      split at hk
      · first | (cases hk; exact ⟨rfl, rfl⟩) | (have e := Option.some.inj hk; rw [← e]; exact ⟨rfl, rfl⟩)
      · cases hk
  · cases h
noncomputable def law39_alike_E : Env := ⟨th, gam [(22, s_bag_Same)], fun i => if i = 4 then ⟨[2, 3, 5], [], []⟩ else if i = 3 then ⟨[2, 3], [], [777777]⟩ else ⟨[], [], []⟩⟩
noncomputable def law39_alike.k (rs : List AV) (os : List Den.Obj) : Option Bool :=
  match rs, os with
  | [.d .bool r0], [] => some r0
  | _, _ => none
noncomputable def law39_alike.s4 (aKind : Int) (aI : Int) (aK : Int) (aAt : Int) (aBy : Int) (aSpanLo : Int) (aSpanHi : Int) (aBag : List (Int × List Int)) (aDraws : List Int) (bKind : Int) (bI : Int) (bK : Int) (bAt : Int) (bBy : Int) (bSpanLo : Int) (bSpanHi : Int) (bBag : List (Int × List Int)) (bDraws : List Int) (x1 : Int) : St := ⟨[.dead, .dead, .ptr 64 0, .ptr 65 0, .dead, .d (.int .i64) x1, .dead, .dead, .dead, .dead, .dead, .dead, .dead, .dead, .dead, .dead, .dead, .dead, .dead, .dead, .dead, .dead, .dead, .dead, .dead, .dead, .dead, .dead, .dead, .dead, .dead, .dead, .dead, .dead, .dead, .dead, .dead, .dead, .dead, .dead, .dead, .dead, .dead, .dead, .dead, .dead, .dead, .dead, .dead, .dead, .dead, .dead, .dead, .dead, .dead, .dead, .dead, .dead, .dead, .dead, .dead, .dead, .dead, .dead, .dead, .dead, .dead, .dead, .dead, .dead, .dead, .dead, .dead, .dead, .dead, .dead, .dead, .dead, .dead, .dead, .dead, .dead, .dead, .dead, .dead, .dead, .dead, .dead, .dead, .dead, .dead, .dead], ofL [(64, .box [.d (.int .i64) (aKind), .d (.int .i64) (aI), .d (.int .i64) (aK), .d (.int .i64) (aAt), .d (.int .i64) (aBy), .d (.int .i64) (aSpanLo), .d (.int .i64) (aSpanHi), .d (.sl (.pair (.int .i64) (.sl (.int .u8)))) (aBag), .d (.sl (.int .i64)) (aDraws)]), (65, .box [.d (.int .i64) (bKind), .d (.int .i64) (bI), .d (.int .i64) (bK), .d (.int .i64) (bAt), .d (.int .i64) (bBy), .d (.int .i64) (bSpanLo), .d (.int .i64) (bSpanHi), .d (.sl (.pair (.int .i64) (.sl (.int .u8)))) (bBag), .d (.sl (.int .i64)) (bDraws)])], 0⟩
noncomputable def law39_alike.b4 (aKind : Int) (aI : Int) (aK : Int) (aAt : Int) (aBy : Int) (aSpanLo : Int) (aSpanHi : Int) (aBag : List (Int × List Int)) (aDraws : List Int) (bKind : Int) (bI : Int) (bK : Int) (bAt : Int) (bBy : Int) (bSpanLo : Int) (bSpanHi : Int) (bBag : List (Int × List Int)) (bDraws : List Int) (A4 : Int → Option Bool) (x1 : Int) : Option Bool :=
  (if (decide (x1 < ((((List.length aDraws)) : Nat) : Int))) then (match (idx aDraws x1) with | none => none | some y2 => (match (idx bDraws x1) with | none => none | some y3 => (if (y2 != y3) then some (false) else A4 (Go.IntKind.wrap .i64 (x1 + (1 : Int)))))) else some (true))
noncomputable def law39_alike.l4 (fuel : Nat) (aKind : Int) (aI : Int) (aK : Int) (aAt : Int) (aBy : Int) (aSpanLo : Int) (aSpanHi : Int) (aBag : List (Int × List Int)) (aDraws : List Int) (bKind : Int) (bI : Int) (bK : Int) (bAt : Int) (bBy : Int) (bSpanLo : Int) (bSpanHi : Int) (bBag : List (Int × List Int)) (bDraws : List Int) : Nat → Int → Option Bool
  | 0, _ => none
  | k + 1, x1 => law39_alike.b4 aKind aI aK aAt aBy aSpanLo aSpanHi aBag aDraws bKind bI bK bAt bBy bSpanLo bSpanHi bBag bDraws (law39_alike.l4 fuel aKind aI aK aAt aBy aSpanLo aSpanHi aBag aDraws bKind bI bK bAt bBy bSpanLo bSpanHi bBag bDraws k) x1
noncomputable def law39_alike.s3 (aKind : Int) (aI : Int) (aK : Int) (aAt : Int) (aBy : Int) (aSpanLo : Int) (aSpanHi : Int) (aBag : List (Int × List Int)) (aDraws : List Int) (bKind : Int) (bI : Int) (bK : Int) (bAt : Int) (bBy : Int) (bSpanLo : Int) (bSpanHi : Int) (bBag : List (Int × List Int)) (bDraws : List Int) : St := ⟨[.dead, .dead, .ptr 64 0, .ptr 65 0, .dead, .dead, .dead, .dead, .dead, .dead, .dead, .dead, .dead, .dead, .dead, .dead, .dead, .dead, .dead, .dead, .dead, .dead, .dead, .dead, .dead, .dead, .dead, .dead, .dead, .dead, .dead, .dead, .dead, .dead, .dead, .dead, .dead, .dead, .dead, .dead, .dead, .dead, .dead, .dead, .dead, .dead, .dead, .dead, .dead, .dead, .dead, .dead, .dead, .dead, .dead, .dead, .dead, .dead, .dead, .dead, .dead, .dead, .dead, .dead, .dead, .dead, .dead, .dead, .dead, .dead, .dead, .dead, .dead, .dead, .dead, .dead, .dead, .dead, .dead, .dead, .dead, .dead, .dead, .dead, .dead, .dead, .dead, .dead, .dead, .dead, .dead, .dead], ofL [(64, .box [.d (.int .i64) (aKind), .d (.int .i64) (aI), .d (.int .i64) (aK), .d (.int .i64) (aAt), .d (.int .i64) (aBy), .d (.int .i64) (aSpanLo), .d (.int .i64) (aSpanHi), .d (.sl (.pair (.int .i64) (.sl (.int .u8)))) (aBag), .d (.sl (.int .i64)) (aDraws)]), (65, .box [.d (.int .i64) (bKind), .d (.int .i64) (bI), .d (.int .i64) (bK), .d (.int .i64) (bAt), .d (.int .i64) (bBy), .d (.int .i64) (bSpanLo), .d (.int .i64) (bSpanHi), .d (.sl (.pair (.int .i64) (.sl (.int .u8)))) (bBag), .d (.sl (.int .i64)) (bDraws)])], 0⟩
noncomputable def law39_alike.b3 (aKind : Int) (aI : Int) (aK : Int) (aAt : Int) (aBy : Int) (aSpanLo : Int) (aSpanHi : Int) (aBag : List (Int × List Int)) (aDraws : List Int) (bKind : Int) (bI : Int) (bK : Int) (bAt : Int) (bBy : Int) (bSpanLo : Int) (bSpanHi : Int) (bBag : List (Int × List Int)) (bDraws : List Int) (A3 : Option Bool) (E4 : Int → Option Bool) : Option Bool :=
  E4 (0 : Int)
noncomputable def law39_alike.l3 (fuel : Nat) (aKind : Int) (aI : Int) (aK : Int) (aAt : Int) (aBy : Int) (aSpanLo : Int) (aSpanHi : Int) (aBag : List (Int × List Int)) (aDraws : List Int) (bKind : Int) (bI : Int) (bK : Int) (bAt : Int) (bBy : Int) (bSpanLo : Int) (bSpanHi : Int) (bBag : List (Int × List Int)) (bDraws : List Int) : Nat → Option Bool
  | 0 => none
  | k + 1 => law39_alike.b3 aKind aI aK aAt aBy aSpanLo aSpanHi aBag aDraws bKind bI bK bAt bBy bSpanLo bSpanHi bBag bDraws (law39_alike.l3 fuel aKind aI aK aAt aBy aSpanLo aSpanHi aBag aDraws bKind bI bK bAt bBy bSpanLo bSpanHi bBag bDraws k) (law39_alike.l4 fuel aKind aI aK aAt aBy aSpanLo aSpanHi aBag aDraws bKind bI bK bAt bBy bSpanLo bSpanHi bBag bDraws fuel)
noncomputable def law39_alike.b (aKind : Int) (aI : Int) (aK : Int) (aAt : Int) (aBy : Int) (aSpanLo : Int) (aSpanHi : Int) (aBag : List (Int × List Int)) (aDraws : List Int) (bKind : Int) (bI : Int) (bK : Int) (bAt : Int) (bBy : Int) (bSpanLo : Int) (bSpanHi : Int) (bBag : List (Int × List Int)) (bDraws : List Int) (E3 : Option Bool) : Option Bool :=
  (if (aKind != bKind) then some (false) else (if (aI != bI) then some (false) else (if (aK != bK) then some (false) else (if (aAt != bAt) then some (false) else (if (aBy != bBy) then some (false) else (if (aSpanLo != bSpanLo) then some (false) else (if (aSpanHi != bSpanHi) then some (false) else (match (veil (bag_Same.f BIG aBag bBag)) with | none => none | some y0 => (if (!y0) then some (false) else (if (((((List.length aDraws)) : Nat) : Int) != ((((List.length bDraws)) : Nat) : Int)) then some (false) else E3))))))))))
noncomputable def law39_alike.f (fuel : Nat) (aKind : Int) (aI : Int) (aK : Int) (aAt : Int) (aBy : Int) (aSpanLo : Int) (aSpanHi : Int) (aBag : List (Int × List Int)) (aDraws : List Int) (bKind : Int) (bI : Int) (bK : Int) (bAt : Int) (bBy : Int) (bSpanLo : Int) (bSpanHi : Int) (bBag : List (Int × List Int)) (bDraws : List Int) : Option Bool := law39_alike.b aKind aI aK aAt aBy aSpanLo aSpanHi aBag aDraws bKind bI bK bAt bBy bSpanLo bSpanHi bBag bDraws (law39_alike.l3 fuel aKind aI aK aAt aBy aSpanLo aSpanHi aBag aDraws bKind bI bK bAt bBy bSpanLo bSpanHi bBag bDraws fuel)
theorem law39_alike.l4_eq (fuel : Nat) (aKind : Int) (aI : Int) (aK : Int) (aAt : Int) (aBy : Int) (aSpanLo : Int) (aSpanHi : Int) (aBag : List (Int × List Int)) (aDraws : List Int) (bKind : Int) (bI : Int) (bK : Int) (bAt : Int) (bBy : Int) (bSpanLo : Int) (bSpanHi : Int) (bBag : List (Int × List Int)) (bDraws : List Int) : ∀ (k : Nat) (x1 : Int), lp law39_alike_E fuel Tryz.f9 [.raw] 0 law39_alike.k 4 [] k (law39_alike.s4 aKind aI aK aAt aBy aSpanLo aSpanHi aBag aDraws bKind bI bK bAt bBy bSpanLo bSpanHi bBag bDraws x1) = law39_alike.l4 fuel aKind aI aK aAt aBy aSpanLo aSpanHi aBag aDraws bKind bI bK bAt bBy bSpanLo bSpanHi bBag bDraws k x1 := by
  intro k
  induction k with
  | zero => intro x1; rfl
  | succ k ih =>
    intro x1
    have h : lp law39_alike_E fuel Tryz.f9 [.raw] 0 law39_alike.k 4 [] (k + 1) (law39_alike.s4 aKind aI aK aAt aBy aSpanLo aSpanHi aBag aDraws bKind bI bK bAt bBy bSpanLo bSpanHi bBag bDraws x1) = law39_alike.b4 aKind aI aK aAt aBy aSpanLo aSpanHi aBag aDraws bKind bI bK bAt bBy bSpanLo bSpanHi bBag bDraws (fun x1 => lp law39_alike_E fuel Tryz.f9 [.raw] 0 law39_alike.k 4 [] k (law39_alike.s4 aKind aI aK aAt aBy aSpanLo aSpanHi aBag aDraws bKind bI bK bAt bBy bSpanLo bSpanHi bBag bDraws x1)) x1 := by kernel_rfl
    rw [h]
    have e4 : (fun x1 => lp law39_alike_E fuel Tryz.f9 [.raw] 0 law39_alike.k 4 [] k (law39_alike.s4 aKind aI aK aAt aBy aSpanLo aSpanHi aBag aDraws bKind bI bK bAt bBy bSpanLo bSpanHi bBag bDraws x1)) = law39_alike.l4 fuel aKind aI aK aAt aBy aSpanLo aSpanHi aBag aDraws bKind bI bK bAt bBy bSpanLo bSpanHi bBag bDraws k := (funext fun x1 => ih x1)
    rw [e4]
    rfl
theorem law39_alike.l3_eq (fuel : Nat) (aKind : Int) (aI : Int) (aK : Int) (aAt : Int) (aBy : Int) (aSpanLo : Int) (aSpanHi : Int) (aBag : List (Int × List Int)) (aDraws : List Int) (bKind : Int) (bI : Int) (bK : Int) (bAt : Int) (bBy : Int) (bSpanLo : Int) (bSpanHi : Int) (bBag : List (Int × List Int)) (bDraws : List Int) : ∀ (k : Nat), lp law39_alike_E fuel Tryz.f9 [.raw] 0 law39_alike.k 3 [] k (law39_alike.s3 aKind aI aK aAt aBy aSpanLo aSpanHi aBag aDraws bKind bI bK bAt bBy bSpanLo bSpanHi bBag bDraws) = law39_alike.l3 fuel aKind aI aK aAt aBy aSpanLo aSpanHi aBag aDraws bKind bI bK bAt bBy bSpanLo bSpanHi bBag bDraws k := by
  intro k
  induction k with
  | zero => rfl
  | succ k ih =>
    have h : lp law39_alike_E fuel Tryz.f9 [.raw] 0 law39_alike.k 3 [] (k + 1) (law39_alike.s3 aKind aI aK aAt aBy aSpanLo aSpanHi aBag aDraws bKind bI bK bAt bBy bSpanLo bSpanHi bBag bDraws) = law39_alike.b3 aKind aI aK aAt aBy aSpanLo aSpanHi aBag aDraws bKind bI bK bAt bBy bSpanLo bSpanHi bBag bDraws (lp law39_alike_E fuel Tryz.f9 [.raw] 0 law39_alike.k 3 [] k (law39_alike.s3 aKind aI aK aAt aBy aSpanLo aSpanHi aBag aDraws bKind bI bK bAt bBy bSpanLo bSpanHi bBag bDraws)) (fun x1 => lp law39_alike_E fuel Tryz.f9 [.raw] 0 law39_alike.k 4 [] fuel (law39_alike.s4 aKind aI aK aAt aBy aSpanLo aSpanHi aBag aDraws bKind bI bK bAt bBy bSpanLo bSpanHi bBag bDraws x1)) := by kernel_rfl
    rw [h]
    have e3 : (lp law39_alike_E fuel Tryz.f9 [.raw] 0 law39_alike.k 3 [] k (law39_alike.s3 aKind aI aK aAt aBy aSpanLo aSpanHi aBag aDraws bKind bI bK bAt bBy bSpanLo bSpanHi bBag bDraws)) = law39_alike.l3 fuel aKind aI aK aAt aBy aSpanLo aSpanHi aBag aDraws bKind bI bK bAt bBy bSpanLo bSpanHi bBag bDraws k := ih
    rw [e3]
    have e4 : (fun x1 => lp law39_alike_E fuel Tryz.f9 [.raw] 0 law39_alike.k 4 [] fuel (law39_alike.s4 aKind aI aK aAt aBy aSpanLo aSpanHi aBag aDraws bKind bI bK bAt bBy bSpanLo bSpanHi bBag bDraws x1)) = law39_alike.l4 fuel aKind aI aK aAt aBy aSpanLo aSpanHi aBag aDraws bKind bI bK bAt bBy bSpanLo bSpanHi bBag bDraws fuel := (funext fun x1 => law39_alike.l4_eq fuel aKind aI aK aAt aBy aSpanLo aSpanHi aBag aDraws bKind bI bK bAt bBy bSpanLo bSpanHi bBag bDraws fuel x1)
    rw [e4]
    rfl
theorem law39_alike.eq (fuel : Nat) (aKind : Int) (aI : Int) (aK : Int) (aAt : Int) (aBy : Int) (aSpanLo : Int) (aSpanHi : Int) (aBag : List (Int × List Int)) (aDraws : List Int) (bKind : Int) (bI : Int) (bK : Int) (bAt : Int) (bBy : Int) (bSpanLo : Int) (bSpanHi : Int) (bBag : List (Int × List Int)) (bDraws : List Int) : (denF law39_alike_E loopN fuel Tryz.f9 [.raw] [.agg [.d (.int .i64) aKind, .d (.int .i64) aI, .d (.int .i64) aK, .d (.int .i64) aAt, .d (.int .i64) aBy, .d (.int .i64) aSpanLo, .d (.int .i64) aSpanHi, .d (.sl (.pair (.int .i64) (.sl (.int .u8)))) aBag, .d (.sl (.int .i64)) aDraws], .agg [.d (.int .i64) bKind, .d (.int .i64) bI, .d (.int .i64) bK, .d (.int .i64) bAt, .d (.int .i64) bBy, .d (.int .i64) bSpanLo, .d (.int .i64) bSpanHi, .d (.sl (.pair (.int .i64) (.sl (.int .u8)))) bBag, .d (.sl (.int .i64)) bDraws]] [] law39_alike.k) = law39_alike.f fuel aKind aI aK aAt aBy aSpanLo aSpanHi aBag aDraws bKind bI bK bAt bBy bSpanLo bSpanHi bBag bDraws := by
  have h : (denF law39_alike_E loopN fuel Tryz.f9 [.raw] [.agg [.d (.int .i64) aKind, .d (.int .i64) aI, .d (.int .i64) aK, .d (.int .i64) aAt, .d (.int .i64) aBy, .d (.int .i64) aSpanLo, .d (.int .i64) aSpanHi, .d (.sl (.pair (.int .i64) (.sl (.int .u8)))) aBag, .d (.sl (.int .i64)) aDraws], .agg [.d (.int .i64) bKind, .d (.int .i64) bI, .d (.int .i64) bK, .d (.int .i64) bAt, .d (.int .i64) bBy, .d (.int .i64) bSpanLo, .d (.int .i64) bSpanHi, .d (.sl (.pair (.int .i64) (.sl (.int .u8)))) bBag, .d (.sl (.int .i64)) bDraws]] [] law39_alike.k) = law39_alike.b aKind aI aK aAt aBy aSpanLo aSpanHi aBag aDraws bKind bI bK bAt bBy bSpanLo bSpanHi bBag bDraws (lp law39_alike_E fuel Tryz.f9 [.raw] 0 law39_alike.k 3 [] fuel (law39_alike.s3 aKind aI aK aAt aBy aSpanLo aSpanHi aBag aDraws bKind bI bK bAt bBy bSpanLo bSpanHi bBag bDraws)) := by kernel_rfl
  rw [h]
  have e3 : (lp law39_alike_E fuel Tryz.f9 [.raw] 0 law39_alike.k 3 [] fuel (law39_alike.s3 aKind aI aK aAt aBy aSpanLo aSpanHi aBag aDraws bKind bI bK bAt bBy bSpanLo bSpanHi bBag bDraws)) = law39_alike.l3 fuel aKind aI aK aAt aBy aSpanLo aSpanHi aBag aDraws bKind bI bK bAt bBy bSpanLo bSpanHi bBag bDraws fuel := law39_alike.l3_eq fuel aKind aI aK aAt aBy aSpanLo aSpanHi aBag aDraws bKind bI bK bAt bBy bSpanLo bSpanHi bBag bDraws fuel
  rw [e3]
  rfl
theorem law39_alike.l4_at (fuel nN kK : Nat) (hN : nN = kK + 1) (aKind : Int) (aI : Int) (aK : Int) (aAt : Int) (aBy : Int) (aSpanLo : Int) (aSpanHi : Int) (aBag : List (Int × List Int)) (aDraws : List Int) (bKind : Int) (bI : Int) (bK : Int) (bAt : Int) (bBy : Int) (bSpanLo : Int) (bSpanHi : Int) (bBag : List (Int × List Int)) (bDraws : List Int) (x1 : Int) : law39_alike.l4 fuel aKind aI aK aAt aBy aSpanLo aSpanHi aBag aDraws bKind bI bK bAt bBy bSpanLo bSpanHi bBag bDraws nN x1 = law39_alike.b4 aKind aI aK aAt aBy aSpanLo aSpanHi aBag aDraws bKind bI bK bAt bBy bSpanLo bSpanHi bBag bDraws (law39_alike.l4 fuel aKind aI aK aAt aBy aSpanLo aSpanHi aBag aDraws bKind bI bK bAt bBy bSpanLo bSpanHi bBag bDraws kK) x1 := by
  subst hN
  rfl
theorem law39_alike.l3_at (fuel nN kK : Nat) (hN : nN = kK + 1) (aKind : Int) (aI : Int) (aK : Int) (aAt : Int) (aBy : Int) (aSpanLo : Int) (aSpanHi : Int) (aBag : List (Int × List Int)) (aDraws : List Int) (bKind : Int) (bI : Int) (bK : Int) (bAt : Int) (bBy : Int) (bSpanLo : Int) (bSpanHi : Int) (bBag : List (Int × List Int)) (bDraws : List Int) : law39_alike.l3 fuel aKind aI aK aAt aBy aSpanLo aSpanHi aBag aDraws bKind bI bK bAt bBy bSpanLo bSpanHi bBag bDraws nN = law39_alike.b3 aKind aI aK aAt aBy aSpanLo aSpanHi aBag aDraws bKind bI bK bAt bBy bSpanLo bSpanHi bBag bDraws (law39_alike.l3 fuel aKind aI aK aAt aBy aSpanLo aSpanHi aBag aDraws bKind bI bK bAt bBy bSpanLo bSpanHi bBag bDraws kK) (law39_alike.l4 fuel aKind aI aK aAt aBy aSpanLo aSpanHi aBag aDraws bKind bI bK bAt bBy bSpanLo bSpanHi bBag bDraws fuel) := by
  subst hN
  rfl
noncomputable def s_law39_alike : Den.Sum := ⟨[.dat (.pair (.int .i64) (.pair (.int .i64) (.pair (.int .i64) (.pair (.int .i64) (.pair (.int .i64) (.pair (.pair (.int .i64) (.int .i64)) (.pair (.sl (.pair (.int .i64) (.sl (.int .u8)))) (.sl (.int .i64))))))))) true, .dat (.pair (.int .i64) (.pair (.int .i64) (.pair (.int .i64) (.pair (.int .i64) (.pair (.int .i64) (.pair (.pair (.int .i64) (.int .i64)) (.pair (.sl (.pair (.int .i64) (.sl (.int .u8)))) (.sl (.int .i64))))))))) true], fun args objs κ => match args, objs with
  | [.agg [.d (.int .i64) aKind, .d (.int .i64) aI, .d (.int .i64) aK, .d (.int .i64) aAt, .d (.int .i64) aBy, .d (.int .i64) aSpanLo, .d (.int .i64) aSpanHi, .d (.sl (.pair (.int .i64) (.sl (.int .u8)))) aBag, .d (.sl (.int .i64)) aDraws], .agg [.d (.int .i64) bKind, .d (.int .i64) bI, .d (.int .i64) bK, .d (.int .i64) bAt, .d (.int .i64) bBy, .d (.int .i64) bSpanLo, .d (.int .i64) bSpanHi, .d (.sl (.pair (.int .i64) (.sl (.int .u8)))) bBag, .d (.sl (.int .i64)) bDraws]], [] => (match veil (law39_alike.f BIG aKind aI aK aAt aBy aSpanLo aSpanHi aBag aDraws bKind bI bK bAt bBy bSpanLo bSpanHi bBag bDraws) with | none => none | some y => κ [.d .bool y] [])
  | _, _ => none⟩
theorem s_law39_alike_det : SumDet s_law39_alike := fun avs objs R κ => by
  show s_law39_alike.run avs objs (two κ) = (s_law39_alike.run avs objs (two some)).bind κ
  unfold s_law39_alike
  simp only [veil_eq]
  split
  · split <;> rfl
  · rfl
theorem s_law39_alike_ok : SumOk Tryz.prog 9 s_law39_alike := by
  have hE : EnvOk Tryz.prog law39_alike_E := env_ok (l := [(22, s_bag_Same)]) th_ok any_ok ⟨⟨s_bag_Same_ok, s_bag_Same_det⟩, trivial⟩ _
  refine sum_ok hE Tryz.func9 rfl (by kernel_rfl) s_law39_alike [.raw] law39_alike.k ?_
  intro R avs objs κ r h
  unfold s_law39_alike at h
  simp only [veil_eq] at h
  split at h
  · rename_i aKind aI aK aAt aBy aSpanLo aSpanHi aBag aDraws bKind bI bK bAt bBy bSpanLo bSpanHi bBag bDraws
    split at h
    · cases h
    · rename_i y hy
      refine ⟨BIG, _, _, _, (law39_alike.eq BIG aKind aI aK aAt aBy aSpanLo aSpanHi aBag aDraws bKind bI bK bAt bBy bSpanLo bSpanHi bBag bDraws).trans hy, ?_, h⟩
      intro rs ros hk
      unfold law39_alike.k at hk
      split at hk
      · first | (cases hk; exact ⟨rfl, rfl⟩) | (have e := Option.some.inj hk; rw [← e]; exact ⟨rfl, rfl⟩)
      · cases hk
  · cases h
noncomputable def say_Acts_E : Env := ⟨th, gam [(8, s_say_Parse), (19, s_splitS)], fun i => if i = 3 then ⟨[5, 11, 12, 13], [(5, 28, (.pair (.int .i64) (.pair (.int .i64) (.pair (.int .i64) (.pair (.int .i64) (.pair (.int .i64) (.pair (.pair (.int .i64) (.int .i64)) (.pair (.sl (.pair (.int .i64) (.sl (.int .u8)))) (.sl (.int .i64))))))))))], []⟩ else ⟨[], [], []⟩⟩
noncomputable def say_Acts.k (rs : List AV) (os : List Den.Obj) : Option (Int × Int × (List (Int × (Int × (Int × (Int × (Int × ((Int × Int) × ((List (Int × (List Int))) × (List Int)))))))))) :=
  match rs, os with
  | [.row 0, .d (.int .i64) r0, .d (.int .i64) r1], [.row 28 (.pair (.int .i64) (.pair (.int .i64) (.pair (.int .i64) (.pair (.int .i64) (.pair (.int .i64) (.pair (.pair (.int .i64) (.int .i64)) (.pair (.sl (.pair (.int .i64) (.sl (.int .u8)))) (.sl (.int .i64))))))))) r2 false] => some (r0, r1, r2)
  | _, _ => none
noncomputable def say_Acts.s3 (text : ByteArray) (x0 : Int) (x1 : Int) (x2 : (List (Int × (Int × (Int × (Int × (Int × ((Int × Int) × ((List (Int × (List Int))) × (List Int)))))))))) : St := ⟨[.dead, .dead, .dead, .dead, .dead, .row 64, .dead, .dead, .dead, .dead, .dead, .row 65, .d (.int .i64) x0, .d (.int .i64) x1, .dead, .dead, .dead, .dead, .dead, .dead, .dead, .dead, .dead, .dead, .dead, .dead, .dead, .dead, .dead, .dead, .dead, .dead, .dead, .dead, .dead, .dead, .dead, .dead, .dead, .dead, .dead], ofL [(64, .row 28 (.pair (.int .i64) (.pair (.int .i64) (.pair (.int .i64) (.pair (.int .i64) (.pair (.int .i64) (.pair (.pair (.int .i64) (.int .i64)) (.pair (.sl (.pair (.int .i64) (.sl (.int .u8)))) (.sl (.int .i64))))))))) x2 false), (65, .row 9 .str ((splitL text (⟨((10 :: ([] : List UInt8))).toArray⟩ : ByteArray))) false)], 0⟩
noncomputable def say_Acts.b3 (text : ByteArray) (A3 : Int → Int → (List (Int × (Int × (Int × (Int × (Int × ((Int × Int) × ((List (Int × (List Int))) × (List Int))))))))) → Option (Int × Int × (List (Int × (Int × (Int × (Int × (Int × ((Int × Int) × ((List (Int × (List Int))) × (List Int))))))))))) (x0 : Int) (x1 : Int) (x2 : (List (Int × (Int × (Int × (Int × (Int × ((Int × Int) × ((List (Int × (List Int))) × (List Int)))))))))) : Option (Int × Int × (List (Int × (Int × (Int × (Int × (Int × ((Int × Int) × ((List (Int × (List Int))) × (List Int)))))))))) :=
  (if (decide (x1 < x0)) then (match (idx (splitL text (⟨((10 :: ([] : List UInt8))).toArray⟩ : ByteArray)) x1) with | none => none | some y3 => (match (idx (splitL text (⟨((10 :: ([] : List UInt8))).toArray⟩ : ByteArray)) x1) with | none => none | some y4 => (if ((ByteArray.toList y4) == (ByteArray.toList (⟨(([] : List UInt8)).toArray⟩ : ByteArray))) then A3 x0 (Go.IntKind.wrap .i64 (x1 + (1 : Int))) x2 else (match (idx (Array.toList (ByteArray.data y4)) (0 : Int)) with | none => none | some y5 => (if (((((UInt8.toNat y5)) : Nat) : Int) == (35 : Int)) then A3 x0 (Go.IntKind.wrap .i64 (x1 + (1 : Int))) x2 else (match (veil (say_Parse.f BIG y4)) with | none => none | some y6 => (if (y6.2.2.2.2.2.2.2.2.2 != (0 : Int)) then some ((Go.IntKind.wrap .i64 (x1 + (1 : Int))), y6.2.2.2.2.2.2.2.2.2, ([] : List (Int × (Int × (Int × (Int × (Int × ((Int × Int) × ((List (Int × (List Int))) × (List Int)))))))))) else (if ((((List.length x2) + (List.length ((y6.1, (y6.2.1, (y6.2.2.1, (y6.2.2.2.1, (y6.2.2.2.2.1, ((y6.2.2.2.2.2.1, y6.2.2.2.2.2.2.1), (y6.2.2.2.2.2.2.2.1, y6.2.2.2.2.2.2.2.2.1))))))) :: ([] : List (Int × (Int × (Int × (Int × (Int × ((Int × Int) × ((List (Int × (List Int))) × (List Int)))))))))))) * (104 : Nat)) ≤ lim) then A3 x0 (Go.IntKind.wrap .i64 (x1 + (1 : Int))) (x2 ++ ((y6.1, (y6.2.1, (y6.2.2.1, (y6.2.2.2.1, (y6.2.2.2.2.1, ((y6.2.2.2.2.2.1, y6.2.2.2.2.2.2.1), (y6.2.2.2.2.2.2.2.1, y6.2.2.2.2.2.2.2.2.1))))))) :: ([] : List (Int × (Int × (Int × (Int × (Int × ((Int × Int) × ((List (Int × (List Int))) × (List Int))))))))))) else none)))))))) else some ((0 : Int), (0 : Int), x2))
noncomputable def say_Acts.l3 (fuel : Nat) (text : ByteArray) : Nat → Int → Int → (List (Int × (Int × (Int × (Int × (Int × ((Int × Int) × ((List (Int × (List Int))) × (List Int))))))))) → Option (Int × Int × (List (Int × (Int × (Int × (Int × (Int × ((Int × Int) × ((List (Int × (List Int))) × (List Int))))))))))
  | 0, _, _, _ => none
  | k + 1, x0, x1, x2 => say_Acts.b3 text (say_Acts.l3 fuel text k) x0 x1 x2
noncomputable def say_Acts.b (text : ByteArray) (E3 : Int → Int → (List (Int × (Int × (Int × (Int × (Int × ((Int × Int) × ((List (Int × (List Int))) × (List Int))))))))) → Option (Int × Int × (List (Int × (Int × (Int × (Int × (Int × ((Int × Int) × ((List (Int × (List Int))) × (List Int))))))))))) : Option (Int × Int × (List (Int × (Int × (Int × (Int × (Int × ((Int × Int) × ((List (Int × (List Int))) × (List Int)))))))))) :=
  (if (((ByteArray.size text) < (4294967281 : Nat)) ∧ ((1 : Nat) ≤ (ByteArray.size (⟨((10 :: ([] : List UInt8))).toArray⟩ : ByteArray)))) then E3 ((((List.length (splitL text (⟨((10 :: ([] : List UInt8))).toArray⟩ : ByteArray)))) : Nat) : Int) (0 : Int) ([] : List (Int × (Int × (Int × (Int × (Int × ((Int × Int) × ((List (Int × (List Int))) × (List Int))))))))) else none)
noncomputable def say_Acts.f (fuel : Nat) (text : ByteArray) : Option (Int × Int × (List (Int × (Int × (Int × (Int × (Int × ((Int × Int) × ((List (Int × (List Int))) × (List Int)))))))))) := say_Acts.b text (say_Acts.l3 fuel text fuel)
theorem say_Acts.l3_eq (fuel : Nat) (text : ByteArray) : ∀ (k : Nat) (x0 : Int) (x1 : Int) (x2 : (List (Int × (Int × (Int × (Int × (Int × ((Int × Int) × ((List (Int × (List Int))) × (List Int)))))))))), lp say_Acts_E fuel Tryz.f12 [.own 28 (.pair (.int .i64) (.pair (.int .i64) (.pair (.int .i64) (.pair (.int .i64) (.pair (.int .i64) (.pair (.pair (.int .i64) (.int .i64)) (.pair (.sl (.pair (.int .i64) (.sl (.int .u8)))) (.sl (.int .i64))))))))), .raw, .raw] 0 say_Acts.k 3 [] k (say_Acts.s3 text x0 x1 x2) = say_Acts.l3 fuel text k x0 x1 x2 := by
  intro k
  induction k with
  | zero => intro x0 x1 x2; rfl
  | succ k ih =>
    intro x0 x1 x2
    have h : lp say_Acts_E fuel Tryz.f12 [.own 28 (.pair (.int .i64) (.pair (.int .i64) (.pair (.int .i64) (.pair (.int .i64) (.pair (.int .i64) (.pair (.pair (.int .i64) (.int .i64)) (.pair (.sl (.pair (.int .i64) (.sl (.int .u8)))) (.sl (.int .i64))))))))), .raw, .raw] 0 say_Acts.k 3 [] (k + 1) (say_Acts.s3 text x0 x1 x2) = say_Acts.b3 text (fun x0 x1 x2 => lp say_Acts_E fuel Tryz.f12 [.own 28 (.pair (.int .i64) (.pair (.int .i64) (.pair (.int .i64) (.pair (.int .i64) (.pair (.int .i64) (.pair (.pair (.int .i64) (.int .i64)) (.pair (.sl (.pair (.int .i64) (.sl (.int .u8)))) (.sl (.int .i64))))))))), .raw, .raw] 0 say_Acts.k 3 [] k (say_Acts.s3 text x0 x1 x2)) x0 x1 x2 := by kernel_rfl
    rw [h]
    have e3 : (fun x0 x1 x2 => lp say_Acts_E fuel Tryz.f12 [.own 28 (.pair (.int .i64) (.pair (.int .i64) (.pair (.int .i64) (.pair (.int .i64) (.pair (.int .i64) (.pair (.pair (.int .i64) (.int .i64)) (.pair (.sl (.pair (.int .i64) (.sl (.int .u8)))) (.sl (.int .i64))))))))), .raw, .raw] 0 say_Acts.k 3 [] k (say_Acts.s3 text x0 x1 x2)) = say_Acts.l3 fuel text k := (funext fun x0 => (funext fun x1 => (funext fun x2 => ih x0 x1 x2)))
    rw [e3]
    rfl
theorem say_Acts.eq (fuel : Nat) (text : ByteArray) : (denF say_Acts_E loopN fuel Tryz.f12 [.own 28 (.pair (.int .i64) (.pair (.int .i64) (.pair (.int .i64) (.pair (.int .i64) (.pair (.int .i64) (.pair (.pair (.int .i64) (.int .i64)) (.pair (.sl (.pair (.int .i64) (.sl (.int .u8)))) (.sl (.int .i64))))))))), .raw, .raw] [.d .str text] [] say_Acts.k) = say_Acts.f fuel text := by
  have h : (denF say_Acts_E loopN fuel Tryz.f12 [.own 28 (.pair (.int .i64) (.pair (.int .i64) (.pair (.int .i64) (.pair (.int .i64) (.pair (.int .i64) (.pair (.pair (.int .i64) (.int .i64)) (.pair (.sl (.pair (.int .i64) (.sl (.int .u8)))) (.sl (.int .i64))))))))), .raw, .raw] [.d .str text] [] say_Acts.k) = say_Acts.b text (fun x0 x1 x2 => lp say_Acts_E fuel Tryz.f12 [.own 28 (.pair (.int .i64) (.pair (.int .i64) (.pair (.int .i64) (.pair (.int .i64) (.pair (.int .i64) (.pair (.pair (.int .i64) (.int .i64)) (.pair (.sl (.pair (.int .i64) (.sl (.int .u8)))) (.sl (.int .i64))))))))), .raw, .raw] 0 say_Acts.k 3 [] fuel (say_Acts.s3 text x0 x1 x2)) := by kernel_rfl
  rw [h]
  have e3 : (fun x0 x1 x2 => lp say_Acts_E fuel Tryz.f12 [.own 28 (.pair (.int .i64) (.pair (.int .i64) (.pair (.int .i64) (.pair (.int .i64) (.pair (.int .i64) (.pair (.pair (.int .i64) (.int .i64)) (.pair (.sl (.pair (.int .i64) (.sl (.int .u8)))) (.sl (.int .i64))))))))), .raw, .raw] 0 say_Acts.k 3 [] fuel (say_Acts.s3 text x0 x1 x2)) = say_Acts.l3 fuel text fuel := (funext fun x0 => (funext fun x1 => (funext fun x2 => say_Acts.l3_eq fuel text fuel x0 x1 x2)))
  rw [e3]
  rfl
noncomputable def s_say_Acts : Den.Sum := ⟨[.raw], fun args objs κ => match args, objs with
  | [.d .str text], [] => (match veil (say_Acts.f BIG text) with | none => none | some y => κ [.row 0, .d (.int .i64) y.1, .d (.int .i64) y.2.1] [.row 28 (.pair (.int .i64) (.pair (.int .i64) (.pair (.int .i64) (.pair (.int .i64) (.pair (.int .i64) (.pair (.pair (.int .i64) (.int .i64)) (.pair (.sl (.pair (.int .i64) (.sl (.int .u8)))) (.sl (.int .i64))))))))) y.2.2 false])
  | _, _ => none⟩
theorem s_say_Acts_det : SumDet s_say_Acts := fun avs objs R κ => by
  show s_say_Acts.run avs objs (two κ) = (s_say_Acts.run avs objs (two some)).bind κ
  unfold s_say_Acts
  simp only [veil_eq]
  split
  · split <;> rfl
  · rfl
theorem s_say_Acts_ok : SumOk Tryz.prog 12 s_say_Acts := by
  have hE : EnvOk Tryz.prog say_Acts_E := env_ok (l := [(8, s_say_Parse), (19, s_splitS)]) th_ok any_ok ⟨⟨s_say_Parse_ok, s_say_Parse_det⟩, ⟨s_splitS_ok, s_splitS_det⟩, trivial⟩ _
  refine sum_ok hE Tryz.func12 rfl (by kernel_rfl) s_say_Acts [.own 28 (.pair (.int .i64) (.pair (.int .i64) (.pair (.int .i64) (.pair (.int .i64) (.pair (.int .i64) (.pair (.pair (.int .i64) (.int .i64)) (.pair (.sl (.pair (.int .i64) (.sl (.int .u8)))) (.sl (.int .i64))))))))), .raw, .raw] say_Acts.k ?_
  intro R avs objs κ r h
  unfold s_say_Acts at h
  simp only [veil_eq] at h
  split at h
  · rename_i text
    split at h
    · cases h
    · rename_i y hy
      refine ⟨BIG, _, _, _, (say_Acts.eq BIG text).trans hy, ?_, h⟩
      intro rs ros hk
      unfold say_Acts.k at hk
      split at hk
      · first | (cases hk; exact ⟨rfl, rfl⟩) | (have e := Option.some.inj hk; rw [← e]; exact ⟨rfl, rfl⟩)
      · cases hk
  · cases h
noncomputable def say_Script_E : Env := ⟨th, gam [(16, s_say_Text), (29, s_strings_Builder_WriteString), (30, s_strings_Builder_WriteByte), (31, s_bstringS)], fun i => if i = 888887 then ⟨[74], [], []⟩ else if i = 3 then ⟨[5, 10, 11, 12], [], []⟩ else ⟨[], [], []⟩⟩
noncomputable def say_Script.k (rs : List AV) (os : List Den.Obj) : Option (ByteArray × Int × Int) :=
  match rs, os with
  | [.d .str r0, .d (.int .i64) r1, .d (.int .i64) r2], [] => some (r0, r1, r2)
  | _, _ => none
noncomputable def say_Script.s3 (l : List (Int × Int × Int × Int × Int × (Int × Int) × List (Int × List Int) × List Int)) (x0 : Int) (x1 : Int) (x2 : (List Int)) : St := ⟨[.dead, .dead, .dead, .dead, .dead, .ptr 64 0, .dead, .dead, .dead, .dead, .d (.sl (.pair (.int .i64) (.pair (.int .i64) (.pair (.int .i64) (.pair (.int .i64) (.pair (.int .i64) (.pair (.pair (.int .i64) (.int .i64)) (.pair (.sl (.pair (.int .i64) (.sl (.int .u8)))) (.sl (.int .i64)))))))))) (l), .d (.int .i64) x0, .d (.int .i64) x1, .dead, .dead, .dead, .dead, .dead, .dead, .dead, .dead, .dead, .dead, .dead, .dead, .dead, .dead, .dead, .dead, .dead, .dead, .dead], ofL [(64, .bld 74 (.row 65)), (65, .row 5 (.int .u8) x2 false)], 0⟩
noncomputable def say_Script.b3 (l : List (Int × Int × Int × Int × Int × (Int × Int) × List (Int × List Int) × List Int)) (A3 : Int → Int → (List Int) → Option (ByteArray × Int × Int)) (x0 : Int) (x1 : Int) (x2 : (List Int)) : Option (ByteArray × Int × Int) :=
  (if (decide (x1 < x0)) then (match (idx l x1) with | none => none | some y3 => (match (veil (say_Text.f BIG y3.1 y3.2.1 y3.2.2.1 y3.2.2.2.1 y3.2.2.2.2.1 y3.2.2.2.2.2.1.1 y3.2.2.2.2.2.1.2 y3.2.2.2.2.2.2.1 y3.2.2.2.2.2.2.2)) with | none => none | some y4 => (if (y4.2 != (0 : Int)) then some ((⟨(([] : List UInt8)).toArray⟩ : ByteArray), (Go.IntKind.wrap .i64 (x1 + (1 : Int))), y4.2) else (match (veil (strings_Builder_WriteString.f BIG x2 y4.1)) with | none => none | some y5 => (match (veil (strings_Builder_WriteByte.f BIG y5.2 (10 : Int))) with | none => none | some y6 => A3 x0 (Go.IntKind.wrap .i64 (x1 + (1 : Int))) y6))))) else some ((strOf x2), (0 : Int), (0 : Int)))
noncomputable def say_Script.l3 (fuel : Nat) (l : List (Int × Int × Int × Int × Int × (Int × Int) × List (Int × List Int) × List Int)) : Nat → Int → Int → (List Int) → Option (ByteArray × Int × Int)
  | 0, _, _, _ => none
  | k + 1, x0, x1, x2 => say_Script.b3 l (say_Script.l3 fuel l k) x0 x1 x2
noncomputable def say_Script.b (l : List (Int × Int × Int × Int × Int × (Int × Int) × List (Int × List Int) × List Int)) (E3 : Int → Int → (List Int) → Option (ByteArray × Int × Int)) : Option (ByteArray × Int × Int) :=
  E3 ((((List.length l)) : Nat) : Int) (0 : Int) ([] : List Int)
noncomputable def say_Script.f (fuel : Nat) (l : List (Int × Int × Int × Int × Int × (Int × Int) × List (Int × List Int) × List Int)) : Option (ByteArray × Int × Int) := say_Script.b l (say_Script.l3 fuel l fuel)
theorem say_Script.l3_eq (fuel : Nat) (l : List (Int × Int × Int × Int × Int × (Int × Int) × List (Int × List Int) × List Int)) : ∀ (k : Nat) (x0 : Int) (x1 : Int) (x2 : (List Int)), lp say_Script_E fuel Tryz.f18 [.raw, .raw, .raw] 0 say_Script.k 3 [] k (say_Script.s3 l x0 x1 x2) = say_Script.l3 fuel l k x0 x1 x2 := by
  intro k
  induction k with
  | zero => intro x0 x1 x2; rfl
  | succ k ih =>
    intro x0 x1 x2
    have h : lp say_Script_E fuel Tryz.f18 [.raw, .raw, .raw] 0 say_Script.k 3 [] (k + 1) (say_Script.s3 l x0 x1 x2) = say_Script.b3 l (fun x0 x1 x2 => lp say_Script_E fuel Tryz.f18 [.raw, .raw, .raw] 0 say_Script.k 3 [] k (say_Script.s3 l x0 x1 x2)) x0 x1 x2 := by kernel_rfl
    rw [h]
    have e3 : (fun x0 x1 x2 => lp say_Script_E fuel Tryz.f18 [.raw, .raw, .raw] 0 say_Script.k 3 [] k (say_Script.s3 l x0 x1 x2)) = say_Script.l3 fuel l k := (funext fun x0 => (funext fun x1 => (funext fun x2 => ih x0 x1 x2)))
    rw [e3]
    rfl
theorem say_Script.eq (fuel : Nat) (l : List (Int × Int × Int × Int × Int × (Int × Int) × List (Int × List Int) × List Int)) : (denF say_Script_E loopN fuel Tryz.f18 [.raw, .raw, .raw] [.d (.sl (.pair (.int .i64) (.pair (.int .i64) (.pair (.int .i64) (.pair (.int .i64) (.pair (.int .i64) (.pair (.pair (.int .i64) (.int .i64)) (.pair (.sl (.pair (.int .i64) (.sl (.int .u8)))) (.sl (.int .i64)))))))))) l] [] say_Script.k) = say_Script.f fuel l := by
  have h : (denF say_Script_E loopN fuel Tryz.f18 [.raw, .raw, .raw] [.d (.sl (.pair (.int .i64) (.pair (.int .i64) (.pair (.int .i64) (.pair (.int .i64) (.pair (.int .i64) (.pair (.pair (.int .i64) (.int .i64)) (.pair (.sl (.pair (.int .i64) (.sl (.int .u8)))) (.sl (.int .i64)))))))))) l] [] say_Script.k) = say_Script.b l (fun x0 x1 x2 => lp say_Script_E fuel Tryz.f18 [.raw, .raw, .raw] 0 say_Script.k 3 [] fuel (say_Script.s3 l x0 x1 x2)) := by kernel_rfl
  rw [h]
  have e3 : (fun x0 x1 x2 => lp say_Script_E fuel Tryz.f18 [.raw, .raw, .raw] 0 say_Script.k 3 [] fuel (say_Script.s3 l x0 x1 x2)) = say_Script.l3 fuel l fuel := (funext fun x0 => (funext fun x1 => (funext fun x2 => say_Script.l3_eq fuel l fuel x0 x1 x2)))
  rw [e3]
  rfl
theorem say_Script.l3_at (fuel nN kK : Nat) (hN : nN = kK + 1) (l : List (Int × Int × Int × Int × Int × (Int × Int) × List (Int × List Int) × List Int)) (x0 : Int) (x1 : Int) (x2 : (List Int)) : say_Script.l3 fuel l nN x0 x1 x2 = say_Script.b3 l (say_Script.l3 fuel l kK) x0 x1 x2 := by
  subst hN
  rfl
noncomputable def s_say_Script : Den.Sum := ⟨[.dat (.sl (.pair (.int .i64) (.pair (.int .i64) (.pair (.int .i64) (.pair (.int .i64) (.pair (.int .i64) (.pair (.pair (.int .i64) (.int .i64)) (.pair (.sl (.pair (.int .i64) (.sl (.int .u8)))) (.sl (.int .i64)))))))))) false], fun args objs κ => match args, objs with
  | [.d (.sl (.pair (.int .i64) (.pair (.int .i64) (.pair (.int .i64) (.pair (.int .i64) (.pair (.int .i64) (.pair (.pair (.int .i64) (.int .i64)) (.pair (.sl (.pair (.int .i64) (.sl (.int .u8)))) (.sl (.int .i64)))))))))) l], [] => (match veil (say_Script.f BIG l) with | none => none | some y => κ [.d .str y.1, .d (.int .i64) y.2.1, .d (.int .i64) y.2.2] [])
  | _, _ => none⟩
theorem s_say_Script_det : SumDet s_say_Script := fun avs objs R κ => by
  show s_say_Script.run avs objs (two κ) = (s_say_Script.run avs objs (two some)).bind κ
  unfold s_say_Script
  simp only [veil_eq]
  split
  · split <;> rfl
  · rfl
theorem s_say_Script_ok : SumOk Tryz.prog 18 s_say_Script := by
  have hE : EnvOk Tryz.prog say_Script_E := env_ok (l := [(16, s_say_Text), (29, s_strings_Builder_WriteString), (30, s_strings_Builder_WriteByte), (31, s_bstringS)]) th_ok any_ok ⟨⟨s_say_Text_ok, s_say_Text_det⟩, ⟨s_strings_Builder_WriteString_ok, s_strings_Builder_WriteString_det⟩, ⟨s_strings_Builder_WriteByte_ok, s_strings_Builder_WriteByte_det⟩, ⟨s_bstringS_ok, s_bstringS_det⟩, trivial⟩ _
  refine sum_ok hE Tryz.func18 rfl (by kernel_rfl) s_say_Script [.raw, .raw, .raw] say_Script.k ?_
  intro R avs objs κ r h
  unfold s_say_Script at h
  simp only [veil_eq] at h
  split at h
  · rename_i l
    split at h
    · cases h
    · rename_i y hy
      refine ⟨BIG, _, _, _, (say_Script.eq BIG l).trans hy, ?_, h⟩
      intro rs ros hk
      unfold say_Script.k at hk
      split at hk
      · first | (cases hk; exact ⟨rfl, rfl⟩) | (have e := Option.some.inj hk; rw [← e]; exact ⟨rfl, rfl⟩)
      · cases hk
  · cases h
noncomputable def law39_SayScripts_E : Env := ⟨th, gam [(7, s_law39_awake), (9, s_law39_alike), (10, s_law39_bare), (11, s_law39_line), (12, s_say_Acts), (13, s_law39_few), (16, s_say_Text), (18, s_say_Script)], fun i => if i = 6 then ⟨[0, 3, 4, 5], [], []⟩ else if i = 23 then ⟨[0, 11, 14], [], []⟩ else ⟨[], [], []⟩⟩
noncomputable def law39_SayScripts.k (rs : List AV) (os : List Den.Obj) : Option Bool :=
  match rs, os with
  | [.d .bool r0], [] => some r0
  | _, _ => none
noncomputable def law39_SayScripts.s23 (l : List (Int × Int × Int × Int × Int × (Int × Int) × List (Int × List Int) × List Int)) (x20 : Int) (x21 : (List (Int × (Int × (Int × (Int × (Int × ((Int × Int) × ((List (Int × (List Int))) × (List Int)))))))))) : St := ⟨[.d (.sl (.pair (.int .i64) (.pair (.int .i64) (.pair (.int .i64) (.pair (.int .i64) (.pair (.int .i64) (.pair (.pair (.int .i64) (.int .i64)) (.pair (.sl (.pair (.int .i64) (.sl (.int .u8)))) (.sl (.int .i64)))))))))) (l), .dead, .dead, .dead, .dead, .dead, .dead, .dead, .dead, .dead, .dead, .row 64, .dead, .dead, .d (.int .i64) x20, .dead, .dead, .dead, .dead, .dead, .dead, .dead, .dead, .dead, .dead, .dead, .dead, .dead, .dead, .dead, .dead, .dead, .dead, .dead, .dead, .dead, .dead, .dead, .dead, .dead, .dead, .dead, .dead, .dead, .dead, .dead, .dead, .dead, .dead, .dead, .dead, .dead, .dead, .dead, .dead, .dead, .dead, .dead, .dead, .dead, .dead, .dead, .dead, .dead, .dead, .dead, .dead, .dead, .dead, .dead, .dead, .dead, .dead, .dead, .dead, .dead, .dead, .dead, .dead, .dead, .dead, .dead, .dead, .dead, .dead, .dead, .dead, .dead, .dead, .dead, .dead, .dead, .dead, .dead, .dead, .dead, .dead, .dead, .dead, .dead, .dead, .dead, .dead, .dead, .dead, .dead, .dead, .dead, .dead, .dead, .dead, .dead, .dead, .dead, .dead, .dead, .dead, .dead, .dead, .dead, .dead, .dead, .dead, .dead, .dead, .dead, .dead, .dead, .dead, .dead, .dead, .dead, .dead, .dead, .dead, .dead], ofL [(64, .row 28 (.pair (.int .i64) (.pair (.int .i64) (.pair (.int .i64) (.pair (.int .i64) (.pair (.int .i64) (.pair (.pair (.int .i64) (.int .i64)) (.pair (.sl (.pair (.int .i64) (.sl (.int .u8)))) (.sl (.int .i64))))))))) x21 false)], 0⟩
noncomputable def law39_SayScripts.b23 (l : List (Int × Int × Int × Int × Int × (Int × Int) × List (Int × List Int) × List Int)) (A23 : Int → (List (Int × (Int × (Int × (Int × (Int × ((Int × Int) × ((List (Int × (List Int))) × (List Int))))))))) → Option Bool) (x20 : Int) (x21 : (List (Int × (Int × (Int × (Int × (Int × ((Int × Int) × ((List (Int × (List Int))) × (List Int)))))))))) : Option Bool :=
  (if (decide (x20 < ((((List.length l)) : Nat) : Int))) then (match (idx x21 x20) with | none => none | some y22 => (match (idx x21 x20) with | none => none | some y23 => (match (idx l x20) with | none => none | some y24 => (match (veil (law39_bare.f BIG y24.1 y24.2.1 y24.2.2.1 y24.2.2.2.1 y24.2.2.2.2.1 y24.2.2.2.2.2.1.1 y24.2.2.2.2.2.1.2 y24.2.2.2.2.2.2.1 y24.2.2.2.2.2.2.2)) with | none => none | some y25 => (match (veil (law39_alike.f BIG y23.1 y23.2.1 y23.2.2.1 y23.2.2.2.1 y23.2.2.2.2.1 y23.2.2.2.2.2.1.1 y23.2.2.2.2.2.1.2 y23.2.2.2.2.2.2.1 y23.2.2.2.2.2.2.2 y25.1 y25.2.1 y25.2.2.1 y25.2.2.2.1 y25.2.2.2.2.1 y25.2.2.2.2.2.1 y25.2.2.2.2.2.2.1 y25.2.2.2.2.2.2.2.1 y25.2.2.2.2.2.2.2.2)) with | none => none | some y26 => (if (!y26) then some (false) else A23 (Go.IntKind.wrap .i64 (x20 + (1 : Int))) x21)))))) else (match (veil (law39_awake.f BIG ())) with | none => none | some y27 => some (y27)))
noncomputable def law39_SayScripts.l23 (fuel : Nat) (l : List (Int × Int × Int × Int × Int × (Int × Int) × List (Int × List Int) × List Int)) : Nat → Int → (List (Int × (Int × (Int × (Int × (Int × ((Int × Int) × ((List (Int × (List Int))) × (List Int))))))))) → Option Bool
  | 0, _, _ => none
  | k + 1, x20, x21 => law39_SayScripts.b23 l (law39_SayScripts.l23 fuel l k) x20 x21
noncomputable def law39_SayScripts.s6 (l : List (Int × Int × Int × Int × Int × (Int × Int) × List (Int × List Int) × List Int)) (x1 : ByteArray) (x2 : Int) (x3 : Int) : St := ⟨[.d (.sl (.pair (.int .i64) (.pair (.int .i64) (.pair (.int .i64) (.pair (.int .i64) (.pair (.int .i64) (.pair (.pair (.int .i64) (.int .i64)) (.pair (.sl (.pair (.int .i64) (.sl (.int .u8)))) (.sl (.int .i64)))))))))) (l), .dead, .dead, .d .str x1, .d (.int .i64) x2, .d (.int .i64) x3, .dead, .dead, .dead, .dead, .dead, .dead, .dead, .dead, .dead, .dead, .dead, .dead, .dead, .dead, .dead, .dead, .dead, .dead, .dead, .dead, .dead, .dead, .dead, .dead, .dead, .dead, .dead, .dead, .dead, .dead, .dead, .dead, .dead, .dead, .dead, .dead, .dead, .dead, .dead, .dead, .dead, .dead, .dead, .dead, .dead, .dead, .dead, .dead, .dead, .dead, .dead, .dead, .dead, .dead, .dead, .dead, .dead, .dead, .dead, .dead, .dead, .dead, .dead, .dead, .dead, .dead, .dead, .dead, .dead, .dead, .dead, .dead, .dead, .dead, .dead, .dead, .dead, .dead, .dead, .dead, .dead, .dead, .dead, .dead, .dead, .dead, .dead, .dead, .dead, .dead, .dead, .dead, .dead, .dead, .dead, .dead, .dead, .dead, .dead, .dead, .dead, .dead, .dead, .dead, .dead, .dead, .dead, .dead, .dead, .dead, .dead, .dead, .dead, .dead, .dead, .dead, .dead, .dead, .dead, .dead, .dead, .dead, .dead, .dead, .dead, .dead, .dead, .dead, .dead, .dead], ofL [], 0⟩
noncomputable def law39_SayScripts.b6 (l : List (Int × Int × Int × Int × Int × (Int × Int) × List (Int × List Int) × List Int)) (A6 : ByteArray → Int → Int → Option Bool) (E23 : Int → (List (Int × (Int × (Int × (Int × (Int × ((Int × Int) × ((List (Int × (List Int))) × (List Int))))))))) → Option Bool) (x1 : ByteArray) (x2 : Int) (x3 : Int) : Option Bool :=
  (if (decide (x3 < ((((List.length l)) : Nat) : Int))) then (match (idx l x3) with | none => none | some y4 => (match (veil (law39_few.f BIG y4.1 y4.2.1 y4.2.2.1 y4.2.2.2.1 y4.2.2.2.2.1 y4.2.2.2.2.2.1.1 y4.2.2.2.2.2.1.2 y4.2.2.2.2.2.2.1 y4.2.2.2.2.2.2.2)) with | none => none | some y5 => (if (!y5) then (match (veil (law39_awake.f BIG ())) with | none => none | some y6 => some (y6)) else (if (x2 == (0 : Int)) then (match (idx l x3) with | none => none | some y7 => (match (veil (law39_line.f BIG y7.1 y7.2.1 y7.2.2.1 y7.2.2.2.1 y7.2.2.2.2.1 y7.2.2.2.2.2.1.1 y7.2.2.2.2.2.1.2 y7.2.2.2.2.2.2.1 y7.2.2.2.2.2.2.2)) with | none => none | some y8 => (if ((ByteArray.toList y8) == (ByteArray.toList (⟨(([] : List UInt8)).toArray⟩ : ByteArray))) then (match (idx l x3) with | none => none | some y9 => (match (veil (law39_line.f BIG y9.1 y9.2.1 y9.2.2.1 y9.2.2.2.1 y9.2.2.2.2.1 y9.2.2.2.2.2.1.1 y9.2.2.2.2.2.1.2 y9.2.2.2.2.2.2.1 y9.2.2.2.2.2.2.2)) with | none => none | some y10 => (if (((ByteArray.size x1) + (ByteArray.size y10)) ≤ (1099511627776 : Nat)) then (if (((ByteArray.size (x1 ++ y10)) + (ByteArray.size (⟨((10 :: ([] : List UInt8))).toArray⟩ : ByteArray))) ≤ (1099511627776 : Nat)) then A6 ((x1 ++ y10) ++ (⟨((10 :: ([] : List UInt8))).toArray⟩ : ByteArray)) (Go.IntKind.wrap .i64 (x3 + (1 : Int))) (Go.IntKind.wrap .i64 (x3 + (1 : Int))) else none) else none))) else (match (idx l x3) with | none => none | some y11 => (match (veil (law39_line.f BIG y11.1 y11.2.1 y11.2.2.1 y11.2.2.2.1 y11.2.2.2.2.1 y11.2.2.2.2.2.1.1 y11.2.2.2.2.2.1.2 y11.2.2.2.2.2.2.1 y11.2.2.2.2.2.2.2)) with | none => none | some y12 => (if (((ByteArray.size x1) + (ByteArray.size y12)) ≤ (1099511627776 : Nat)) then (if (((ByteArray.size (x1 ++ y12)) + (ByteArray.size (⟨((10 :: ([] : List UInt8))).toArray⟩ : ByteArray))) ≤ (1099511627776 : Nat)) then A6 ((x1 ++ y12) ++ (⟨((10 :: ([] : List UInt8))).toArray⟩ : ByteArray)) x2 (Go.IntKind.wrap .i64 (x3 + (1 : Int))) else none) else none)))))) else (match (idx l x3) with | none => none | some y13 => (match (veil (law39_line.f BIG y13.1 y13.2.1 y13.2.2.1 y13.2.2.2.1 y13.2.2.2.2.1 y13.2.2.2.2.2.1.1 y13.2.2.2.2.2.1.2 y13.2.2.2.2.2.2.1 y13.2.2.2.2.2.2.2)) with | none => none | some y14 => (if (((ByteArray.size x1) + (ByteArray.size y14)) ≤ (1099511627776 : Nat)) then (if (((ByteArray.size (x1 ++ y14)) + (ByteArray.size (⟨((10 :: ([] : List UInt8))).toArray⟩ : ByteArray))) ≤ (1099511627776 : Nat)) then A6 ((x1 ++ y14) ++ (⟨((10 :: ([] : List UInt8))).toArray⟩ : ByteArray)) x2 (Go.IntKind.wrap .i64 (x3 + (1 : Int))) else none) else none))))))) else (match (veil (say_Script.f BIG l)) with | none => none | some y15 => (if (decide (x2 > (0 : Int))) then (match (idx l (Go.IntKind.wrap .i64 (x2 - (1 : Int)))) with | none => none | some y16 => (match (veil (say_Text.f BIG y16.1 y16.2.1 y16.2.2.1 y16.2.2.2.1 y16.2.2.2.2.1 y16.2.2.2.2.2.1.1 y16.2.2.2.2.2.1.2 y16.2.2.2.2.2.2.1 y16.2.2.2.2.2.2.2)) with | none => none | some y17 => (if ((ByteArray.toList y15.1) == (ByteArray.toList (⟨(([] : List UInt8)).toArray⟩ : ByteArray))) then (if (y15.2.1 == x2) then (if (y15.2.2 == y17.2) then (if (y15.2.2 != (0 : Int)) then (match (veil (law39_awake.f BIG ())) with | none => none | some y18 => some (y18)) else some (false)) else some (false)) else some (false)) else some (false)))) else (if (!((ByteArray.toList y15.1) == (ByteArray.toList x1))) then some (false) else (if (y15.2.1 != (0 : Int)) then some (false) else (if (y15.2.2 != (0 : Int)) then some (false) else (match (veil (say_Acts.f BIG y15.1)) with | none => none | some y19 => (if (y19.1 != (0 : Int)) then some (false) else (if (y19.2.1 != (0 : Int)) then some (false) else (if (((((List.length y19.2.2)) : Nat) : Int) != ((((List.length l)) : Nat) : Int)) then some (false) else E23 (0 : Int) y19.2.2))))))))))
noncomputable def law39_SayScripts.l6 (fuel : Nat) (l : List (Int × Int × Int × Int × Int × (Int × Int) × List (Int × List Int) × List Int)) : Nat → ByteArray → Int → Int → Option Bool
  | 0, _, _, _ => none
  | k + 1, x1, x2, x3 => law39_SayScripts.b6 l (law39_SayScripts.l6 fuel l k) (law39_SayScripts.l23 fuel l fuel) x1 x2 x3
noncomputable def law39_SayScripts.b (l : List (Int × Int × Int × Int × Int × (Int × Int) × List (Int × List Int) × List Int)) (E6 : ByteArray → Int → Int → Option Bool) : Option Bool :=
  (if (decide (((((List.length l)) : Nat) : Int) > (20 : Int))) then (match (veil (law39_awake.f BIG ())) with | none => none | some y0 => some (y0)) else E6 (⟨(([] : List UInt8)).toArray⟩ : ByteArray) (0 : Int) (0 : Int))
noncomputable def law39_SayScripts.f (fuel : Nat) (l : List (Int × Int × Int × Int × Int × (Int × Int) × List (Int × List Int) × List Int)) : Option Bool := law39_SayScripts.b l (law39_SayScripts.l6 fuel l fuel)
theorem law39_SayScripts.l23_eq (fuel : Nat) (l : List (Int × Int × Int × Int × Int × (Int × Int) × List (Int × List Int) × List Int)) : ∀ (k : Nat) (x20 : Int) (x21 : (List (Int × (Int × (Int × (Int × (Int × ((Int × Int) × ((List (Int × (List Int))) × (List Int)))))))))), lp law39_SayScripts_E fuel Tryz.f6 [.raw] 0 law39_SayScripts.k 23 [] k (law39_SayScripts.s23 l x20 x21) = law39_SayScripts.l23 fuel l k x20 x21 := by
  intro k
  induction k with
  | zero => intro x20 x21; rfl
  | succ k ih =>
    intro x20 x21
    have h : lp law39_SayScripts_E fuel Tryz.f6 [.raw] 0 law39_SayScripts.k 23 [] (k + 1) (law39_SayScripts.s23 l x20 x21) = law39_SayScripts.b23 l (fun x20 x21 => lp law39_SayScripts_E fuel Tryz.f6 [.raw] 0 law39_SayScripts.k 23 [] k (law39_SayScripts.s23 l x20 x21)) x20 x21 := by kernel_rfl
    rw [h]
    have e23 : (fun x20 x21 => lp law39_SayScripts_E fuel Tryz.f6 [.raw] 0 law39_SayScripts.k 23 [] k (law39_SayScripts.s23 l x20 x21)) = law39_SayScripts.l23 fuel l k := (funext fun x20 => (funext fun x21 => ih x20 x21))
    rw [e23]
    rfl
theorem law39_SayScripts.l6_eq (fuel : Nat) (l : List (Int × Int × Int × Int × Int × (Int × Int) × List (Int × List Int) × List Int)) : ∀ (k : Nat) (x1 : ByteArray) (x2 : Int) (x3 : Int), lp law39_SayScripts_E fuel Tryz.f6 [.raw] 0 law39_SayScripts.k 6 [] k (law39_SayScripts.s6 l x1 x2 x3) = law39_SayScripts.l6 fuel l k x1 x2 x3 := by
  intro k
  induction k with
  | zero => intro x1 x2 x3; rfl
  | succ k ih =>
    intro x1 x2 x3
    have h : lp law39_SayScripts_E fuel Tryz.f6 [.raw] 0 law39_SayScripts.k 6 [] (k + 1) (law39_SayScripts.s6 l x1 x2 x3) = law39_SayScripts.b6 l (fun x1 x2 x3 => lp law39_SayScripts_E fuel Tryz.f6 [.raw] 0 law39_SayScripts.k 6 [] k (law39_SayScripts.s6 l x1 x2 x3)) (fun x20 x21 => lp law39_SayScripts_E fuel Tryz.f6 [.raw] 0 law39_SayScripts.k 23 [] fuel (law39_SayScripts.s23 l x20 x21)) x1 x2 x3 := by kernel_rfl
    rw [h]
    have e6 : (fun x1 x2 x3 => lp law39_SayScripts_E fuel Tryz.f6 [.raw] 0 law39_SayScripts.k 6 [] k (law39_SayScripts.s6 l x1 x2 x3)) = law39_SayScripts.l6 fuel l k := (funext fun x1 => (funext fun x2 => (funext fun x3 => ih x1 x2 x3)))
    rw [e6]
    have e23 : (fun x20 x21 => lp law39_SayScripts_E fuel Tryz.f6 [.raw] 0 law39_SayScripts.k 23 [] fuel (law39_SayScripts.s23 l x20 x21)) = law39_SayScripts.l23 fuel l fuel := (funext fun x20 => (funext fun x21 => law39_SayScripts.l23_eq fuel l fuel x20 x21))
    rw [e23]
    rfl
theorem law39_SayScripts.eq (fuel : Nat) (l : List (Int × Int × Int × Int × Int × (Int × Int) × List (Int × List Int) × List Int)) : (denF law39_SayScripts_E loopN fuel Tryz.f6 [.raw] [.d (.sl (.pair (.int .i64) (.pair (.int .i64) (.pair (.int .i64) (.pair (.int .i64) (.pair (.int .i64) (.pair (.pair (.int .i64) (.int .i64)) (.pair (.sl (.pair (.int .i64) (.sl (.int .u8)))) (.sl (.int .i64)))))))))) l] [] law39_SayScripts.k) = law39_SayScripts.f fuel l := by
  have h : (denF law39_SayScripts_E loopN fuel Tryz.f6 [.raw] [.d (.sl (.pair (.int .i64) (.pair (.int .i64) (.pair (.int .i64) (.pair (.int .i64) (.pair (.int .i64) (.pair (.pair (.int .i64) (.int .i64)) (.pair (.sl (.pair (.int .i64) (.sl (.int .u8)))) (.sl (.int .i64)))))))))) l] [] law39_SayScripts.k) = law39_SayScripts.b l (fun x1 x2 x3 => lp law39_SayScripts_E fuel Tryz.f6 [.raw] 0 law39_SayScripts.k 6 [] fuel (law39_SayScripts.s6 l x1 x2 x3)) := by kernel_rfl
  rw [h]
  have e6 : (fun x1 x2 x3 => lp law39_SayScripts_E fuel Tryz.f6 [.raw] 0 law39_SayScripts.k 6 [] fuel (law39_SayScripts.s6 l x1 x2 x3)) = law39_SayScripts.l6 fuel l fuel := (funext fun x1 => (funext fun x2 => (funext fun x3 => law39_SayScripts.l6_eq fuel l fuel x1 x2 x3)))
  rw [e6]
  rfl
theorem law39_SayScripts.l23_at (fuel nN kK : Nat) (hN : nN = kK + 1) (l : List (Int × Int × Int × Int × Int × (Int × Int) × List (Int × List Int) × List Int)) (x20 : Int) (x21 : (List (Int × (Int × (Int × (Int × (Int × ((Int × Int) × ((List (Int × (List Int))) × (List Int)))))))))) : law39_SayScripts.l23 fuel l nN x20 x21 = law39_SayScripts.b23 l (law39_SayScripts.l23 fuel l kK) x20 x21 := by
  subst hN
  rfl
theorem law39_SayScripts.l6_at (fuel nN kK : Nat) (hN : nN = kK + 1) (l : List (Int × Int × Int × Int × Int × (Int × Int) × List (Int × List Int) × List Int)) (x1 : ByteArray) (x2 : Int) (x3 : Int) : law39_SayScripts.l6 fuel l nN x1 x2 x3 = law39_SayScripts.b6 l (law39_SayScripts.l6 fuel l kK) (law39_SayScripts.l23 fuel l fuel) x1 x2 x3 := by
  subst hN
  rfl
theorem wrap_small (n : Int) (h0 : -9223372036854775808 ≤ n) (h1 : n < 9223372036854775808) : Go.IntKind.wrap .i64 n = n := by
  rw [Go.IntKind.wrap_i64]; omega
theorem wrap_u8 (n : Int) : Go.IntKind.wrap .u8 n = n % 256 := by simp [Go.IntKind.wrap, Go.IntKind.bits, Go.IntKind.signed]
theorem idx_at {α : Type} (l : List α) (i : Nat) : idx l (i : Int) = l[i]? := by
  unfold idx
  rw [if_pos (by omega)]
  simp
theorem strOf_app (l m : List Int) : strOf l ++ strOf m = strOf (l ++ m) := by
  apply ByteArray.ext
  simp [strOf, strOfNums]
theorem strOf_size (l : List Int) : (strOf l).size = l.length := strOfNums_size l
theorem lit_ext (a b : ByteArray) (h : a.data.toList = b.data.toList) : a = b := by
  apply ByteArray.ext
  exact Array.ext' h
theorem bytesOf_len (s : ByteArray) : (bytesOf s).length = s.size := by simp [bytesOf]
theorem strOf_bytes (w : ByteArray) : strOf (bytesOf w) = w := by
  apply lit_ext
  have e : ((fun n : Int => UInt8.ofNat n.toNat) ∘ fun b : UInt8 => (b.toNat : Int)) = id := funext fun b => by simp
  simp [strOf, strOfNums, bytesOf, e]
def i64R (v : Int) : Prop := -9223372036854775808 ≤ v ∧ v ≤ 9223372036854775807
/-- the digits of a number, as numbers -/
noncomputable def digI (n : Nat) : List Int := if n = 0 then [] else (Lib.decDigits n).map fun c => (c.toNat : Int)
theorem digI_step (n : Nat) (h : 0 < n) : digI n = digI (n / 10) ++ [((48 + n % 10 : Nat) : Int)] := by
  unfold digI
  rw [if_neg (by omega)]
  by_cases h10 : n < 10
  · rw [if_pos (by omega), Lib.decDigits, dif_pos h10]
    simp only [List.map_cons, List.map_nil, List.nil_append]
    rw [Go.Say.dig_nat n h10, Nat.mod_eq_of_lt h10]
  · rw [if_neg (by omega)]
    conv => lhs; rw [Lib.decDigits, dif_neg h10]
    rw [List.map_append, List.map_cons, List.map_nil, Go.Say.dig_nat (n % 10) (by omega)]
theorem num_step (fuel : Nat) (v : Int) (k : Nat) (n : Nat) (s : Bool) (acc : List Int) (h : 0 < n) (hn : n ≤ 9223372036854775808) (hs : s = false → n ≤ 9223372036854775807) (ha : acc.length ≤ 100) :
    law39_num.l5 fuel v (k + 1) (if s = true then -(n : Int) else (n : Int)) acc = law39_num.l5 fuel v k (if s = true then -((n / 10 : Nat) : Int) else ((n / 10 : Nat) : Int)) (((48 + n % 10 : Nat) : Int) :: acc) := by
  cases s with
  | true =>
    show law39_num.l5 fuel v (k + 1) (-(n : Int)) acc = law39_num.l5 fuel v k (-((n / 10 : Nat) : Int)) _
    rw [law39_num.l5]
    unfold law39_num.b5
    have ed : Int.tdiv (-(n : Int)) 10 = -((n / 10 : Nat) : Int) := by rw [Int.neg_tdiv]; rfl
    have em : Int.tmod (-(n : Int)) 10 = -((n % 10 : Nat) : Int) := by rw [Int.neg_tmod]; rfl
    rw [if_pos (by rw [bne_iff_ne]; omega), ed, em]
    by_cases hz : n % 10 = 0
    · rw [if_neg (by rw [decide_eq_true_eq]; omega), if_pos (by simp [lim]; omega)]
      have e1 : Go.IntKind.wrap .u8 (Go.IntKind.wrap .i64 (48 + -((n % 10 : Nat) : Int))) = ((48 + n % 10 : Nat) : Int) := by
        rw [wrap_small _ (by omega) (by omega), wrap_u8]; omega
      rw [e1, wrap_small _ (by omega) (by omega)]
      rfl
    · rw [if_pos (by rw [decide_eq_true_eq]; omega), if_pos (by simp [lim]; omega)]
      have e0 : Go.IntKind.wrap .i64 (0 - -((n % 10 : Nat) : Int)) = ((n % 10 : Nat) : Int) := by rw [wrap_small _ (by omega) (by omega)]; omega
      have e1 : Go.IntKind.wrap .u8 (Go.IntKind.wrap .i64 (48 + ((n % 10 : Nat) : Int))) = ((48 + n % 10 : Nat) : Int) := by
        rw [wrap_small _ (by omega) (by omega), wrap_u8]; omega
      rw [e0, e1, wrap_small _ (by omega) (by omega)]
      rfl
  | false =>
    have hs' := hs rfl
    show law39_num.l5 fuel v (k + 1) (n : Int) acc = law39_num.l5 fuel v k ((n / 10 : Nat) : Int) _
    rw [law39_num.l5]
    unfold law39_num.b5
    have ed : Int.tdiv (n : Int) 10 = ((n / 10 : Nat) : Int) := rfl
    have em : Int.tmod (n : Int) 10 = ((n % 10 : Nat) : Int) := rfl
    rw [if_pos (by rw [bne_iff_ne]; omega), ed, em, if_neg (by rw [decide_eq_true_eq]; omega), if_pos (by simp [lim]; omega)]
    have e1 : Go.IntKind.wrap .u8 (Go.IntKind.wrap .i64 (48 + ((n % 10 : Nat) : Int))) = ((48 + n % 10 : Nat) : Int) := by
      rw [wrap_small _ (by omega) (by omega), wrap_u8]; omega
    rw [e1, wrap_small _ (by omega) (by omega)]
    rfl
theorem num_loop (fuel : Nat) (v : Int) (s : Bool) : ∀ (j k n : Nat) (acc : List Int), n < 10 ^ j → j < k → n ≤ 9223372036854775808 → (s = false → n ≤ 9223372036854775807) → acc.length + j ≤ 100 →
    law39_num.l5 fuel v k (if s = true then -(n : Int) else (n : Int)) acc = law39_num.l5 fuel v 1 0 (digI n ++ acc) := by
  intro j
  induction j with
  | zero =>
    intro k n acc hn hk _ _ _
    have : n = 0 := by simpa using hn
    subst this
    obtain ⟨k, rfl⟩ : ∃ k', k = k' + 1 := ⟨k - 1, by omega⟩
    have e : (if s = true then -((0 : Nat) : Int) else ((0 : Nat) : Int)) = 0 := by cases s <;> rfl
    rw [e]
    rw [law39_num.l5, law39_num.l5]
    unfold law39_num.b5
    simp only [bne_self_eq_false, Bool.false_eq_true, if_false]
    rfl
  | succ j ih =>
    intro k n acc hn hk hm hs ha
    obtain ⟨k, rfl⟩ : ∃ k', k = k' + 1 := ⟨k - 1, by omega⟩
    by_cases hz : n = 0
    · subst hz
      exact ih (k + 1) 0 acc (Nat.pos_of_ne_zero (by simp)) (by omega) (by omega) (fun _ => by omega) (by omega)
    · rw [num_step fuel v k n s acc (by omega) hm hs (by omega), ih k (n / 10) _ (by rw [Nat.pow_succ] at hn; omega) (by omega) (by omega) (fun h => by have := hs h; omega) (by simp; omega)]
      rw [digI_step n (by omega), List.append_assoc]
      rfl
theorem strOf_dig (n : Nat) (h : 0 < n) : strOf (digI n) = ⟨(Lib.decDigits n).toArray⟩ := by
  apply lit_ext
  have e : ((fun n : Int => UInt8.ofNat n.toNat) ∘ fun b : UInt8 => (b.toNat : Int)) = id := funext fun b => by simp
  unfold digI
  rw [if_neg (by omega)]
  simp [strOf, strOfNums, e]
theorem dig_len (n : Nat) (h : n ≤ 9223372036854775808) : (Lib.decDigits n).length ≤ 19 := by
  rw [Lib.decDigits_length]
  rcases Nat.eq_zero_or_pos n with rfl | hp
  · rw [Lib.nDigits_small (by omega)]; omega
  · apply Decidable.byContradiction
    intro hc
    have key : ∀ (k u : Nat), u < 10 ^ k → 0 < k → Lib.nDigits u ≤ k := by
      intro k
      induction k with
      | zero => intro u _ h; omega
      | succ k ih =>
        intro u hu _
        by_cases h10 : u < 10
        · rw [Lib.nDigits_small h10]; omega
        · rw [Lib.nDigits_big h10]
          have hk : 0 < k := by
            rcases Nat.eq_zero_or_pos k with rfl | hk
            · simp at hu; omega
            · exact hk
          have := ih (u / 10) (by rw [Nat.pow_succ] at hu; omega) hk
          omega
    exact hc (key 19 n (by omega) (by omega))
theorem Num.pure (v : Int) (h : i64R v) : law39_num.f BIG v = some (itoaT v) := by
  obtain ⟨h0, h1⟩ := h
  unfold law39_num.f law39_num.b itoaT Lib.itoa
  by_cases hz : v = 0
  · subst hz
    rw [if_pos (by simp), if_neg (by omega), show Int.toNat 0 = 0 from rfl, Lib.decDigits_one (by omega)]
    rfl
  rw [if_neg (by simpa using hz)]
  have hend : ∀ acc : List Int, acc.length ≤ 20 → law39_num.l5 BIG v 1 0 acc = some (if v < 0 then (⟨((45 :: ([] : List UInt8))).toArray⟩ : ByteArray) ++ strOf acc else strOf acc) := by
    intro acc ha
    rw [law39_num.l5]
    unfold law39_num.b5
    rw [if_neg (by simp)]
    by_cases hn : v < 0
    · rw [if_pos (decide_eq_true hn), if_pos hn, if_pos (by rw [strOf_size]; have : ByteArray.size (⟨((45 :: ([] : List UInt8))).toArray⟩ : ByteArray) = 1 := rfl; omega)]
    · rw [if_neg (by rw [decide_eq_true_eq]; exact hn), if_neg hn]
  have hlen : ∀ n : Nat, n ≤ 9223372036854775808 → (digI n ++ []).length ≤ 20 := by
    intro n hn
    rw [List.append_nil]
    unfold digI
    split
    · simp
    · rw [List.length_map]; have := dig_len n hn; omega
  by_cases hn : v < 0
  · have e : v = (if true = true then -((v.natAbs : Nat) : Int) else ((v.natAbs : Nat) : Int)) := by rw [if_pos rfl]; omega
    have hl := num_loop BIG v true 19 BIG v.natAbs [] (by omega) (by rw [BIG_eq]; omega) (by omega) (fun h => by cases h) (by simp)
    rw [← e] at hl
    rw [hl, hend _ (hlen _ (by omega)), if_pos hn, if_pos hn, List.append_nil, strOf_dig _ (by omega)]
    congr 1
  · have e : v = (if false = true then -((v.toNat : Nat) : Int) else ((v.toNat : Nat) : Int)) := by rw [if_neg (by simp)]; omega
    have hl := num_loop BIG v false 19 BIG v.toNat [] (by omega) (by rw [BIG_eq]; omega) (by omega) (fun _ => by omega) (by simp)
    rw [← e] at hl
    rw [hl, hend _ (hlen _ (by omega)), if_neg hn, if_neg hn, List.append_nil, strOf_dig _ (by omega)]
def bOf (w : Word) : ByteArray := ⟨w.toArray⟩
def tOf (b : ByteArray) : Word := b.data.toList
theorem tOf_bOf (w : Word) : tOf (bOf w) = w := rfl
theorem bOf_size (w : Word) : (bOf w).size = w.length := rfl
theorem itoaT_eq (v : Int) : itoaT v = bOf (Lib.itoa v) := rfl
theorem itoaT_size (v : Int) (h : i64R v) : (itoaT v).size ≤ 20 := by
  obtain ⟨h0, h1⟩ := h
  rw [itoaT_eq, bOf_size]
  unfold Lib.itoa
  split
  · have := dig_len v.natAbs (by omega)
    simp
    omega
  · have := dig_len v.toNat (by omega)
    omega
theorem sayDraws_loop (fuel : Nat) (aKind aI aK aAt aBy aSpanLo aSpanHi : Int) (aBag : List (Int × List Int)) (l : List Int) (hl : l.length ≤ 1000000) (hr : ∀ d ∈ l, i64R d) : ∀ (n i k : Nat) (acc : List ByteArray), i + n = l.length → n < k → acc.length ≤ i →
    say_sayDraws.l3 fuel aKind aI aK aAt aBy aSpanLo aSpanHi aBag l k (l.length : Int) (i : Int) acc = some (acc ++ (l.drop i).map itoaT) := by
  intro n
  induction n with
  | zero =>
    intro i k acc hi hk ha
    obtain ⟨k, rfl⟩ : ∃ k', k = k' + 1 := ⟨k - 1, by omega⟩
    rw [say_sayDraws.l3]
    unfold say_sayDraws.b3
    rw [if_neg (by rw [decide_eq_true_eq]; omega), List.drop_of_length_le (by omega)]
    simp
  | succ n ih =>
    intro i k acc hi hk ha
    obtain ⟨k, rfl⟩ : ∃ k', k = k' + 1 := ⟨k - 1, by omega⟩
    rw [say_sayDraws.l3]
    unfold say_sayDraws.b3
    have hil : i < l.length := by omega
    rw [if_pos (by rw [decide_eq_true_eq]; omega), idx_at, List.getElem?_eq_getElem hil]
    simp only
    rw [if_pos (show -9223372036854775808 ≤ l[i] ∧ l[i] ≤ 9223372036854775807 from hr _ (List.getElem_mem hil)), if_pos (by simp [lim]; omega), wrap_small _ (by omega) (by omega)]
    rw [show ((i : Int) + 1) = ((i + 1 : Nat) : Int) by omega, ih (i + 1) k _ (by omega) (by omega) (by simp; omega), List.drop_eq_getElem_cons hil, List.map_cons, List.append_assoc]
    rfl
theorem SayDraws.pure (aKind aI aK aAt aBy aSpanLo aSpanHi : Int) (aBag : List (Int × List Int)) (l : List Int) (hl : l.length ≤ 1000000) (hr : ∀ d ∈ l, i64R d) : say_sayDraws.f BIG aKind aI aK aAt aBy aSpanLo aSpanHi aBag l = some (l.map itoaT) := by
  have := sayDraws_loop BIG aKind aI aK aAt aBy aSpanLo aSpanHi aBag l hl hr l.length 0 BIG [] (by omega) (by rw [BIG_eq]; omega) (by simp)
  rw [List.nil_append, List.drop_zero] at this
  exact this
theorem hex_at (d : Nat) (h : d < 16) : idx Go.Say.digits (d : Int) = some (Go.Say.hexD d) := by
  rw [idx_at]
  have : d < Go.Say.digits.length := h
  unfold Go.Say.hexD
  rw [List.getD_eq_getElem?_getD, List.getElem?_eq_getElem this]
  rfl
theorem shr4 (c : Nat) : Int.fdiv (c : Int) (2 ^ (Min.min (Int.toNat 4) (Go.IntKind.bits .u8))) = ((c / 16 : Nat) : Int) := by
  have e : (2 : Int) ^ (Min.min (Int.toNat 4) (Go.IntKind.bits .u8)) = 16 := by decide
  rw [e, Int.fdiv_eq_ediv_of_nonneg _ (by omega)]
  rfl
theorem and15 (c : Nat) (h : c < 256) : bits Go.BinOp.and .u8 (c : Int) (15 : Int) = ((c % 16 : Nat) : Int) := by
  have key : ∀ c : Fin 256, bits Go.BinOp.and .u8 ((c : Nat) : Int) (15 : Int) = (((c : Nat) % 16 : Nat) : Int) := by decide +kernel
  exact key ⟨c, h⟩
theorem or16 (h l : Nat) (h1 : h < 16) (h2 : l < 16) : Go.IntKind.wrap .u8 (bits Go.BinOp.or .i64 (Go.IntKind.wrap .i64 ((h : Int) * (2 ^ (Min.min (Int.toNat 4) (Go.IntKind.bits .i64))))) (l : Int)) = (h : Int) * 16 + l := by
  have key : ∀ h l : Fin 16, Go.IntKind.wrap .u8 (bits Go.BinOp.or .i64 (Go.IntKind.wrap .i64 (((h : Nat) : Int) * (2 ^ (Min.min (Int.toNat 4) (Go.IntKind.bits .i64))))) ((l : Nat) : Int)) = ((h : Nat) : Int) * 16 + ((l : Nat) : Int) := by decide +kernel
  exact key ⟨h, h1⟩ ⟨l, h2⟩
noncomputable def hexI (l : List Int) : List Int := (Go.Say.hexs l).map fun c => (c.toNat : Int)
theorem hexs_cons (c : Int) (l : List Int) : Go.Say.hexs (c :: l) = Go.Say.hexD (c.toNat / 16) :: Go.Say.hexD (c.toNat % 16) :: Go.Say.hexs l := rfl
noncomputable def fieldT (f : Int × List Int) : ByteArray := bOf (Go.Say.fieldW f)
theorem bagIn_loop (fuel : Nat) (aKind aI aK aAt aBy aSpanLo aSpanHi : Int) (aBag : List (Int × List Int)) (aDraws : List Int) (A3 : Int → Int → (List ByteArray) → Option (List ByteArray)) (x4 x5 : Int) (d : List Int) (x9 : List ByteArray) (hx9 : x9.length ≤ 1000000) (hd : d.length ≤ 1000000) (hb : ∀ c ∈ d, 0 ≤ c ∧ c ≤ 255) : ∀ (n i k : Nat) (acc : List Int), i + n = d.length → n < k → acc.length ≤ 100 + 2 * i →
    say_sayBag.l7 fuel aKind aI aK aAt aBy aSpanLo aSpanHi aBag aDraws A3 k x4 x5 d (d.length : Int) (i : Int) x9 acc = A3 x4 (Go.IntKind.wrap .i64 (x5 + 1)) (x9 ++ [strOf (acc ++ hexI (d.drop i))]) := by
  intro n
  induction n with
  | zero =>
    intro i k acc hi hk ha
    obtain ⟨k, rfl⟩ : ∃ k', k = k' + 1 := ⟨k - 1, by omega⟩
    rw [say_sayBag.l7]
    unfold say_sayBag.b7
    rw [if_neg (by rw [decide_eq_true_eq]; omega), List.drop_of_length_le (by omega), if_pos (by simp [lim]; omega)]
    simp [hexI, Go.Say.hexs]
  | succ n ih =>
    intro i k acc hi hk ha
    obtain ⟨k, rfl⟩ : ∃ k', k = k' + 1 := ⟨k - 1, by omega⟩
    rw [say_sayBag.l7]
    unfold say_sayBag.b7
    have hil : i < d.length := by omega
    have hc := hb _ (List.getElem_mem hil)
    obtain ⟨c, hce⟩ : ∃ c : Nat, d[i] = (c : Int) := ⟨d[i].toNat, by omega⟩
    rw [if_pos (by rw [decide_eq_true_eq]; omega), idx_at, List.getElem?_eq_getElem hil]
    simp only
    rw [hce, shr4, and15 c (by omega)]
    have e1 := hex_at (c / 16) (by omega)
    have e2 := hex_at (c % 16) (by omega)
    rw [show ([48, 49, 50, 51, 52, 53, 54, 55, 56, 57, 97, 98, 99, 100, 101, 102] : List UInt8) = Go.Say.digits from rfl, e1]
    simp only
    rw [e2]
    simp only
    rw [if_pos (by simp [lim]; omega), wrap_small _ (by omega) (by omega)]
    rw [show ((i : Int) + 1) = ((i + 1 : Nat) : Int) by omega, ih (i + 1) k _ (by omega) (by omega) (by simp; omega), List.drop_eq_getElem_cons hil, hce]
    simp [hexI, hexs_cons]
theorem fieldT_eq (f : Int × List Int) : strOf (bytesOf (itoaT f.1 ++ (⟨((58 :: ([] : List UInt8))).toArray⟩ : ByteArray)) ++ hexI f.2) = fieldT f := by
  rw [← strOf_app, strOf_bytes]
  apply lit_ext
  have e : ((fun n : Int => UInt8.ofNat n.toNat) ∘ fun b : UInt8 => (b.toNat : Int)) = id := funext fun b => by simp
  simp [fieldT, bOf, Go.Say.fieldW, itoaT, hexI, strOf, strOfNums, e]
structure SmallBag (b : List (Int × List Int)) : Prop where
  len : b.length ≤ 1000000
  data : ∀ f ∈ b, f.2.length ≤ 1000000
  ok : ∀ f ∈ b, Go.Say.fieldOk f
theorem sayBag_loop (fuel : Nat) (hf : 2000000 ≤ fuel) (aKind aI aK aAt aBy aSpanLo aSpanHi : Int) (aBag : List (Int × List Int)) (aDraws : List Int) (hb : SmallBag aBag) : ∀ (n i k : Nat) (acc : List ByteArray), i + n = aBag.length → n < k → acc.length ≤ i →
    say_sayBag.l3 fuel aKind aI aK aAt aBy aSpanLo aSpanHi aBag aDraws k (aBag.length : Int) (i : Int) acc = some (acc ++ (aBag.drop i).map fieldT) := by
  have hlen := hb.len
  intro n
  induction n with
  | zero =>
    intro i k acc hi hk ha
    rw [say_sayBag.l3_at fuel k (k - 1) (by omega)]
    unfold say_sayBag.b3
    rw [if_neg (by rw [decide_eq_true_eq]; omega), List.drop_of_length_le (by omega)]
    simp
  | succ n ih =>
    intro i k acc hi hk ha
    rw [say_sayBag.l3_at fuel k (k - 1) (by omega)]
    unfold say_sayBag.b3
    have hil : i < aBag.length := by omega
    have hm := List.getElem_mem hil
    have hok := hb.ok _ hm
    have hd := hb.data _ hm
    have hsz := itoaT_size aBag[i].1 hok.1
    have h1 : ByteArray.size (⟨((58 :: ([] : List UInt8))).toArray⟩ : ByteArray) = 1 := rfl
    rw [if_pos (by rw [decide_eq_true_eq]; omega), idx_at, List.getElem?_eq_getElem hil]
    simp only
    rw [if_pos (show -9223372036854775808 ≤ aBag[i].1 ∧ aBag[i].1 ≤ 9223372036854775807 from hok.1), if_pos (by omega), if_pos (by rw [ByteArray.size_append]; unfold lim; omega)]
    rw [show (0 : Int) = ((0 : Nat) : Int) from rfl, bagIn_loop fuel aKind aI aK aAt aBy aSpanLo aSpanHi aBag aDraws _ _ _ aBag[i].2 acc (by omega) hd hok.2 aBag[i].2.length 0 fuel _ (by omega) (by omega) (by rw [bytesOf_len, ByteArray.size_append]; omega)]
    rw [wrap_small _ (by omega) (by omega), show ((i : Int) + 1) = ((i + 1 : Nat) : Int) by omega, ih (i + 1) (k - 1) _ (by omega) (by omega) (by simp; omega), List.drop_eq_getElem_cons hil, List.drop_zero, fieldT_eq, List.map_cons, List.append_assoc]
    rfl
theorem SayBag.pure (aKind aI aK aAt aBy aSpanLo aSpanHi : Int) (aBag : List (Int × List Int)) (aDraws : List Int) (hb : SmallBag aBag) : say_sayBag.f BIG aKind aI aK aAt aBy aSpanLo aSpanHi aBag aDraws = some (aBag.map fieldT) := by
  have := sayBag_loop BIG (by rw [BIG_eq]; omega) aKind aI aK aAt aBy aSpanLo aSpanHi aBag aDraws hb aBag.length 0 BIG [] (by omega) (by rw [BIG_eq]; have := hb.len; omega) (by simp)
  rw [List.nil_append, List.drop_zero] at this
  exact this
theorem parseB_none {s : ByteArray} (h : Go.Say.parseN (tOf s) = none) : parseB s = (0, false) := by
  unfold parseB
  unfold Go.Say.parseN tOf at h
  cases hA : Lib.atoiAll s.data.toList with
  | ok v =>
    rw [hA] at h
    simp only at h ⊢
    split at h
    · cases h
    · rename_i hne
      rw [if_neg hne]
  | _ => rfl
theorem parseB_some {s : ByteArray} {v : Int} (h : Go.Say.parseN (tOf s) = some v) : parseB s = (v, true) := by
  unfold parseB
  unfold Go.Say.parseN tOf at h
  cases hA : Lib.atoiAll s.data.toList with
  | ok u =>
    rw [hA] at h
    simp only at h ⊢
    split at h
    · rename_i he
      cases h
      rw [if_pos he]
    · cases h
  | _ => rw [hA] at h; cases h
theorem readDraws_loop (fuel : Nat) (aKind aI aK aAt aBy aLo aHi : Int) (aBag : List (Int × List Int)) (aDraws : List Int) (ws : List ByteArray) (hl : ws.length ≤ 1000000) (hs : ∀ w ∈ ws, w.size ≤ 281474976710656) : ∀ (n i k : Nat) (acc : List Int), i + n = ws.length → n < k → acc.length ≤ 1000000 + i →
    (∀ l, Go.Say.readAll Go.Say.parseN ((ws.drop i).map tOf) = some l → say_readDraws.l2 fuel aKind aI aK aAt aBy aLo aHi aBag aDraws ws k (ws.length : Int) (i : Int) acc = some (true, aKind, aI, aK, aAt, aBy, aLo, aHi, aBag, acc ++ l, ([] : List ByteArray))) ∧
    (Go.Say.readAll Go.Say.parseN ((ws.drop i).map tOf) = none → ∃ b, say_readDraws.l2 fuel aKind aI aK aAt aBy aLo aHi aBag aDraws ws k (ws.length : Int) (i : Int) acc = some (false, aKind, aI, aK, aAt, aBy, aLo, aHi, aBag, b, ([] : List ByteArray))) := by
  intro n
  induction n with
  | zero =>
    intro i k acc hi hk ha
    rw [say_readDraws.l2_at fuel k (k - 1) (by omega)]
    unfold say_readDraws.b2
    rw [if_neg (by rw [decide_eq_true_eq]; omega), List.drop_of_length_le (by omega)]
    refine ⟨fun l h => ?_, fun h => by cases h⟩
    cases h
    simp
  | succ n ih =>
    intro i k acc hi hk ha
    rw [say_readDraws.l2_at fuel k (k - 1) (by omega)]
    unfold say_readDraws.b2
    have hil : i < ws.length := by omega
    rw [if_pos (by rw [decide_eq_true_eq]; omega), idx_at, List.getElem?_eq_getElem hil]
    simp only
    rw [if_pos (hs _ (List.getElem_mem hil)), List.drop_eq_getElem_cons hil, List.map_cons, Go.Say.readAll]
    cases hp : Go.Say.parseN (tOf ws[i]) with
    | none =>
      rw [parseB_none hp]
      exact ⟨fun l h => (by cases h), fun _ => ⟨acc, rfl⟩⟩
    | some v =>
      rw [parseB_some hp]
      simp only [Bool.not_true, Bool.false_eq_true, if_false]
      rw [if_pos (by simp [lim]; omega), wrap_small _ (by omega) (by omega), show ((i : Int) + 1) = ((i + 1 : Nat) : Int) by omega]
      obtain ⟨i1, i2⟩ := ih (i + 1) (k - 1) (acc ++ [v]) (by omega) (by omega) (by simp; omega)
      cases hr : Go.Say.readAll Go.Say.parseN ((ws.drop (i + 1)).map tOf) with
      | none =>
        obtain ⟨b, hb⟩ := i2 hr
        exact ⟨fun l h => (by cases h), fun _ => ⟨b, hb⟩⟩
      | some l' =>
        refine ⟨fun l h => ?_, fun h => (by cases h)⟩
        cases h
        rw [i1 l' hr]
        simp
theorem ReadDraws.pure (aKind aI aK aAt aBy aLo aHi : Int) (aBag : List (Int × List Int)) (aDraws : List Int) (ws : List ByteArray) (hd : aDraws.length ≤ 1000000) (hl : ws.length ≤ 1000000) (hs : ∀ w ∈ ws, w.size ≤ 281474976710656) :
    (∀ l, Go.Say.readAll Go.Say.parseN (ws.map tOf) = some l → say_readDraws.f BIG aKind aI aK aAt aBy aLo aHi aBag aDraws ws = some (true, aKind, aI, aK, aAt, aBy, aLo, aHi, aBag, aDraws ++ l, ([] : List ByteArray))) ∧
    (Go.Say.readAll Go.Say.parseN (ws.map tOf) = none → ∃ b, say_readDraws.f BIG aKind aI aK aAt aBy aLo aHi aBag aDraws ws = some (false, aKind, aI, aK, aAt, aBy, aLo, aHi, aBag, b, ([] : List ByteArray))) :=
  readDraws_loop BIG aKind aI aK aAt aBy aLo aHi aBag aDraws ws hl hs ws.length 0 BIG aDraws (by omega) (by rw [BIG_eq]; omega) (by omega)
theorem field_loop (fuel : Nat) (w : ByteArray) (x : Word) (hx : (cutL w (⟨((58 :: ([] : List UInt8))).toArray⟩ : ByteArray)).2.1 = bOf x) (hl : x.length ≤ 10000000000) : ∀ (n i k : Nat) (acc : List Int), i + 2 * n = x.length → n < k → acc.length ≤ i →
    say_readField.l7 fuel w k (i : Int) acc = some (match Go.Say.unhex (x.drop i) with
      | none => (0, ([] : List Int), false)
      | some d => ((parseB (cutL w (⟨((58 :: ([] : List UInt8))).toArray⟩ : ByteArray)).1).1, acc ++ d, true)) := by
  intro n
  induction n with
  | zero =>
    intro i k acc hi hk ha
    obtain ⟨k, rfl⟩ : ∃ k', k = k' + 1 := ⟨k - 1, by omega⟩
    rw [say_readField.l7]
    unfold say_readField.b7
    rw [hx, bOf_size, if_neg (by rw [decide_eq_true_eq]; omega), List.drop_of_length_le (by omega)]
    simp [Go.Say.unhex]
  | succ n ih =>
    intro i k acc hi hk ha
    obtain ⟨k, rfl⟩ : ∃ k', k = k' + 1 := ⟨k - 1, by omega⟩
    rw [say_readField.l7]
    unfold say_readField.b7
    have h1 : i < x.length := by omega
    have h2 : i + 1 < x.length := by omega
    rw [hx, bOf_size, if_pos (by rw [decide_eq_true_eq]; omega)]
    rw [show Array.toList (ByteArray.data (bOf x)) = x from rfl, idx_at, List.getElem?_eq_getElem h1, wrap_small _ (by omega) (by omega), show ((i : Int) + 1) = ((i + 1 : Nat) : Int) by omega, idx_at, List.getElem?_eq_getElem h2]
    simp only
    have ed : ([48, 49, 50, 51, 52, 53, 54, 55, 56, 57, 97, 98, 99, 100, 101, 102] : List UInt8) = Go.Say.digits := rfl
    have eb : ∀ b : UInt8, Nat.toUInt8 (Int.toNat ((((UInt8.toNat b)) : Nat) : Int)) = b := fun b => by simp
    simp only [ed, eb]
    rw [List.drop_eq_getElem_cons h1, List.drop_eq_getElem_cons h2, Go.Say.unhex]
    by_cases ha1 : Lib.indexByte Go.Say.digits x[i] < 0
    · rw [if_pos (by rw [decide_eq_true_eq]; exact ha1), if_pos (.inl ha1)]
    · rw [if_neg (by rw [decide_eq_true_eq]; exact ha1)]
      by_cases hb1 : Lib.indexByte Go.Say.digits x[i + 1] < 0
      · rw [if_pos (by rw [decide_eq_true_eq]; exact hb1), if_pos (.inr hb1)]
      · rw [if_neg (by rw [decide_eq_true_eq]; exact hb1)]
        obtain ⟨p, hp⟩ : ∃ p : Nat, Lib.indexByte Go.Say.digits x[i] = p := ⟨(Lib.indexByte Go.Say.digits x[i]).toNat, by omega⟩
        obtain ⟨q, hq⟩ : ∃ q : Nat, Lib.indexByte Go.Say.digits x[i + 1] = q := ⟨(Lib.indexByte Go.Say.digits x[i + 1]).toNat, by omega⟩
        have hp1 := (Go.Say.hexD_of hp).1
        have hq1 := (Go.Say.hexD_of hq).1
        rw [hp, hq, or16 p q hp1 hq1, if_pos (by simp [lim]; omega), if_neg (by omega), wrap_small _ (by omega) (by omega), show ((i : Int) + 2) = ((i + 2 : Nat) : Int) by omega, ih (i + 2) k _ (by omega) (by omega) (by simp; omega)]
        cases Go.Say.unhex (x.drop (i + 1 + 1)) with
        | none => rfl
        | some d => simp
theorem cutL_eq (w : ByteArray) : cutL w (⟨((58 :: ([] : List UInt8))).toArray⟩ : ByteArray) = (bOf (Lib.cut (tOf w) [58]).1, bOf (Lib.cut (tOf w) [58]).2.1, (Lib.cut (tOf w) [58]).2.2) := rfl
theorem cut_size (w : Word) (c : UInt8) : (Lib.cut w [c]).1.length ≤ w.length ∧ (Lib.cut w [c]).2.1.length ≤ w.length := by
  unfold Lib.cut
  split <;> simp <;> omega
theorem ReadField.pure (w : ByteArray) (hw : w.size ≤ 4000000000) : say_readField.f BIG w = some (match Go.Say.readW (tOf w) with
    | none => (0, ([] : List Int), false)
    | some f => (f.1, f.2, true)) := by
  have hsz : (tOf w).length = w.size := by simp [tOf]
  obtain ⟨hc1, hc2⟩ := cut_size (tOf w) 58
  unfold say_readField.f say_readField.b Go.Say.readW
  rw [cutL_eq]
  rw [if_pos (show ByteArray.size w < 4294967281 by omega), if_pos (show (bOf (Lib.cut (tOf w) [58]).1).size ≤ 281474976710656 by rw [bOf_size]; omega)]
  simp only [bOf_size]
  generalize hcut : Lib.cut (tOf w) [58] = C at *
  obtain ⟨A, X, ok⟩ := C
  simp only at *
  cases hp : Go.Say.parseN A with
  | none =>
    rw [parseB_none (s := bOf A) hp]
    cases ok <;> rfl
  | some t =>
    rw [parseB_some (s := bOf A) hp]
    cases ok with
    | false => simp
    | true =>
      simp only [Bool.not_true, Bool.false_eq_true, if_false, false_or]
      have em : Int.tmod (X.length : Int) 2 = ((X.length % 2 : Nat) : Int) := rfl
      have key : (if (Int.tmod (X.length : Int) 2 != 0) = true then some ((0 : Int), ([] : List Int), false) else say_readField.l7 BIG w BIG 0 []) =
          some (match (if true = false ∨ X.length % 2 ≠ 0 then none else (Go.Say.unhex X).map fun d => (t, d)) with
            | none => (0, ([] : List Int), false)
            | some f => (f.1, f.2, true)) := by
        by_cases ho : X.length % 2 = 0
        · rw [if_neg (show ¬ ((Int.tmod (X.length : Int) 2 != 0) = true) by rw [em, ho]; simp), if_neg (by rintro (h | h); cases h; exact h ho)]
          have g1 : 0 + 2 * (X.length / 2) = X.length := by omega
          have g3 : X.length / 2 < 1099511627776 := by omega
          have g2 : X.length / 2 < BIG := by rw [BIG_eq]; exact g3
          have := field_loop BIG w X (by rw [cutL_eq, hcut]) (by omega) (X.length / 2) 0 BIG [] g1 g2 (by simp)
          rw [show ((0 : Nat) : Int) = 0 from rfl] at this
          rw [this, cutL_eq, hcut, List.drop_zero]
          simp only
          rw [parseB_some (s := bOf A) hp]
          cases Go.Say.unhex X with
          | none => rfl
          | some d => simp
        · rw [if_pos (show (Int.tmod (X.length : Int) 2 != 0) = true by rw [em, show X.length % 2 = 1 by omega]; rfl), if_pos (.inr ho)]
      exact key
theorem readBag_loop (fuel : Nat) (aKind aI aK aAt aBy aLo aHi : Int) (aBag : List (Int × List Int)) (aDraws : List Int) (ws : List ByteArray) (hl : ws.length ≤ 1000000) (hs : ∀ w ∈ ws, w.size ≤ 4000000000) : ∀ (n i k : Nat) (acc : List (Int × List Int)), i + n = ws.length → n < k → acc.length ≤ 1000000 + i →
    (∀ l, Go.Say.readAll Go.Say.readW ((ws.drop i).map tOf) = some l → say_readBag.l2 fuel aKind aI aK aAt aBy aLo aHi aBag aDraws ws k (ws.length : Int) (i : Int) acc = some (true, aKind, aI, aK, aAt, aBy, aLo, aHi, acc ++ l, aDraws, ([] : List ByteArray))) ∧
    (Go.Say.readAll Go.Say.readW ((ws.drop i).map tOf) = none → ∃ b, say_readBag.l2 fuel aKind aI aK aAt aBy aLo aHi aBag aDraws ws k (ws.length : Int) (i : Int) acc = some (false, aKind, aI, aK, aAt, aBy, aLo, aHi, b, aDraws, ([] : List ByteArray))) := by
  intro n
  induction n with
  | zero =>
    intro i k acc hi hk ha
    rw [say_readBag.l2_at fuel k (k - 1) (by omega)]
    unfold say_readBag.b2
    rw [if_neg (by rw [decide_eq_true_eq]; omega), List.drop_of_length_le (by omega)]
    refine ⟨fun l h => ?_, fun h => by cases h⟩
    cases h
    simp
  | succ n ih =>
    intro i k acc hi hk ha
    rw [say_readBag.l2_at fuel k (k - 1) (by omega)]
    unfold say_readBag.b2
    have hil : i < ws.length := by omega
    rw [if_pos (by rw [decide_eq_true_eq]; omega), idx_at, List.getElem?_eq_getElem hil]
    simp only [veil_eq]
    rw [ReadField.pure _ (hs _ (List.getElem_mem hil)), List.drop_eq_getElem_cons hil, List.map_cons, Go.Say.readAll]
    cases hp : Go.Say.readW (tOf ws[i]) with
    | none => exact ⟨fun l h => (by cases h), fun _ => ⟨acc, rfl⟩⟩
    | some v =>
      simp only [Bool.not_true, Bool.false_eq_true, if_false]
      rw [if_pos (by simp [lim]; omega), wrap_small _ (by omega) (by omega), show ((i : Int) + 1) = ((i + 1 : Nat) : Int) by omega]
      obtain ⟨i1, i2⟩ := ih (i + 1) (k - 1) (acc ++ [(v.1, v.2)]) (by omega) (by omega) (by simp; omega)
      cases hr : Go.Say.readAll Go.Say.readW ((ws.drop (i + 1)).map tOf) with
      | none =>
        obtain ⟨b, hb⟩ := i2 hr
        exact ⟨fun l h => (by cases h), fun _ => ⟨b, hb⟩⟩
      | some l' =>
        refine ⟨fun l h => ?_, fun h => (by cases h)⟩
        cases h
        rw [i1 l' hr, List.append_assoc]
        rfl
theorem ReadBag.pure (aKind aI aK aAt aBy aLo aHi : Int) (aBag : List (Int × List Int)) (aDraws : List Int) (ws : List ByteArray) (hd : aBag.length ≤ 1000000) (hl : ws.length ≤ 1000000) (hs : ∀ w ∈ ws, w.size ≤ 4000000000) :
    (∀ l, Go.Say.readAll Go.Say.readW (ws.map tOf) = some l → say_readBag.f BIG aKind aI aK aAt aBy aLo aHi aBag aDraws ws = some (true, aKind, aI, aK, aAt, aBy, aLo, aHi, aBag ++ l, aDraws, ([] : List ByteArray))) ∧
    (Go.Say.readAll Go.Say.readW (ws.map tOf) = none → ∃ b, say_readBag.f BIG aKind aI aK aAt aBy aLo aHi aBag aDraws ws = some (false, aKind, aI, aK, aAt, aBy, aLo, aHi, b, aDraws, ([] : List ByteArray))) :=
  readBag_loop BIG aKind aI aK aAt aBy aLo aHi aBag aDraws ws hl hs ws.length 0 BIG aBag (by omega) (by rw [BIG_eq]; omega) (by omega)
theorem Valid.pure (lo hi : Int) : span_Valid.f BIG lo hi = some (Go.Say.spanOk lo hi) := by
  unfold span_Valid.f span_Valid.b Go.Say.spanOk
  by_cases h1 : lo ≥ 1
  · rw [if_pos (by simpa using h1)]
    by_cases h2 : lo ≤ hi
    · rw [if_pos (by simpa using h2)]
      congr 1
      apply decide_eq_decide.2
      omega
    · rw [if_neg (by simpa using h2), decide_eq_false (by omega)]
  · rw [if_neg (by simpa using h1), decide_eq_false (by omega)]
theorem SpanText.pure (lo hi : Int) (h : Go.Say.spanOk lo hi = true) : span_Text.f BIG lo hi = some (bOf (Go.Say.spanT lo hi)) := by
  have h' := of_decide_eq_true h
  unfold span_Text.f span_Text.b
  simp only [veil_eq, Valid.pure, h, Bool.not_true, Bool.false_eq_true, if_false]
  rw [wrap_small _ (by omega) (by omega), wrap_small _ (by omega) (by omega), wrap_u8, wrap_u8]
  congr 1
  apply lit_ext
  have e1 : (48 + lo) % 256 = ((48 + lo.toNat : Nat) : Int) := by omega
  have e2 : (48 + hi) % 256 = ((48 + hi.toNat : Nat) : Int) := by omega
  rw [e1, e2]
  have q : ∀ n : Nat, UInt8.ofNat ((n : Int).toNat) = UInt8.ofNat n := fun n => by simp
  simp only [strOf, strOfNums, bOf, Go.Say.spanT, List.map_cons, List.map_nil, q]
  rfl
def allSpans : List (Int × Int) := [(1, 1), (1, 2), (1, 3), (2, 2), (2, 3), (3, 3)]
theorem All.pure : span_All.f BIG () = some allSpans := by
  rw [BIG_eq]
  kernel_rfl
theorem Index.pure (lo hi : Int) : slices_Index_api_Span_api_Span.f BIG allSpans lo hi = some (if lo = 1 ∧ hi = 1 then 0 else if lo = 1 ∧ hi = 2 then 1 else if lo = 1 ∧ hi = 3 then 2 else if lo = 2 ∧ hi = 2 then 3 else if lo = 2 ∧ hi = 3 then 4 else if lo = 3 ∧ hi = 3 then 5 else -1) := by
  obtain ⟨m, hm⟩ : ∃ m, BIG = m + 10 := ⟨BIG - 10, by rw [BIG_eq]⟩
  unfold slices_Index_api_Span_api_Span.f slices_Index_api_Span_api_Span.b
  rw [hm]
  have w1 : ∀ x : Int, 0 ≤ x → x < 10 → Go.IntKind.wrap .i64 (x + 1) = x + 1 := fun x h1 h2 => wrap_small _ (by omega) (by omega)
  have step : ∀ (k i : Nat) (q : Int × Int), allSpans[i]? = some q → i < 6 → slices_Index_api_Span_api_Span.l2 (m + 10) allSpans lo hi (k + 1) (allSpans.length : Int) (i : Int) = (if lo = q.1 ∧ hi = q.2 then some (i : Int) else slices_Index_api_Span_api_Span.l2 (m + 10) allSpans lo hi k (allSpans.length : Int) ((i + 1 : Nat) : Int)) := by
    intro k i q hq hi6
    rw [slices_Index_api_Span_api_Span.l2]
    unfold slices_Index_api_Span_api_Span.b2
    rw [if_pos (by rw [decide_eq_true_eq]; exact Int.ofNat_lt.2 hi6), idx_at, hq, w1 _ (by omega) (by omega)]
    simp only
    by_cases h1 : lo = q.1
    · by_cases h2 : hi = q.2
      · simp [h1, h2]
      · simp [h1, h2]
    · simp [h1]
  rw [show (0 : Int) = ((0 : Nat) : Int) from rfl]
  rw [step (m + 9) 0 _ rfl (by decide), step (m + 8) 1 _ rfl (by decide), step (m + 7) 2 _ rfl (by decide), step (m + 6) 3 _ rfl (by decide), step (m + 5) 4 _ rfl (by decide), step (m + 4) 5 _ rfl (by decide)]
  rw [show m + 4 = (m + 3) + 1 from rfl, slices_Index_api_Span_api_Span.l2]
  unfold slices_Index_api_Span_api_Span.b2
  rw [if_neg (show ¬ (decide (((5 + 1 : Nat) : Int) < (allSpans.length : Int)) = true) by decide)]
  simp only
  by_cases c0 : lo = 1 ∧ hi = 1
  · rw [if_pos c0, if_pos c0] <;> rfl
  rw [if_neg c0, if_neg c0]
  by_cases c1 : lo = 1 ∧ hi = 2
  · rw [if_pos c1, if_pos c1] <;> rfl
  rw [if_neg c1, if_neg c1]
  by_cases c2 : lo = 1 ∧ hi = 3
  · rw [if_pos c2, if_pos c2] <;> rfl
  rw [if_neg c2, if_neg c2]
  by_cases c3 : lo = 2 ∧ hi = 2
  · rw [if_pos c3, if_pos c3] <;> rfl
  rw [if_neg c3, if_neg c3]
  by_cases c4 : lo = 2 ∧ hi = 3
  · rw [if_pos c4, if_pos c4] <;> rfl
  rw [if_neg c4, if_neg c4]
  by_cases c5 : lo = 3 ∧ hi = 3
  · rw [if_pos c5, if_pos c5] <;> rfl
  rw [if_neg c5, if_neg c5]
theorem Contains.pure (lo hi : Int) : slices_Contains_api_Span_api_Span.f BIG allSpans lo hi = some (Go.Say.spanOk lo hi) := by
  unfold slices_Contains_api_Span_api_Span.f slices_Contains_api_Span_api_Span.b
  simp only [veil_eq, Index.pure]
  congr 1
  unfold Go.Say.spanOk
  apply decide_eq_decide.2
  constructor
  · intro h
    split at h
    · omega
    split at h
    · omega
    split at h
    · omega
    split at h
    · omega
    split at h
    · omega
    split at h
    · omega
    · omega
  · intro h
    have : (lo = 1 ∧ hi = 1) ∨ (lo = 1 ∧ hi = 2) ∨ (lo = 1 ∧ hi = 3) ∨ (lo = 2 ∧ hi = 2) ∨ (lo = 2 ∧ hi = 3) ∨ (lo = 3 ∧ hi = 3) := by omega
    rcases this with ⟨rfl, rfl⟩ | ⟨rfl, rfl⟩ | ⟨rfl, rfl⟩ | ⟨rfl, rfl⟩ | ⟨rfl, rfl⟩ | ⟨rfl, rfl⟩ <;> simp
theorem SpanParse.pure (w : ByteArray) : span_Parse.f BIG w = some (match Go.Say.spanR (tOf w) with
    | none => (0, 0, 4)
    | some s => (s.1, s.2, 0)) := by
  have hsz : (tOf w).length = w.size := by simp [tOf]
  unfold span_Parse.f span_Parse.b
  rw [show Array.toList (ByteArray.data w) = tOf w from rfl]
  by_cases h3 : w.size = 3
  · rw [if_neg (by rw [h3]; decide)]
    rw [h3] at hsz
    match hw : tOf w, hsz with
    | [a, m, b], _ =>
      simp only [veil_eq, All.pure, Contains.pure, Go.Say.spanR, idx, List.getElem?_cons_zero]
      have e : ∀ c : UInt8, Go.IntKind.wrap .i64 ((c.toNat : Nat) : Int) = (c.toNat : Int) := fun c => by have := c.toNat_lt; exact wrap_small _ (by omega) (by omega)
      have e2 : ∀ c : UInt8, Go.IntKind.wrap .i64 (((c.toNat : Nat) : Int) - 48) = (c.toNat : Int) - 48 := fun c => by have := c.toNat_lt; exact wrap_small _ (by omega) (by omega)
      have i0 : ([a, m, b] : List UInt8)[Int.toNat 0]? = some a := rfl
      have i1 : ([a, m, b] : List UInt8)[Int.toNat 1]? = some m := rfl
      have i2 : ([a, m, b] : List UInt8)[Int.toNat 2]? = some b := rfl
      rw [if_pos (by decide), if_pos (by decide), if_pos (by decide), i0, i1, i2]
      simp only [e, e2]
      by_cases hm : m = 45
      · subst hm
        rw [if_neg (by decide)]
        by_cases hs : Go.Say.spanOk ((a.toNat : Int) - 48) ((b.toNat : Int) - 48) = true
        · rw [if_neg (by simp [hs]), if_pos ⟨rfl, hs⟩]
        · rw [if_pos (by simp [hs]), if_neg (fun h => hs h.2)]
      · rw [if_pos (by simp only [bne_iff_ne, ne_eq]; intro h; apply hm; apply UInt8.toNat_inj.1; have e : (45 : UInt8).toNat = 45 := rfl; omega), if_neg (fun h => hm h.1)]
  · rw [if_pos (by simp only [bne_iff_ne, ne_eq]; omega)]
    have : Go.Say.spanR (tOf w) = none := by
      unfold Go.Say.spanR
      split
      · rename_i a m b he
        rw [he] at hsz
        exact absurd hsz.symm h3
      · rfl
    rw [this]
def bitsL : List Int := [0, 49, 1, 65, 2, 2, 2, 14, 6, 3, 1, 33]
def masks : List Int := [1, 2, 4, 8, 16, 32, 64]
noncomputable def rowsT : List (ByteArray × Int) := (names.map bOf).zip bitsL
theorem Rows.pure : say_rows.f BIG () = some rowsT := rfl
theorem rows_at (k : Nat) (h : k < 12) : idx rowsT (k : Int) = some (bOf (names.getD k []), bitsL.getD k 0) := by
  rw [idx_at]
  have : k = 0 ∨ k = 1 ∨ k = 2 ∨ k = 3 ∨ k = 4 ∨ k = 5 ∨ k = 6 ∨ k = 7 ∨ k = 8 ∨ k = 9 ∨ k = 10 ∨ k = 11 := by omega
  rcases this with rfl | rfl | rfl | rfl | rfl | rfl | rfl | rfl | rfl | rfl | rfl | rfl <;> rfl
def has (b : Int) (j : Nat) : Bool := bits Go.BinOp.and .i64 b (masks.getD j 0) != 0
def partsB (b : Int) (j : Nat) : List Nat := ((List.range 7).drop j).filter fun j => has b j
theorem parts_step (b : Int) (j : Nat) (hj : j < 7) : partsB b j = if has b j = true then j :: partsB b (j + 1) else partsB b (j + 1) := by
  have e : (List.range 7).drop j = j :: (List.range 7).drop (j + 1) := by
    have : j = 0 ∨ j = 1 ∨ j = 2 ∨ j = 3 ∨ j = 4 ∨ j = 5 ∨ j = 6 := by omega
    rcases this with rfl | rfl | rfl | rfl | rfl | rfl | rfl <;> rfl
  unfold partsB
  rw [e, List.filter_cons]
theorem parts_end (b : Int) : partsB b 7 = [] := rfl
theorem parts_kind (k : Nat) (h : k < 12) : partsB (bitsL.getD k 0) 0 = partsOf.getD k [] := by
  have key : ∀ k : Fin 12, partsB (bitsL.getD k 0) 0 = partsOf.getD k [] := by decide +kernel
  exact key ⟨k, h⟩
theorem Of.pure (kind : Int) : say_of.f BIG kind = some (if 1 ≤ kind ∧ kind ≤ 11 then (bOf (names.getD kind.toNat []), bitsL.getD kind.toNat 0, true) else (bOf [], 0, false)) := by
  unfold say_of.f say_of.b
  by_cases h1 : kind < 1
  · rw [if_pos (by simpa using h1), if_neg (by omega)]
    rfl
  · rw [if_neg (by simpa using h1)]
    by_cases h2 : kind > 11
    · rw [if_pos (by simpa using h2), if_neg (by omega)]
      rfl
    · rw [if_neg (by simpa using h2), if_pos (by omega)]
      obtain ⟨k, rfl⟩ : ∃ k : Nat, kind = k := ⟨kind.toNat, by omega⟩
      simp only [veil_eq, Rows.pure]
      rw [rows_at k (by omega)]
      rfl
def bitsOf (kind : Int) : Int := if 1 ≤ kind ∧ kind ≤ 11 then bitsL.getD kind.toNat 0 else 0
theorem parts_of (kind : Int) : partsB (bitsOf kind) 0 = if 1 ≤ kind ∧ kind ≤ 11 then partsOf.getD kind.toNat [] else [] := by
  unfold bitsOf
  split
  · rw [parts_kind _ (by omega)]
  · decide +kernel
structure Small (a : Deed) : Prop where
  bag : SmallBag a.bag
  draws : a.draws.length ≤ 1000000
  ok : Go.Say.Ok a
abbrev Tup := Int × Int × Int × Int × Int × Int × Int × List (Int × List Int) × List Int
def tup (a : Deed) : Tup := (a.kind, a.i, a.k, a.at', a.by', a.lo, a.hi, a.bag, a.draws)
noncomputable def bareA (a : Deed) : Deed := (partsB (bitsOf a.kind) 0).foldl (mv1 a) (zero a.kind)
theorem bareA_kind (a : Deed) (k : Nat) (hk : a.kind = k) (h : 1 ≤ k ∧ k ≤ 11) : bareA a = Go.Say.bare k a := by
  unfold bareA Go.Say.bare
  rw [parts_of, if_pos (by omega), hk]
  rfl
noncomputable def sayT (a : Deed) (j : Nat) : List ByteArray := (Go.Say.say a j).map bOf
theorem say_len (a : Deed) (ha : Small a) (j : Nat) : (sayT a j).length ≤ 1000000 := by
  unfold sayT
  rw [List.length_map]
  match j with
  | 0 | 1 | 2 | 3 | 4 => exact Nat.le_trans (Nat.le_refl 1) (by omega)
  | 5 => show (a.bag.map Go.Say.fieldW).length ≤ _; rw [List.length_map]; exact ha.bag.len
  | 6 => show (a.draws.map Go.Lib.itoa).length ≤ _; rw [List.length_map]; exact ha.draws
  | j + 7 => exact Nat.zero_le _
theorem text_step (a : Deed) (ha : Small a) (A8 : Int → ByteArray → Int → (List ByteArray) → Option (ByteArray × Int)) (j : Nat) (hj : j < 7) (name : ByteArray) (b : Int) (ws : List ByteArray) (hw : ws.length ≤ 10000000) (hsp : has b 4 = true → Go.Say.spanOk a.lo a.hi = true) :
    say_Text.b8 a.kind a.i a.k a.at' a.by' a.lo a.hi a.bag a.draws A8 (j : Int) name b ws =
      if has b j = true then A8 ((j + 1 : Nat) : Int) name b (ws ++ sayT a j) else A8 ((j + 1 : Nat) : Int) name b ws := by
  unfold say_Text.b8
  have : j = 0 ∨ j = 1 ∨ j = 2 ∨ j = 3 ∨ j = 4 ∨ j = 5 ∨ j = 6 := by omega
  have hok := ha.ok
  rcases this with rfl | rfl | rfl | rfl | rfl | rfl | rfl
  · rw [show ((0 : Nat) : Int) = 0 from rfl, if_pos (by decide), if_pos (by decide)]
    have w : Go.IntKind.wrap .i64 ((0 : Int) + 1) = ((0 + 1 : Nat) : Int) := wrap_small _ (by omega) (by omega)
    rw [w]
    by_cases h : has b 0 = true
    · rw [if_pos (show (bits Go.BinOp.and .i64 b (1 : Int) != (0 : Int)) = true from h), if_pos h]
      rw [if_pos (show -9223372036854775808 ≤ a.i ∧ a.i ≤ 9223372036854775807 from hok.i), if_pos (by simp [lim]; omega)]
      rfl
    · rw [if_neg (show ¬ (bits Go.BinOp.and .i64 b (1 : Int) != (0 : Int)) = true from h), if_neg h]
  · rw [show ((1 : Nat) : Int) = 1 from rfl, if_pos (by decide), if_neg (by decide), if_pos (by decide)]
    have w : Go.IntKind.wrap .i64 ((1 : Int) + 1) = ((1 + 1 : Nat) : Int) := wrap_small _ (by omega) (by omega)
    rw [w]
    by_cases h : has b 1 = true
    · rw [if_pos (show (bits Go.BinOp.and .i64 b (2 : Int) != (0 : Int)) = true from h), if_pos h]
      rw [if_pos (show -9223372036854775808 ≤ a.k ∧ a.k ≤ 9223372036854775807 from hok.k), if_pos (by simp [lim]; omega)]
      rfl
    · rw [if_neg (show ¬ (bits Go.BinOp.and .i64 b (2 : Int) != (0 : Int)) = true from h), if_neg h]
  · rw [show ((2 : Nat) : Int) = 2 from rfl, if_pos (by decide), if_neg (by decide), if_neg (by decide), if_pos (by decide)]
    have w : Go.IntKind.wrap .i64 ((2 : Int) + 1) = ((2 + 1 : Nat) : Int) := wrap_small _ (by omega) (by omega)
    rw [w]
    by_cases h : has b 2 = true
    · rw [if_pos (show (bits Go.BinOp.and .i64 b (4 : Int) != (0 : Int)) = true from h), if_pos h]
      rw [if_pos (show -9223372036854775808 ≤ a.at' ∧ a.at' ≤ 9223372036854775807 from hok.at'), if_pos (by simp [lim]; omega)]
      rfl
    · rw [if_neg (show ¬ (bits Go.BinOp.and .i64 b (4 : Int) != (0 : Int)) = true from h), if_neg h]
  · rw [show ((3 : Nat) : Int) = 3 from rfl, if_pos (by decide), if_neg (by decide), if_neg (by decide), if_neg (by decide), if_pos (by decide)]
    have w : Go.IntKind.wrap .i64 ((3 : Int) + 1) = ((3 + 1 : Nat) : Int) := wrap_small _ (by omega) (by omega)
    rw [w]
    by_cases h : has b 3 = true
    · rw [if_pos (show (bits Go.BinOp.and .i64 b (8 : Int) != (0 : Int)) = true from h), if_pos h]
      rw [if_pos (show -9223372036854775808 ≤ a.by' ∧ a.by' ≤ 9223372036854775807 from hok.by'), if_pos (by simp [lim]; omega)]
      rfl
    · rw [if_neg (show ¬ (bits Go.BinOp.and .i64 b (8 : Int) != (0 : Int)) = true from h), if_neg h]
  · rw [show ((4 : Nat) : Int) = 4 from rfl, if_pos (by decide), if_neg (by decide), if_neg (by decide), if_neg (by decide), if_neg (by decide), if_pos (by decide)]
    have w : Go.IntKind.wrap .i64 ((4 : Int) + 1) = ((4 + 1 : Nat) : Int) := wrap_small _ (by omega) (by omega)
    rw [w]
    by_cases h : has b 4 = true
    · rw [if_pos (show (bits Go.BinOp.and .i64 b (16 : Int) != (0 : Int)) = true from h), if_pos h]
      simp only [veil_eq, SpanText.pure a.lo a.hi (hsp h)]
      rw [if_pos (by simp [lim]; omega)]
      rfl
    · rw [if_neg (show ¬ (bits Go.BinOp.and .i64 b (16 : Int) != (0 : Int)) = true from h), if_neg h]
  · rw [show ((5 : Nat) : Int) = 5 from rfl, if_pos (by decide), if_neg (by decide), if_neg (by decide), if_neg (by decide), if_neg (by decide), if_neg (by decide), if_pos (by decide)]
    have w : Go.IntKind.wrap .i64 ((5 : Int) + 1) = ((5 + 1 : Nat) : Int) := wrap_small _ (by omega) (by omega)
    rw [w]
    by_cases h : has b 5 = true
    · rw [if_pos (show (bits Go.BinOp.and .i64 b (32 : Int) != (0 : Int)) = true from h), if_pos h]
      simp only [veil_eq, SayBag.pure _ _ _ _ _ _ _ a.bag a.draws ha.bag]
      have hl := ha.bag.len
      rw [if_pos (by simp [lim]; omega)]
      simp only [sayT, Go.Say.say, List.map_map]
      rfl
    · rw [if_neg (show ¬ (bits Go.BinOp.and .i64 b (32 : Int) != (0 : Int)) = true from h), if_neg h]
  · rw [show ((6 : Nat) : Int) = 6 from rfl, if_pos (by decide), if_neg (by decide), if_neg (by decide), if_neg (by decide), if_neg (by decide), if_neg (by decide), if_neg (by decide), if_pos (by decide)]
    have w : Go.IntKind.wrap .i64 ((6 : Int) + 1) = ((6 + 1 : Nat) : Int) := wrap_small _ (by omega) (by omega)
    rw [w]
    by_cases h : has b 6 = true
    · rw [if_pos (show (bits Go.BinOp.and .i64 b (64 : Int) != (0 : Int)) = true from h), if_pos h]
      simp only [veil_eq, SayDraws.pure _ _ _ _ _ _ _ a.bag a.draws ha.draws hok.draws]
      have hl := ha.draws
      rw [if_pos (by simp [lim]; omega)]
      simp only [sayT, Go.Say.say, List.map_map]
      rfl
    · rw [if_neg (show ¬ (bits Go.BinOp.and .i64 b (64 : Int) != (0 : Int)) = true from h), if_neg h]
theorem text_loop (fuel : Nat) (a : Deed) (ha : Small a) (name : ByteArray) (b : Int) (hsp : has b 4 = true → Go.Say.spanOk a.lo a.hi = true) : ∀ (m j k : Nat) (ws : List ByteArray), j + m = 7 → m < k → ws.length ≤ 1 + 1000000 * j →
    say_Text.l8 fuel a.kind a.i a.k a.at' a.by' a.lo a.hi a.bag a.draws k (j : Int) name b ws = (if joinFits (ws ++ (partsB b j).flatMap (sayT a)) (⟨((32 :: ([] : List UInt8))).toArray⟩ : ByteArray) then some (joinB (ws ++ (partsB b j).flatMap (sayT a)) (⟨((32 :: ([] : List UInt8))).toArray⟩ : ByteArray), 0) else none) := by
  intro m
  induction m with
  | zero =>
    intro j k ws hj hk hw
    obtain rfl : j = 7 := by omega
    rw [say_Text.l8_at fuel k (k - 1) (by omega)]
    unfold say_Text.b8
    rw [if_neg (by decide), parts_end, List.flatMap_nil, List.append_nil]
  | succ m ih =>
    intro j k ws hj hk hw
    rw [say_Text.l8_at fuel k (k - 1) (by omega), text_step a ha _ j (by omega) name b ws (by omega) hsp, parts_step b j (by omega)]
    have hl := say_len a ha j
    by_cases h : has b j = true
    · rw [if_pos h, if_pos h, ih (j + 1) (k - 1) (ws ++ sayT a j) (by omega) (by omega) (by rw [List.length_append]; omega), List.flatMap_cons, List.append_assoc]
    · rw [if_neg h, if_neg h, ih (j + 1) (k - 1) ws (by omega) (by omega) (by omega)]
theorem span_bit (k : Nat) (h : k < 12) : has (bitsL.getD k 0) 4 = decide (k = 1) := by
  have key : ∀ k : Fin 12, has (bitsL.getD k 0) 4 = decide ((k : Nat) = 1) := by decide +kernel
  exact key ⟨k, h⟩
theorem joinB_words (ws : List Word) : joinB (ws.map bOf) (⟨((32 :: ([] : List UInt8))).toArray⟩ : ByteArray) = bOf (Go.Lib.join ws [32]) := by
  unfold joinB
  rw [List.map_map, show ((fun x : ByteArray => x.data.toList) ∘ bOf) = id from rfl, List.map_id]
  rfl
theorem joinFits_words (ws : List Word) (h0 : ws ≠ []) (hl : ws.length ≤ 100000000) (h : (Go.Lib.join ws [32]).length ≤ 100000000000) : joinFits (ws.map bOf) (⟨((32 :: ([] : List UInt8))).toArray⟩ : ByteArray) = true := by
  unfold joinFits
  rw [List.map_map, show ((fun x : ByteArray => x.data.toList) ∘ bOf) = id from rfl, List.map_id]
  have e : (List.map bOf ws).isEmpty = false := by cases ws with
    | nil => exact absurd rfl h0
    | cons _ _ => rfl
  rw [e, List.length_map]
  simp only [Bool.not_false, Bool.true_and, Bool.and_eq_true, decide_eq_true_eq]
  exact ⟨by omega, Nat.le_trans h (by omega)⟩
theorem Text.pure_ok (a : Deed) (ha : Small a) (k : Nat) (hk : a.kind = k) (h : 1 ≤ k ∧ k ≤ 11) (hs : k = 1 → Go.Say.spanOk a.lo a.hi = true) (hlen : (Go.Say.lineW k a).length ≤ 100000000000) (hwl : (Go.Say.words k a).length ≤ 100000000) :
    say_Text.f BIG a.kind a.i a.k a.at' a.by' a.lo a.hi a.bag a.draws = some (bOf (Go.Say.lineW k a), 0) := by
  unfold say_Text.f say_Text.b
  have ek : a.kind.toNat = k := by omega
  have eo : say_of.f BIG a.kind = some (bOf (names.getD k []), bitsL.getD k 0, true) := by rw [Of.pure, if_pos (by omega), ek]
  simp only [veil_eq, eo, Bool.not_true, Bool.false_eq_true, if_false]
  have hb := span_bit k (by omega)
  have main : say_Text.l8 BIG a.kind a.i a.k a.at' a.by' a.lo a.hi a.bag a.draws BIG 0 (bOf (names.getD k [])) (bitsL.getD k 0) (bOf (names.getD k []) :: []) = some (bOf (Go.Say.lineW k a), 0) := by
    have := text_loop BIG a ha (bOf (names.getD k [])) (bitsL.getD k 0) (fun h4 => hs (by rw [hb] at h4; exact of_decide_eq_true h4)) 7 0 BIG [bOf (names.getD k [])] (by omega) (by rw [BIG_eq]; omega) (by simp)
    rw [show ((0 : Nat) : Int) = 0 from rfl] at this
    rw [this, parts_kind k (by omega)]
    have ew : [bOf (names.getD k [])] ++ (partsOf.getD k []).flatMap (sayT a) = (Go.Say.words k a).map bOf := by
      unfold Go.Say.words sayT
      rw [List.map_cons, List.map_flatMap]
      rfl
    rw [ew, joinFits_words _ (by unfold Go.Say.words; simp) hwl hlen, if_pos rfl, joinB_words]
    rfl
  by_cases h4 : has (bitsL.getD k 0) 4 = true
  · rw [if_pos (show (bits Go.BinOp.and .i64 (bitsL.getD k 0) (16 : Int) != (0 : Int)) = true from h4), Valid.pure, hs (by rw [hb] at h4; exact of_decide_eq_true h4)]
    exact main
  · rw [if_neg (show ¬ (bits Go.BinOp.and .i64 (bitsL.getD k 0) (16 : Int) != (0 : Int)) = true from h4)]
    exact main
theorem Text.pure_kind (a : Deed) (h : ¬ (1 ≤ a.kind ∧ a.kind ≤ 11)) : say_Text.f BIG a.kind a.i a.k a.at' a.by' a.lo a.hi a.bag a.draws = some (bOf [], 10) := by
  unfold say_Text.f say_Text.b
  have eo : say_of.f BIG a.kind = some (bOf [], 0, false) := by rw [Of.pure, if_neg h]
  simp only [veil_eq, eo]
  rfl
theorem Text.pure_span (a : Deed) (h : a.kind = 1) (hs : Go.Say.spanOk a.lo a.hi = false) : say_Text.f BIG a.kind a.i a.k a.at' a.by' a.lo a.hi a.bag a.draws = some (bOf [], 1) := by
  unfold say_Text.f say_Text.b
  have ek : a.kind.toNat = 1 := by omega
  have eo : say_of.f BIG a.kind = some (bOf (names.getD 1 []), bitsL.getD 1 0, true) := by rw [Of.pure, if_pos (by omega), ek]
  simp only [veil_eq, eo, Bool.not_true, Bool.false_eq_true, if_false]
  rw [if_pos (show (bits Go.BinOp.and .i64 (bitsL.getD 1 0) (16 : Int) != (0 : Int)) = true by decide +kernel), Valid.pure, hs]
  rfl
theorem spl_len (c : UInt8) : ∀ (l : List UInt8), (Go.Say.spl c l).length ≤ l.length + 1 ∧ ∀ w ∈ Go.Say.spl c l, w.length ≤ l.length
  | [] => by simp [Go.Say.spl]
  | x :: l => by
    obtain ⟨h1, h2⟩ := spl_len c l
    by_cases hx : x = c
    · rw [Go.Say.spl, if_pos hx]
      refine ⟨by simp; omega, fun w hw => ?_⟩
      rcases List.mem_cons.1 hw with rfl | hw
      · simp
      · have := h2 w hw; simp; omega
    · rw [Go.Say.spl, if_neg hx]
      cases hs : Go.Say.spl c l with
      | nil => exact absurd hs (Go.Say.spl_ne c l)
      | cons v r =>
        rw [hs] at h1 h2
        simp only
        refine ⟨by simp at h1 ⊢; omega, fun w hw => ?_⟩
        rcases List.mem_cons.1 hw with rfl | hw
        · have := h2 v List.mem_cons_self; simp; omega
        · have := h2 w (List.mem_cons_of_mem _ hw); simp; omega
theorem readAll_len {α : Type} (f : Word → Option α) : ∀ (ws : List Word) (l : List α), Go.Say.readAll f ws = some l → l.length = ws.length
  | [], l, h => by cases h; rfl
  | w :: ws, l, h => by
    rw [Go.Say.readAll] at h
    split at h
    · cases h
    · split at h
      · cases h
      · rename_i l' hl
        cases h
        have := readAll_len f ws l' hl
        simp [this]
abbrev Tup10 := Int × Int × Int × Int × Int × Int × Int × List (Int × List Int) × List Int × Int
def tup10 (a : Deed) (e : Int) : Tup10 := (a.kind, a.i, a.k, a.at', a.by', a.lo, a.hi, a.bag, a.draws, e)
abbrev Rows3 := List (ByteArray × Int) → Int → Option Tup10
abbrev Rest8 := (List ByteArray) → Bool → (List (ByteArray × Int)) → Int → Int → ByteArray → Int → Int → Int → Int → Int → Int → Int → Int → (List (Int × (List Int))) → (List Int) → Option Tup10
theorem parse_fail_step (line : ByteArray) (A3 : Rows3) (A8 : Rest8) (j : Nat) (hj : j < 7) (rest : List ByteArray) (rows : List (ByteArray × Int)) (kk : Int) (name : ByteArray) (b x12 x13 x14 x15 x16 x17 x18 : Int) (x19 : List (Int × List Int)) (x20 : List Int) :
    say_Parse.b8 line A3 A8 rest false rows kk (j : Int) name b x12 x13 x14 x15 x16 x17 x18 x19 x20 = A8 rest false rows kk ((j + 1 : Nat) : Int) name b x12 x13 x14 x15 x16 x17 x18 x19 x20 := by
  unfold say_Parse.b8
  have : j = 0 ∨ j = 1 ∨ j = 2 ∨ j = 3 ∨ j = 4 ∨ j = 5 ∨ j = 6 := by omega
  rcases this with rfl | rfl | rfl | rfl | rfl | rfl | rfl
  · rw [show ((0 : Nat) : Int) = 0 from rfl, if_pos (by decide), if_pos (by decide), if_neg (by decide)]
    rw [show Go.IntKind.wrap .i64 ((0 : Int) + 1) = ((0 + 1 : Nat) : Int) from wrap_small _ (by omega) (by omega)]
  · rw [show ((1 : Nat) : Int) = 1 from rfl, if_pos (by decide), if_neg (by decide), if_pos (by decide), if_neg (by decide)]
    rw [show Go.IntKind.wrap .i64 ((1 : Int) + 1) = ((1 + 1 : Nat) : Int) from wrap_small _ (by omega) (by omega)]
  · rw [show ((2 : Nat) : Int) = 2 from rfl, if_pos (by decide), if_neg (by decide), if_neg (by decide), if_pos (by decide), if_neg (by decide)]
    rw [show Go.IntKind.wrap .i64 ((2 : Int) + 1) = ((2 + 1 : Nat) : Int) from wrap_small _ (by omega) (by omega)]
  · rw [show ((3 : Nat) : Int) = 3 from rfl, if_pos (by decide), if_neg (by decide), if_neg (by decide), if_neg (by decide), if_pos (by decide), if_neg (by decide)]
    rw [show Go.IntKind.wrap .i64 ((3 : Int) + 1) = ((3 + 1 : Nat) : Int) from wrap_small _ (by omega) (by omega)]
  · rw [show ((4 : Nat) : Int) = 4 from rfl, if_pos (by decide), if_neg (by decide), if_neg (by decide), if_neg (by decide), if_neg (by decide), if_pos (by decide), if_neg (by decide)]
    rw [show Go.IntKind.wrap .i64 ((4 : Int) + 1) = ((4 + 1 : Nat) : Int) from wrap_small _ (by omega) (by omega)]
  · rw [show ((5 : Nat) : Int) = 5 from rfl, if_pos (by decide), if_neg (by decide), if_neg (by decide), if_neg (by decide), if_neg (by decide), if_neg (by decide), if_pos (by decide), if_neg (by decide)]
    rw [show Go.IntKind.wrap .i64 ((5 : Int) + 1) = ((5 + 1 : Nat) : Int) from wrap_small _ (by omega) (by omega)]
  · rw [show ((6 : Nat) : Int) = 6 from rfl, if_pos (by decide), if_neg (by decide), if_neg (by decide), if_neg (by decide), if_neg (by decide), if_neg (by decide), if_neg (by decide), if_pos (by decide), if_neg (by decide)]
    rw [show Go.IntKind.wrap .i64 ((6 : Int) + 1) = ((6 + 1 : Nat) : Int) from wrap_small _ (by omega) (by omega)]
theorem parse_fail (fuel : Nat) (line : ByteArray) (A3 : Rows3) : ∀ (m j k : Nat) (rest : List ByteArray) (rows : List (ByteArray × Int)) (kk : Int) (name : ByteArray) (b x12 x13 x14 x15 x16 x17 x18 : Int) (x19 : List (Int × List Int)) (x20 : List Int), j + m = 7 → m < k →
    say_Parse.l8 fuel line A3 k rest false rows kk (j : Int) name b x12 x13 x14 x15 x16 x17 x18 x19 x20 = A3 rows (Go.IntKind.wrap .i64 (kk + 1)) := by
  intro m
  induction m with
  | zero =>
    intro j k rest rows kk name b x12 x13 x14 x15 x16 x17 x18 x19 x20 hj hk
    obtain rfl : j = 7 := by omega
    rw [say_Parse.l8_at fuel k (k - 1) (by omega)]
    unfold say_Parse.b8
    rw [if_neg (by decide), if_neg (by decide)]
  | succ m ih =>
    intro j k rest rows kk name b x12 x13 x14 x15 x16 x17 x18 x19 x20 hj hk
    rw [say_Parse.l8_at fuel k (k - 1) (by omega), parse_fail_step line A3 _ j (by omega), ih (j + 1) (k - 1) _ _ _ _ _ _ _ _ _ _ _ _ _ _ (by omega) (by omega)]
structure Room (rest : List ByteArray) (a : Deed) : Prop where
  bag : a.bag.length + rest.length ≤ 1000000
  draws : a.draws.length + rest.length ≤ 1000000
  size : ∀ w ∈ rest, w.size ≤ 4000000000
theorem parse_skip (line : ByteArray) (A3 : Rows3) (A8 : Rest8) (j : Nat) (hj : j < 7) (rest : List ByteArray) (rows : List (ByteArray × Int)) (kk : Int) (name : ByteArray) (b x12 x13 x14 x15 x16 x17 x18 : Int) (x19 : List (Int × List Int)) (x20 : List Int) (h : ¬ has b j = true) :
    say_Parse.b8 line A3 A8 rest true rows kk (j : Int) name b x12 x13 x14 x15 x16 x17 x18 x19 x20 = A8 rest true rows kk ((j + 1 : Nat) : Int) name b x12 x13 x14 x15 x16 x17 x18 x19 x20 := by
  unfold say_Parse.b8
  have : j = 0 ∨ j = 1 ∨ j = 2 ∨ j = 3 ∨ j = 4 ∨ j = 5 ∨ j = 6 := by omega
  rcases this with rfl | rfl | rfl | rfl | rfl | rfl | rfl
  · rw [show ((0 : Nat) : Int) = 0 from rfl, if_pos (by decide), if_pos (by decide), if_pos rfl, if_neg (show ¬ (bits Go.BinOp.and .i64 b (1 : Int) != (0 : Int)) = true from h)]
    rw [show Go.IntKind.wrap .i64 ((0 : Int) + 1) = ((0 + 1 : Nat) : Int) from wrap_small _ (by omega) (by omega)]
  · rw [show ((1 : Nat) : Int) = 1 from rfl, if_pos (by decide), if_neg (by decide), if_pos (by decide), if_pos rfl, if_neg (show ¬ (bits Go.BinOp.and .i64 b (2 : Int) != (0 : Int)) = true from h)]
    rw [show Go.IntKind.wrap .i64 ((1 : Int) + 1) = ((1 + 1 : Nat) : Int) from wrap_small _ (by omega) (by omega)]
  · rw [show ((2 : Nat) : Int) = 2 from rfl, if_pos (by decide), if_neg (by decide), if_neg (by decide), if_pos (by decide), if_pos rfl, if_neg (show ¬ (bits Go.BinOp.and .i64 b (4 : Int) != (0 : Int)) = true from h)]
    rw [show Go.IntKind.wrap .i64 ((2 : Int) + 1) = ((2 + 1 : Nat) : Int) from wrap_small _ (by omega) (by omega)]
  · rw [show ((3 : Nat) : Int) = 3 from rfl, if_pos (by decide), if_neg (by decide), if_neg (by decide), if_neg (by decide), if_pos (by decide), if_pos rfl, if_neg (show ¬ (bits Go.BinOp.and .i64 b (8 : Int) != (0 : Int)) = true from h)]
    rw [show Go.IntKind.wrap .i64 ((3 : Int) + 1) = ((3 + 1 : Nat) : Int) from wrap_small _ (by omega) (by omega)]
  · rw [show ((4 : Nat) : Int) = 4 from rfl, if_pos (by decide), if_neg (by decide), if_neg (by decide), if_neg (by decide), if_neg (by decide), if_pos (by decide), if_pos rfl, if_neg (show ¬ (bits Go.BinOp.and .i64 b (16 : Int) != (0 : Int)) = true from h)]
    rw [show Go.IntKind.wrap .i64 ((4 : Int) + 1) = ((4 + 1 : Nat) : Int) from wrap_small _ (by omega) (by omega)]
  · rw [show ((5 : Nat) : Int) = 5 from rfl, if_pos (by decide), if_neg (by decide), if_neg (by decide), if_neg (by decide), if_neg (by decide), if_neg (by decide), if_pos (by decide), if_pos rfl, if_neg (show ¬ (bits Go.BinOp.and .i64 b (32 : Int) != (0 : Int)) = true from h)]
    rw [show Go.IntKind.wrap .i64 ((5 : Int) + 1) = ((5 + 1 : Nat) : Int) from wrap_small _ (by omega) (by omega)]
  · rw [show ((6 : Nat) : Int) = 6 from rfl, if_pos (by decide), if_neg (by decide), if_neg (by decide), if_neg (by decide), if_neg (by decide), if_neg (by decide), if_neg (by decide), if_pos (by decide), if_pos rfl, if_neg (show ¬ (bits Go.BinOp.and .i64 b (64 : Int) != (0 : Int)) = true from h)]
    rw [show Go.IntKind.wrap .i64 ((6 : Int) + 1) = ((6 + 1 : Nat) : Int) from wrap_small _ (by omega) (by omega)]
theorem parse_read (line : ByteArray) (A3 : Rows3) (A8 : Rest8) (j : Nat) (hj : j < 7) (rest : List ByteArray) (rows : List (ByteArray × Int)) (kk : Int) (name : ByteArray) (b : Int) (a : Deed) (hr : Room rest a) (h : has b j = true) :
    (∀ a' ws', Go.Say.read j a (rest.map tOf) = some (a', ws') → ∃ rest', rest'.map tOf = ws' ∧ Room rest' a' ∧ say_Parse.b8 line A3 A8 rest true rows kk (j : Int) name b a.kind a.i a.k a.at' a.by' a.lo a.hi a.bag a.draws = A8 rest' true rows kk ((j + 1 : Nat) : Int) name b a'.kind a'.i a'.k a'.at' a'.by' a'.lo a'.hi a'.bag a'.draws) ∧
    (Go.Say.read j a (rest.map tOf) = none → ∃ rest' x12 x13 x14 x15 x16 x17 x18 x19 x20, say_Parse.b8 line A3 A8 rest true rows kk (j : Int) name b a.kind a.i a.k a.at' a.by' a.lo a.hi a.bag a.draws = A8 rest' false rows kk ((j + 1 : Nat) : Int) name b x12 x13 x14 x15 x16 x17 x18 x19 x20) := by
  unfold say_Parse.b8
  have hb := hr.bag
  have hd := hr.draws
  have hs := hr.size
  have : j = 0 ∨ j = 1 ∨ j = 2 ∨ j = 3 ∨ j = 4 ∨ j = 5 ∨ j = 6 := by omega
  rcases this with rfl | rfl | rfl | rfl | rfl | rfl | rfl
  · rw [show ((0 : Nat) : Int) = 0 from rfl, if_pos (by decide), if_pos (by decide), if_pos rfl, if_pos (show (bits Go.BinOp.and .i64 b (1 : Int) != (0 : Int)) = true from h)]
    rw [show Go.IntKind.wrap .i64 ((0 : Int) + 1) = ((0 + 1 : Nat) : Int) from wrap_small _ (by omega) (by omega)]
    cases rest with
    | nil =>
      rw [if_pos (by decide)]
      exact ⟨fun a' ws' h => (by cases h), fun _ => ⟨_, _, _, _, _, _, _, _, _, _, rfl⟩⟩
    | cons w r =>
      have hw := hs w List.mem_cons_self
      rw [if_neg (by simp; omega), show idx (w :: r) (0 : Int) = some w from rfl]
      simp only [veil_eq]
      rw [if_pos (by omega), if_pos ⟨by omega, by simp; omega⟩]
      have et : List.drop (Int.toNat (1 : Int)) (List.take (List.length (w :: r)) (w :: r)) = r := by rw [List.take_length]; rfl
      rw [et]
      have er : Go.Say.read 0 a ((w :: r).map tOf) = (Go.Say.parseN (tOf w)).map fun v => ({ a with i := v }, r.map tOf) := rfl
      rw [er]
      cases hp : Go.Say.parseN (tOf w) with
      | none =>
        rw [parseB_none hp]
        exact ⟨fun a' ws' h => (by cases h), fun _ => ⟨_, _, _, _, _, _, _, _, _, _, rfl⟩⟩
      | some v =>
        rw [parseB_some hp]
        refine ⟨fun a' ws' h => ?_, fun h => (by cases h)⟩
        cases h
        exact ⟨r, rfl, ⟨by simp at hb ⊢; omega, by simp at hd ⊢; omega, fun x hx => hs x (List.mem_cons_of_mem _ hx)⟩, rfl⟩
  · rw [show ((1 : Nat) : Int) = 1 from rfl, if_pos (by decide), if_neg (by decide), if_pos (by decide), if_pos rfl, if_pos (show (bits Go.BinOp.and .i64 b (2 : Int) != (0 : Int)) = true from h)]
    rw [show Go.IntKind.wrap .i64 ((1 : Int) + 1) = ((1 + 1 : Nat) : Int) from wrap_small _ (by omega) (by omega)]
    cases rest with
    | nil =>
      rw [if_pos (by decide)]
      exact ⟨fun a' ws' h => (by cases h), fun _ => ⟨_, _, _, _, _, _, _, _, _, _, rfl⟩⟩
    | cons w r =>
      have hw := hs w List.mem_cons_self
      rw [if_neg (by simp; omega), show idx (w :: r) (0 : Int) = some w from rfl]
      simp only [veil_eq]
      rw [if_pos (by omega), if_pos ⟨by omega, by simp; omega⟩]
      have et : List.drop (Int.toNat (1 : Int)) (List.take (List.length (w :: r)) (w :: r)) = r := by rw [List.take_length]; rfl
      rw [et]
      have er : Go.Say.read 1 a ((w :: r).map tOf) = (Go.Say.parseN (tOf w)).map fun v => ({ a with k := v }, r.map tOf) := rfl
      rw [er]
      cases hp : Go.Say.parseN (tOf w) with
      | none =>
        rw [parseB_none hp]
        exact ⟨fun a' ws' h => (by cases h), fun _ => ⟨_, _, _, _, _, _, _, _, _, _, rfl⟩⟩
      | some v =>
        rw [parseB_some hp]
        refine ⟨fun a' ws' h => ?_, fun h => (by cases h)⟩
        cases h
        exact ⟨r, rfl, ⟨by simp at hb ⊢; omega, by simp at hd ⊢; omega, fun x hx => hs x (List.mem_cons_of_mem _ hx)⟩, rfl⟩
  · rw [show ((2 : Nat) : Int) = 2 from rfl, if_pos (by decide), if_neg (by decide), if_neg (by decide), if_pos (by decide), if_pos rfl, if_pos (show (bits Go.BinOp.and .i64 b (4 : Int) != (0 : Int)) = true from h)]
    rw [show Go.IntKind.wrap .i64 ((2 : Int) + 1) = ((2 + 1 : Nat) : Int) from wrap_small _ (by omega) (by omega)]
    cases rest with
    | nil =>
      rw [if_pos (by decide)]
      exact ⟨fun a' ws' h => (by cases h), fun _ => ⟨_, _, _, _, _, _, _, _, _, _, rfl⟩⟩
    | cons w r =>
      have hw := hs w List.mem_cons_self
      rw [if_neg (by simp; omega), show idx (w :: r) (0 : Int) = some w from rfl]
      simp only [veil_eq]
      rw [if_pos (by omega), if_pos ⟨by omega, by simp; omega⟩]
      have et : List.drop (Int.toNat (1 : Int)) (List.take (List.length (w :: r)) (w :: r)) = r := by rw [List.take_length]; rfl
      rw [et]
      have er : Go.Say.read 2 a ((w :: r).map tOf) = (Go.Say.parseN (tOf w)).map fun v => ({ a with at' := v }, r.map tOf) := rfl
      rw [er]
      cases hp : Go.Say.parseN (tOf w) with
      | none =>
        rw [parseB_none hp]
        exact ⟨fun a' ws' h => (by cases h), fun _ => ⟨_, _, _, _, _, _, _, _, _, _, rfl⟩⟩
      | some v =>
        rw [parseB_some hp]
        refine ⟨fun a' ws' h => ?_, fun h => (by cases h)⟩
        cases h
        exact ⟨r, rfl, ⟨by simp at hb ⊢; omega, by simp at hd ⊢; omega, fun x hx => hs x (List.mem_cons_of_mem _ hx)⟩, rfl⟩
  · rw [show ((3 : Nat) : Int) = 3 from rfl, if_pos (by decide), if_neg (by decide), if_neg (by decide), if_neg (by decide), if_pos (by decide), if_pos rfl, if_pos (show (bits Go.BinOp.and .i64 b (8 : Int) != (0 : Int)) = true from h)]
    rw [show Go.IntKind.wrap .i64 ((3 : Int) + 1) = ((3 + 1 : Nat) : Int) from wrap_small _ (by omega) (by omega)]
    cases rest with
    | nil =>
      rw [if_pos (by decide)]
      exact ⟨fun a' ws' h => (by cases h), fun _ => ⟨_, _, _, _, _, _, _, _, _, _, rfl⟩⟩
    | cons w r =>
      have hw := hs w List.mem_cons_self
      rw [if_neg (by simp; omega), show idx (w :: r) (0 : Int) = some w from rfl]
      simp only [veil_eq]
      rw [if_pos (by omega), if_pos ⟨by omega, by simp; omega⟩]
      have et : List.drop (Int.toNat (1 : Int)) (List.take (List.length (w :: r)) (w :: r)) = r := by rw [List.take_length]; rfl
      rw [et]
      have er : Go.Say.read 3 a ((w :: r).map tOf) = (Go.Say.parseN (tOf w)).map fun v => ({ a with by' := v }, r.map tOf) := rfl
      rw [er]
      cases hp : Go.Say.parseN (tOf w) with
      | none =>
        rw [parseB_none hp]
        exact ⟨fun a' ws' h => (by cases h), fun _ => ⟨_, _, _, _, _, _, _, _, _, _, rfl⟩⟩
      | some v =>
        rw [parseB_some hp]
        refine ⟨fun a' ws' h => ?_, fun h => (by cases h)⟩
        cases h
        exact ⟨r, rfl, ⟨by simp at hb ⊢; omega, by simp at hd ⊢; omega, fun x hx => hs x (List.mem_cons_of_mem _ hx)⟩, rfl⟩
  · rw [show ((4 : Nat) : Int) = 4 from rfl, if_pos (by decide), if_neg (by decide), if_neg (by decide), if_neg (by decide), if_neg (by decide), if_pos (by decide), if_pos rfl, if_pos (show (bits Go.BinOp.and .i64 b (16 : Int) != (0 : Int)) = true from h)]
    rw [show Go.IntKind.wrap .i64 ((4 : Int) + 1) = ((4 + 1 : Nat) : Int) from wrap_small _ (by omega) (by omega)]
    cases rest with
    | nil =>
      rw [if_pos (by decide)]
      exact ⟨fun a' ws' h => (by cases h), fun _ => ⟨_, _, _, _, _, _, _, _, _, _, rfl⟩⟩
    | cons w r =>
      have hw := hs w List.mem_cons_self
      rw [if_neg (by simp; omega), show idx (w :: r) (0 : Int) = some w from rfl]
      simp only [veil_eq]
      rw [SpanParse.pure]
      simp only
      rw [if_pos ⟨by omega, by simp; omega⟩]
      have et : List.drop (Int.toNat (1 : Int)) (List.take (List.length (w :: r)) (w :: r)) = r := by rw [List.take_length]; rfl
      rw [et]
      have er : Go.Say.read 4 a ((w :: r).map tOf) = (Go.Say.spanR (tOf w)).map fun s => ({ a with lo := s.1, hi := s.2 }, r.map tOf) := rfl
      rw [er]
      cases hp : Go.Say.spanR (tOf w) with
      | none => exact ⟨fun a' ws' h => (by cases h), fun _ => ⟨_, _, _, _, _, _, _, _, _, _, rfl⟩⟩
      | some v =>
        refine ⟨fun a' ws' h => ?_, fun h => (by cases h)⟩
        cases h
        exact ⟨r, rfl, ⟨by simp at hb ⊢; omega, by simp at hd ⊢; omega, fun x hx => hs x (List.mem_cons_of_mem _ hx)⟩, rfl⟩
  · rw [show ((5 : Nat) : Int) = 5 from rfl, if_pos (by decide), if_neg (by decide), if_neg (by decide), if_neg (by decide), if_neg (by decide), if_neg (by decide), if_pos (by decide), if_pos rfl, if_pos (show (bits Go.BinOp.and .i64 b (32 : Int) != (0 : Int)) = true from h)]
    rw [show Go.IntKind.wrap .i64 ((5 : Int) + 1) = ((5 + 1 : Nat) : Int) from wrap_small _ (by omega) (by omega)]
    obtain ⟨p1, p2⟩ := ReadBag.pure a.kind a.i a.k a.at' a.by' a.lo a.hi a.bag a.draws rest (by omega) (by omega) hs
    have er : Go.Say.read 5 a (rest.map tOf) = (Go.Say.readAll Go.Say.readW (rest.map tOf)).map fun l => ({ a with bag := a.bag ++ l }, []) := rfl
    rw [er]
    simp only [veil_eq]
    cases hp : Go.Say.readAll Go.Say.readW (rest.map tOf) with
    | none =>
      obtain ⟨x, hx⟩ := p2 hp
      rw [hx]
      exact ⟨fun a' ws' h => (by cases h), fun _ => ⟨_, _, _, _, _, _, _, _, _, _, rfl⟩⟩
    | some l =>
      have hlen := readAll_len _ _ _ hp
      rw [List.length_map] at hlen
      rw [p1 l hp]
      refine ⟨fun a' ws' h => ?_, fun h => (by cases h)⟩
      cases h
      exact ⟨[], rfl, ⟨by simp; omega, by simp; omega, by simp⟩, rfl⟩
  · rw [show ((6 : Nat) : Int) = 6 from rfl, if_pos (by decide), if_neg (by decide), if_neg (by decide), if_neg (by decide), if_neg (by decide), if_neg (by decide), if_neg (by decide), if_pos (by decide), if_pos rfl, if_pos (show (bits Go.BinOp.and .i64 b (64 : Int) != (0 : Int)) = true from h)]
    rw [show Go.IntKind.wrap .i64 ((6 : Int) + 1) = ((6 + 1 : Nat) : Int) from wrap_small _ (by omega) (by omega)]
    obtain ⟨p1, p2⟩ := ReadDraws.pure a.kind a.i a.k a.at' a.by' a.lo a.hi a.bag a.draws rest (by omega) (by omega) (fun w hw => by have := hs w hw; omega)
    have er : Go.Say.read 6 a (rest.map tOf) = (Go.Say.readAll Go.Say.parseN (rest.map tOf)).map fun l => ({ a with draws := a.draws ++ l }, []) := rfl
    rw [er]
    simp only [veil_eq]
    cases hp : Go.Say.readAll Go.Say.parseN (rest.map tOf) with
    | none =>
      obtain ⟨x, hx⟩ := p2 hp
      rw [hx]
      exact ⟨fun a' ws' h => (by cases h), fun _ => ⟨_, _, _, _, _, _, _, _, _, _, rfl⟩⟩
    | some l =>
      have hlen := readAll_len _ _ _ hp
      rw [List.length_map] at hlen
      rw [p1 l hp]
      refine ⟨fun a' ws' h => ?_, fun h => (by cases h)⟩
      cases h
      exact ⟨[], rfl, ⟨by simp; omega, by simp; omega, by simp⟩, rfl⟩
theorem parse_loop (fuel : Nat) (line : ByteArray) (A3 : Rows3) (rows : List (ByteArray × Int)) (kk : Int) (name : ByteArray) (b : Int) : ∀ (m j k : Nat) (rest : List ByteArray) (a : Deed), j + m = 7 → m < k → Room rest a →
    say_Parse.l8 fuel line A3 k rest true rows kk (j : Int) name b a.kind a.i a.k a.at' a.by' a.lo a.hi a.bag a.draws = match Go.Say.fin (Go.Say.reads (partsB b j) a (rest.map tOf)) with
      | some a' => some (tup10 a' 0)
      | none => A3 rows (Go.IntKind.wrap .i64 (kk + 1)) := by
  intro m
  induction m with
  | zero =>
    intro j k rest a hj hk hr
    obtain rfl : j = 7 := by omega
    rw [say_Parse.l8_at fuel k (k - 1) (by omega)]
    unfold say_Parse.b8
    rw [if_neg (by decide), if_pos rfl, parts_end, Go.Say.reads]
    cases rest with
    | nil => rfl
    | cons w r =>
      rw [if_neg (by simp; omega)]
      rfl
  | succ m ih =>
    intro j k rest a hj hk hr
    rw [say_Parse.l8_at fuel k (k - 1) (by omega), parts_step b j (by omega)]
    by_cases h : has b j = true
    · rw [if_pos h]
      obtain ⟨p1, p2⟩ := parse_read line A3 (say_Parse.l8 fuel line A3 (k - 1)) j (by omega) rest rows kk name b a hr h
      rw [Go.Say.reads]
      cases hrd : Go.Say.read j a (rest.map tOf) with
      | none =>
        obtain ⟨rest', x12, x13, x14, x15, x16, x17, x18, x19, x20, e⟩ := p2 hrd
        rw [e, parse_fail fuel line A3 m (j + 1) (k - 1) _ _ _ _ _ _ _ _ _ _ _ _ _ _ (by omega) (by omega)]
        rfl
      | some p =>
        obtain ⟨a', ws'⟩ := p
        obtain ⟨rest', e1, e2, e3⟩ := p1 a' ws' hrd
        rw [e3, ih (j + 1) (k - 1) rest' a' (by omega) (by omega) e2, e1]
    · rw [if_neg h, parse_skip line A3 _ j (by omega) rest rows kk name b _ _ _ _ _ _ _ _ _ h, ih (j + 1) (k - 1) rest a (by omega) (by omega) hr]
def tryK (h : Word) (t : List Word) : List Nat → Option Deed
  | [] => none
  | k :: ks => if names.getD k [] = h then (match Go.Say.parseK k t with | some a => some a | none => tryK h t ks) else tryK h t ks
theorem tryK_none (h : Word) (t : List Word) : ∀ ks : List Nat, (∀ k ∈ ks, names.getD k [] ≠ h) → tryK h t ks = none
  | [], _ => rfl
  | k :: ks, hk => by rw [tryK, if_neg (hk k List.mem_cons_self)]; exact tryK_none h t ks fun x hx => hk x (List.mem_cons_of_mem _ hx)
theorem tryK_one (h : Word) (t : List Word) (k : Nat) (hk : names.getD k [] = h) : ∀ l m : List Nat, (∀ j ∈ l, names.getD j [] ≠ h) → (∀ j ∈ m, names.getD j [] ≠ h) → tryK h t (l ++ k :: m) = Go.Say.parseK k t
  | [], m, _, hm => by
    rw [List.nil_append, tryK, if_pos hk]
    cases Go.Say.parseK k t with
    | none => exact tryK_none h t m hm
    | some a => rfl
  | j :: l, m, hl, hm => by
    rw [List.cons_append, tryK, if_neg (hl j List.mem_cons_self)]
    exact tryK_one h t k hk l m (fun x hx => hl x (List.mem_cons_of_mem _ hx)) hm
theorem tryK_all (h : Word) (t : List Word) : tryK h t ((List.range 12).drop 1) = Go.Say.parseW (h :: t) := by
  rw [Go.Say.parseW]
  cases hk : Go.Say.kindOf h with
  | none =>
    refine tryK_none h t _ fun k hm e => ?_
    unfold Go.Say.kindOf at hk
    have h1 := List.find?_eq_none.1 hk k (List.mem_of_mem_drop hm)
    have h0 : k ≠ 0 := by
      intro e0
      subst e0
      revert hm
      decide
    apply h1
    rw [e]
    simp [h0]
  | some k =>
    obtain ⟨⟨h1, h2⟩, rfl⟩ := Go.Say.name_kind hk
    have : k = 1 ∨ k = 2 ∨ k = 3 ∨ k = 4 ∨ k = 5 ∨ k = 6 ∨ k = 7 ∨ k = 8 ∨ k = 9 ∨ k = 10 ∨ k = 11 := by omega
    rcases this with rfl | rfl | rfl | rfl | rfl | rfl | rfl | rfl | rfl | rfl | rfl
    · exact tryK_one _ t 1 rfl [] [2, 3, 4, 5, 6, 7, 8, 9, 10, 11] (by decide) (by decide)
    · exact tryK_one _ t 2 rfl [1] [3, 4, 5, 6, 7, 8, 9, 10, 11] (by decide) (by decide)
    · exact tryK_one _ t 3 rfl [1, 2] [4, 5, 6, 7, 8, 9, 10, 11] (by decide) (by decide)
    · exact tryK_one _ t 4 rfl [1, 2, 3] [5, 6, 7, 8, 9, 10, 11] (by decide) (by decide)
    · exact tryK_one _ t 5 rfl [1, 2, 3, 4] [6, 7, 8, 9, 10, 11] (by decide) (by decide)
    · exact tryK_one _ t 6 rfl [1, 2, 3, 4, 5] [7, 8, 9, 10, 11] (by decide) (by decide)
    · exact tryK_one _ t 7 rfl [1, 2, 3, 4, 5, 6] [8, 9, 10, 11] (by decide) (by decide)
    · exact tryK_one _ t 8 rfl [1, 2, 3, 4, 5, 6, 7] [9, 10, 11] (by decide) (by decide)
    · exact tryK_one _ t 9 rfl [1, 2, 3, 4, 5, 6, 7, 8] [10, 11] (by decide) (by decide)
    · exact tryK_one _ t 10 rfl [1, 2, 3, 4, 5, 6, 7, 8, 9] [11] (by decide) (by decide)
    · exact tryK_one _ t 11 rfl [1, 2, 3, 4, 5, 6, 7, 8, 9, 10] [] (by decide) (by decide)
theorem split_words (line : ByteArray) : (splitL line (⟨((32 :: ([] : List UInt8))).toArray⟩ : ByteArray)).map tOf = Go.Say.spl 32 (tOf line) := Go.Say.split_eq line _ 32 rfl
theorem rows_loop (fuel : Nat) (hf : 100 ≤ fuel) (line : ByteArray) (hl : line.size ≤ 900000) (w0 : ByteArray) (r0 : List ByteArray) (hw : splitL line (⟨((32 :: ([] : List UInt8))).toArray⟩ : ByteArray) = w0 :: r0) : ∀ (m kk k : Nat), kk + m = 12 → 1 ≤ kk → m < k →
    say_Parse.l3 fuel line k rowsT (kk : Int) = some (match tryK (tOf w0) (r0.map tOf) ((List.range 12).drop kk) with
      | some a => tup10 a 0
      | none => tup10 (zero 0) 16) := by
  have hsz : (tOf line).length = line.size := by simp [tOf]
  have hsp := split_words line
  rw [hw] at hsp
  obtain ⟨hl1, hl2⟩ := spl_len 32 (tOf line)
  rw [← hsp] at hl1 hl2
  have hroom : ∀ kk : Nat, Room r0 (zero kk) := fun kk => ⟨by simp [zero] at hl1 ⊢; omega, by simp [zero] at hl1 ⊢; omega, fun w hm => by
    have := hl2 (tOf w) (List.mem_map_of_mem (List.mem_cons_of_mem _ hm))
    have e : (tOf w).length = w.size := by simp [tOf]
    omega⟩
  intro m
  induction m with
  | zero =>
    intro kk k hk h1 hm
    obtain rfl : kk = 12 := by omega
    rw [say_Parse.l3_at fuel k (k - 1) (by omega)]
    unfold say_Parse.b3
    rw [if_neg (by decide), show (List.range 12).drop 12 = [] from rfl, tryK]
    rfl
  | succ m ih =>
    intro kk k hk h1 hm
    rw [say_Parse.l3_at fuel k (k - 1) (by omega)]
    unfold say_Parse.b3
    rw [if_pos (by rw [decide_eq_true_eq]; omega), rows_at kk (by omega)]
    have ed : (List.range 12).drop kk = kk :: (List.range 12).drop (kk + 1) := by
      rw [List.drop_eq_getElem_cons (by simp; omega)]
      simp
    simp only
    rw [if_neg (by simp; omega), hw, show idx (w0 :: r0) (0 : Int) = some w0 from rfl]
    simp only
    rw [toList_data, toList_data, ed, tryK]
    have wk : Go.IntKind.wrap .i64 ((kk : Int) + 1) = ((kk + 1 : Nat) : Int) := wrap_small _ (by omega) (by omega)
    by_cases hn : names.getD kk [] = tOf w0
    · rw [if_neg (by rw [show (bOf (names.getD kk [])).data.toList = names.getD kk [] from rfl, hn]; simp [tOf]), if_pos ⟨by omega, by simp; omega⟩, if_pos hn]
      have et : List.drop (Int.toNat (1 : Int)) (List.take (List.length (w0 :: r0)) (w0 :: r0)) = r0 := by rw [List.take_length]; rfl
      rw [et]
      have := parse_loop fuel line (say_Parse.l3 fuel line (k - 1)) rowsT kk (bOf (names.getD kk [])) (bitsL.getD kk 0) 7 0 fuel r0 (zero kk) (by omega) (by omega) (hroom kk)
      rw [show ((0 : Nat) : Int) = 0 from rfl] at this
      rw [show say_Parse.l8 fuel line (say_Parse.l3 fuel line (k - 1)) fuel r0 true rowsT (kk : Int) 0 (bOf (names.getD kk [])) (bitsL.getD kk 0) (kk : Int) 0 0 0 0 0 0 [] [] = _ from this, parts_kind kk (by omega), wk, ih (kk + 1) (k - 1) (by omega) (by omega) (by omega)]
      show _ = some (match (match Go.Say.fin (Go.Say.reads (partsOf.getD kk []) (zero kk) (r0.map tOf)) with | some a => some a | none => _) with | some a => tup10 a 0 | none => tup10 (zero 0) 16)
      cases Go.Say.fin (Go.Say.reads (partsOf.getD kk []) (zero kk) (r0.map tOf)) with
      | none => rfl
      | some a => rfl
    · rw [if_pos (by rw [show (bOf (names.getD kk [])).data.toList = names.getD kk [] from rfl]; simpa [tOf] using hn), if_neg hn, wk, ih (kk + 1) (k - 1) (by omega) (by omega) (by omega)]
theorem Parse.pure (line : ByteArray) (hl : line.size ≤ 900000) : say_Parse.f BIG line = some (match Go.Say.parseL (tOf line) with
    | some a => tup10 a 0
    | none => tup10 (zero 0) 16) := by
  unfold say_Parse.f say_Parse.b
  rw [if_pos ⟨by omega, by decide⟩]
  simp only [veil_eq, Rows.pure]
  have hsp := split_words line
  cases hw : splitL line (⟨((32 :: ([] : List UInt8))).toArray⟩ : ByteArray) with
  | nil =>
    rw [hw] at hsp
    exact absurd hsp.symm (Go.Say.spl_ne 32 _)
  | cons w0 r0 =>
    have := rows_loop BIG (by rw [BIG_eq]; omega) line hl w0 r0 hw 11 1 (BIG - 1) (by omega) (by omega) (by rw [BIG_eq]; omega)
    rw [say_Parse.l3_at BIG BIG (BIG - 1) (by rw [BIG_eq])]
    unfold say_Parse.b3
    rw [if_pos (by decide), show idx rowsT (0 : Int) = some (bOf (names.getD 0 []), bitsL.getD 0 0) from rows_at 0 (by omega)]
    simp only
    rw [if_pos (by decide), show Go.IntKind.wrap .i64 ((0 : Int) + 1) = ((1 : Nat) : Int) from wrap_small _ (by omega) (by omega), this, tryK_all]
    unfold Go.Say.parseL
    rw [← hsp, hw]
    rfl
theorem Nan.pure (x : Int) : cmp_isNaN_byte.f BIG x = some false := by unfold cmp_isNaN_byte.f cmp_isNaN_byte.b; simp
theorem Cmp8.pure (x y : Int) : cmp_Compare_byte.f BIG x y = some (if x < y then -1 else if x > y then 1 else 0) := by
  unfold cmp_Compare_byte.f cmp_Compare_byte.b
  simp only [veil_eq, Nan.pure, Bool.false_eq_true, if_false, decide_eq_true_eq]
  split
  · rfl
  · split <;> rfl
theorem scmp_loop (fuel : Nat) (a b : List Int) (ha : a.length < 4611686018427387904) (hb : b.length < 4611686018427387904) : ∀ (n i k : Nat), i + n = a.length → n < k → i ≤ b.length →
    ∃ c, slices_Compare_byte_byte.l2 fuel a b k (a.length : Int) (i : Int) = some c ∧ (c = 0 ↔ a.drop i = b.drop i) := by
  intro n
  induction n with
  | zero =>
    intro i k hi hk hib
    obtain ⟨k, rfl⟩ : ∃ k', k = k' + 1 := ⟨k - 1, by omega⟩
    rw [slices_Compare_byte_byte.l2]
    unfold slices_Compare_byte_byte.b2
    rw [if_neg (by rw [decide_eq_true_eq]; omega)]
    have e1 : a.drop i = [] := List.drop_of_length_le (by omega)
    by_cases h : a.length < b.length
    · rw [if_pos (by rw [decide_eq_true_eq]; omega)]
      refine ⟨_, rfl, ⟨fun h => by omega, fun h2 => ?_⟩⟩
      rw [e1] at h2
      have := congrArg List.length h2
      simp at this
      omega
    · rw [if_neg (by rw [decide_eq_true_eq]; omega)]
      refine ⟨_, rfl, ⟨fun _ => ?_, fun _ => rfl⟩⟩
      rw [e1, List.drop_of_length_le (by omega)]
  | succ n ih =>
    intro i k hi hk hib
    obtain ⟨k, rfl⟩ : ∃ k', k = k' + 1 := ⟨k - 1, by omega⟩
    rw [slices_Compare_byte_byte.l2]
    unfold slices_Compare_byte_byte.b2
    have hia : i < a.length := by omega
    rw [if_pos (by rw [decide_eq_true_eq]; omega), idx_at, List.getElem?_eq_getElem hia]
    simp only [veil_eq]
    by_cases h : i = b.length
    · rw [if_pos (by rw [decide_eq_true_eq]; omega)]
      refine ⟨_, rfl, ⟨fun h => by omega, fun h2 => ?_⟩⟩
      rw [show b.drop i = [] from List.drop_of_length_le (by omega)] at h2
      have := congrArg List.length h2
      simp at this
      omega
    · have hib' : i < b.length := by omega
      rw [if_neg (by rw [decide_eq_true_eq]; omega), idx_at, List.getElem?_eq_getElem hib']
      simp only [Cmp8.pure]
      rw [List.drop_eq_getElem_cons hia, List.drop_eq_getElem_cons hib']
      by_cases hlt : a[i] < b[i]
      · rw [if_pos hlt]
        refine ⟨-1, by simp, ⟨fun h => by omega, fun h2 => ?_⟩⟩
        have := (List.cons.inj h2).1
        omega
      · rw [if_neg hlt]
        by_cases hgt : a[i] > b[i]
        · rw [if_pos hgt]
          refine ⟨1, by simp, ⟨fun h => by omega, fun h2 => ?_⟩⟩
          have := (List.cons.inj h2).1
          omega
        · rw [if_neg hgt]
          obtain ⟨c, h1, h2⟩ := ih (i + 1) k (by omega) (by omega) (by omega)
          refine ⟨c, ?_, ?_⟩
          · rw [if_neg (by simp), wrap_small _ (by omega) (by omega)]
            exact h1
          · rw [h2]
            have : a[i] = b[i] := by omega
            rw [this]
            exact ⟨fun h => by rw [h], fun h => (List.cons.inj h).2⟩
theorem SCmp.pure (a b : List Int) (ha : a.length < 1000000000000) (hb : b.length < 1000000000000) : ∃ c, slices_Compare_byte_byte.f BIG a b = some c ∧ (c = 0 ↔ a = b) := by
  have := scmp_loop BIG a b (by omega) (by omega) a.length 0 BIG (by omega) (by rw [BIG_eq]; omega) (by omega)
  exact this
theorem Sign.pure (f g : Int × List Int) (ha : f.2.length < 1000000000000) (hb : g.2.length < 1000000000000) : ∃ c, bag_sign.f BIG f.1 f.2 g.1 g.2 = some c ∧ (c = 0 ↔ f = g) := by
  obtain ⟨t, d⟩ := f
  obtain ⟨u, e⟩ := g
  unfold bag_sign.f bag_sign.b
  by_cases h : t = u
  · subst h
    obtain ⟨c, h1, h2⟩ := SCmp.pure d e ha hb
    rw [if_neg (by simp)]
    simp only [veil_eq, h1]
    exact ⟨c, rfl, by rw [h2]; simp⟩
  · rw [if_pos (by simpa using h)]
    by_cases hlt : t < u
    · rw [if_pos (by simpa using hlt)]
      exact ⟨_, rfl, ⟨fun h => by omega, fun h2 => absurd (congrArg Prod.fst h2) h⟩⟩
    · rw [if_neg (by simpa using hlt)]
      exact ⟨_, rfl, ⟨fun h => by omega, fun h2 => absurd (congrArg Prod.fst h2) h⟩⟩
theorem bcmp_loop (fuel : Nat) (a b : List (Int × List Int)) (ha : a.length < 1000000000000) (hb : b.length < 1000000000000) (ha2 : ∀ f ∈ a, f.2.length < 1000000000000) (hb2 : ∀ f ∈ b, f.2.length < 1000000000000) : ∀ (n i k : Nat), i + n = a.length → n < k → i ≤ b.length →
    ∃ c, bag_Compare.l2 fuel a b k (i : Int) = some c ∧ (c = 0 ↔ a.drop i = b.drop i) := by
  have hend : ∀ i : Nat, i ≤ a.length → i ≤ b.length → (i = a.length ∨ i = b.length) → ∃ c, (if (decide (((((List.length a)) : Nat) : Int) < ((((List.length b)) : Nat) : Int))) then some (-(1 : Int)) else (if (decide (((((List.length a)) : Nat) : Int) > ((((List.length b)) : Nat) : Int))) then some (1 : Int) else some (0 : Int))) = some c ∧ (c = 0 ↔ a.drop i = b.drop i) := by
    intro i hia hib h
    have hl : a.drop i = b.drop i ↔ a.length = b.length := by
      constructor
      · intro h2
        have := congrArg List.length h2
        simp at this
        omega
      · intro h2
        rw [List.drop_of_length_le (by omega), List.drop_of_length_le (by omega)]
    by_cases h1 : a.length < b.length
    · rw [if_pos (by rw [decide_eq_true_eq]; omega)]
      exact ⟨_, rfl, by rw [hl]; omega⟩
    · rw [if_neg (by rw [decide_eq_true_eq]; omega)]
      by_cases h2 : a.length > b.length
      · rw [if_pos (by rw [decide_eq_true_eq]; omega)]
        exact ⟨_, rfl, by rw [hl]; omega⟩
      · rw [if_neg (by rw [decide_eq_true_eq]; omega)]
        exact ⟨_, rfl, by rw [hl]; omega⟩
  intro n
  induction n with
  | zero =>
    intro i k hi hk hib
    obtain ⟨k, rfl⟩ : ∃ k', k = k' + 1 := ⟨k - 1, by omega⟩
    rw [bag_Compare.l2]
    unfold bag_Compare.b2
    rw [if_neg (by rw [decide_eq_true_eq]; omega)]
    exact hend i (by omega) hib (.inl (by omega))
  | succ n ih =>
    intro i k hi hk hib
    obtain ⟨k, rfl⟩ : ∃ k', k = k' + 1 := ⟨k - 1, by omega⟩
    rw [bag_Compare.l2]
    unfold bag_Compare.b2
    have hia : i < a.length := by omega
    rw [if_pos (by rw [decide_eq_true_eq]; omega)]
    by_cases h : i = b.length
    · rw [if_neg (by rw [decide_eq_true_eq]; omega)]
      exact hend i (by omega) hib (.inr h)
    · have hib' : i < b.length := by omega
      rw [if_pos (by rw [decide_eq_true_eq]; omega), idx_at, idx_at, List.getElem?_eq_getElem hia, List.getElem?_eq_getElem hib']
      simp only [veil_eq]
      obtain ⟨c, h1, h2⟩ := Sign.pure a[i] b[i] (ha2 _ (List.getElem_mem hia)) (hb2 _ (List.getElem_mem hib'))
      rw [h1, List.drop_eq_getElem_cons hia, List.drop_eq_getElem_cons hib']
      simp only
      by_cases hc : c = 0
      · rw [if_neg (by simp [hc])]
        obtain ⟨c', h3, h4⟩ := ih (i + 1) k (by omega) (by omega) (by omega)
        refine ⟨c', ?_, ?_⟩
        · rw [wrap_small _ (by omega) (by omega)]
          exact h3
        · rw [h4, h2.1 hc]
          exact ⟨fun h => by rw [h], fun h => (List.cons.inj h).2⟩
      · rw [if_pos (by simpa using hc)]
        refine ⟨c, rfl, ⟨fun h => absurd h hc, fun h3 => ?_⟩⟩
        exact h2.2 (List.cons.inj h3).1
def smallBag (b : List (Int × List Int)) : Prop := b.length < 1000000000000 ∧ ∀ f ∈ b, f.2.length < 1000000000000
theorem BCmp.pure (a b : List (Int × List Int)) (ha : smallBag a) (hb : smallBag b) : ∃ c, bag_Compare.f BIG a b = some c ∧ (c = 0 ↔ a = b) := by
  have := bcmp_loop BIG a b ha.1 hb.1 ha.2 hb.2 a.length 0 BIG (by omega) (by rw [BIG_eq]; have := ha.1; omega) (by omega)
  exact this
theorem few_loop (fuel : Nat) (b : List (Int × List Int)) (hlen : b.length ≤ 40) (hd : ∀ f ∈ b, f.2.length ≤ 281474976710656) : ∀ (n i k s : Nat), i + n = b.length → n < k → s ≤ 5000 →
    ∃ r, law06_Few.l5 fuel b k (s : Int) (i : Int) = some r ∧ (r = true → ∀ f ∈ b.drop i, f.2.length ≤ 5000) := by
  intro n
  induction n with
  | zero =>
    intro i k s hi hk hs
    rw [law06_Few.l5_at fuel k (k - 1) (by omega)]
    unfold law06_Few.b5
    rw [if_neg (by rw [decide_eq_true_eq]; omega), List.drop_of_length_le (by omega)]
    exact ⟨_, rfl, fun _ f hf => by cases hf⟩
  | succ n ih =>
    intro i k s hi hk hs
    rw [law06_Few.l5_at fuel k (k - 1) (by omega)]
    unfold law06_Few.b5
    have hil : i < b.length := by omega
    have hdi := hd _ (List.getElem_mem hil)
    rw [if_pos (by rw [decide_eq_true_eq]; omega), idx_at, List.getElem?_eq_getElem hil]
    simp only
    rw [wrap_small _ (by omega) (by omega)]
    by_cases h : (s : Int) + (b[i].2.length : Int) > 5000
    · rw [if_pos (by simpa using h)]
      exact ⟨_, rfl, fun h => by cases h⟩
    · rw [if_neg (by simpa using h), wrap_small _ (by omega) (by omega), show ((s : Int) + (b[i].2.length : Int)) = ((s + b[i].2.length : Nat) : Int) by omega, show ((i : Int) + 1) = ((i + 1 : Nat) : Int) by omega]
      obtain ⟨r, h1, h2⟩ := ih (i + 1) (k - 1) (s + b[i].2.length) (by omega) (by omega) (by omega)
      refine ⟨r, h1, fun hr f hf => ?_⟩
      rw [List.drop_eq_getElem_cons hil] at hf
      rcases List.mem_cons.1 hf with rfl | hf
      · omega
      · exact h2 hr f hf
theorem Few6.pure (b : List (Int × List Int)) (hl : b.length ≤ 281474976710656) (hd : ∀ f ∈ b, f.2.length ≤ 281474976710656) : ∃ r, law06_Few.f BIG b = some r ∧ (r = true → b.length ≤ 40 ∧ ∀ f ∈ b, f.2.length ≤ 5000) := by
  unfold law06_Few.f law06_Few.b
  by_cases h : b.length > 40
  · rw [if_pos (by rw [decide_eq_true_eq]; omega)]
    exact ⟨_, rfl, fun h => by cases h⟩
  · rw [if_neg (by rw [decide_eq_true_eq]; omega)]
    obtain ⟨r, h1, h2⟩ := few_loop BIG b (by omega) hd b.length 0 BIG 0 (by omega) (by rw [BIG_eq]; omega) (by omega)
    exact ⟨r, h1, fun hr => ⟨by omega, by simpa using h2 hr⟩⟩
/-- what is known of an act that is given -/
structure Given (a : Deed) : Prop where
  ok : Go.Say.Ok a
  lo : i64R a.lo
  hi : i64R a.hi
  bag : a.bag.length ≤ 281474976710656 ∧ ∀ f ∈ a.bag, f.2.length ≤ 281474976710656
  draws : a.draws.length ≤ 281474976710656
/-- few fields, small ones -/
structure Tiny (a : Deed) : Prop where
  ok : Go.Say.Ok a
  lo : i64R a.lo
  hi : i64R a.hi
  bag : a.bag.length ≤ 1000
  data : ∀ f ∈ a.bag, f.2.length ≤ 10000
  draws : a.draws.length ≤ 1000
theorem Tiny.small {a : Deed} (h : Tiny a) : Small a := ⟨⟨by have := h.bag; omega, fun f hf => by have := h.data f hf; omega, h.ok.bag⟩, by have := h.draws; omega, h.ok⟩
structure Few40 (a : Deed) : Prop where
  bag : a.bag.length ≤ 40
  data : ∀ f ∈ a.bag, f.2.length ≤ 5000
  draws : a.draws.length ≤ 40
theorem Few.pure (a : Deed) (ha : Given a) : ∃ r, law39_few.f BIG a.kind a.i a.k a.at' a.by' a.lo a.hi a.bag a.draws = some r ∧ (r = true → Tiny a ∧ Few40 a) := by
  unfold law39_few.f law39_few.b
  obtain ⟨r, h1, h2⟩ := Few6.pure a.bag ha.bag.1 ha.bag.2
  simp only [veil_eq, h1]
  cases r with
  | false => exact ⟨_, rfl, fun h => by cases h⟩
  | true =>
    obtain ⟨h3, h4⟩ := h2 rfl
    refine ⟨_, rfl, fun h => ?_⟩
    have h5 : (a.draws.length : Int) ≤ 40 := of_decide_eq_true h
    exact ⟨⟨ha.ok, ha.lo, ha.hi, by omega, fun f hf => by have := h4 f hf; omega, by omega⟩, ⟨h3, h4, by omega⟩⟩
theorem LBare.pure (a : Deed) : law39_bare.f BIG a.kind a.i a.k a.at' a.by' a.lo a.hi a.bag a.draws = some (tup (bareA a)) := by
  unfold law39_bare.f law39_bare.b bareA
  rw [parts_of]
  have hN : BIG = (BIG - 1) + 1 := big_eq
  have e5 := fun x0 => law39_bare.l5_at BIG BIG (BIG - 1) hN a.kind a.i a.k a.at' a.by' a.lo a.hi a.bag a.draws x0
  have e7 := fun x0 x1 => law39_bare.l7_at BIG BIG (BIG - 1) hN a.kind a.i a.k a.at' a.by' a.lo a.hi a.bag a.draws x0 x1
  have e9 := fun x0 x1 x2 => law39_bare.l9_at BIG BIG (BIG - 1) hN a.kind a.i a.k a.at' a.by' a.lo a.hi a.bag a.draws x0 x1 x2
  have e11 := fun x0 x1 x2 x3 => law39_bare.l11_at BIG BIG (BIG - 1) hN a.kind a.i a.k a.at' a.by' a.lo a.hi a.bag a.draws x0 x1 x2 x3
  have e13 := fun x0 x1 x2 x3 x4 x5 => law39_bare.l13_at BIG BIG (BIG - 1) hN a.kind a.i a.k a.at' a.by' a.lo a.hi a.bag a.draws x0 x1 x2 x3 x4 x5
  simp only [e5, e7, e9, e11, e13, law39_bare.b5, law39_bare.b7, law39_bare.b9, law39_bare.b11, law39_bare.b13]
  obtain ⟨kind, i, k, at', by', lo, hi, bag, draws⟩ := a
  simp only
  by_cases h : 1 ≤ kind ∧ kind ≤ 11
  · rw [if_pos h]
    have : kind = 1 ∨ kind = 2 ∨ kind = 3 ∨ kind = 4 ∨ kind = 5 ∨ kind = 6 ∨ kind = 7 ∨ kind = 8 ∨ kind = 9 ∨ kind = 10 ∨ kind = 11 := by omega
    rcases this with rfl | rfl | rfl | rfl | rfl | rfl | rfl | rfl | rfl | rfl | rfl <;> rfl
  · rw [if_neg h]
    by_cases h0 : kind < 1
    · simp [show ¬ (kind ≥ 1) by omega, show ¬ (1 ≤ kind) by omega, show ¬ (kind ≥ 9) by omega, show ¬ (9 ≤ kind) by omega, show ¬ (kind ≥ 4) by omega, show ¬ (4 ≤ kind) by omega, show ¬ kind = 7 by omega, show ¬ kind = 8 by omega, show ¬ kind = 1 by omega, show ¬ kind = 11 by omega, show ¬ kind = 3 by omega, tup, zero]
    · simp [show ¬ (kind ≤ 3) by omega, show ¬ (kind ≤ 11) by omega, show ¬ (kind ≤ 9) by omega, show ¬ kind = 7 by omega, show ¬ kind = 8 by omega, show ¬ kind = 1 by omega, show ¬ kind = 11 by omega, show ¬ kind = 3 by omega, tup, zero]
theorem Hex.pure (c : Int) (h0 : 0 ≤ c) (h1 : c ≤ 255) : law39_hex.f BIG c = some (bOf [Go.Say.hexD (c.toNat / 16), Go.Say.hexD (c.toNat % 16)]) := by
  have key : ∀ c : Fin 256, law39_hex.b ((c : Nat) : Int) = some (bOf [Go.Say.hexD ((c : Nat) / 16), Go.Say.hexD ((c : Nat) % 16)]) := by decide +kernel
  obtain ⟨n, rfl⟩ : ∃ n : Nat, c = n := ⟨c.toNat, by omega⟩
  exact key ⟨n, by omega⟩
theorem BSame.pure (a b : List (Int × List Int)) (ha : smallBag a) (hb : smallBag b) : bag_Same.f BIG a b = some (decide (a = b)) := by
  obtain ⟨c, h1, h2⟩ := BCmp.pure a b ha hb
  unfold bag_Same.f bag_Same.b
  simp only [veil_eq, h1]
  congr 1
  by_cases h : a = b
  · rw [decide_eq_true h, h2.2 h]; rfl
  · rw [decide_eq_false h]
    have : c ≠ 0 := fun e => h (h2.1 e)
    simpa using this
theorem Tiny.sb {a : Deed} (h : Tiny a) : smallBag a.bag := ⟨by have := h.bag; omega, fun f hf => by have := h.data f hf; omega⟩
theorem alike_loop (fuel : Nat) (x1 x2 x3 x4 x5 x6 x7 y1 y2 y3 y4 y5 y6 y7 : Int) (xb yb : List (Int × List Int)) (a b : List Int) (hl : a.length = b.length) (ha : a.length ≤ 1000000) : ∀ (n i k : Nat), i + n = a.length → n < k →
    law39_alike.l4 fuel x1 x2 x3 x4 x5 x6 x7 xb a y1 y2 y3 y4 y5 y6 y7 yb b k (i : Int) = some (decide (a.drop i = b.drop i)) := by
  intro n
  induction n with
  | zero =>
    intro i k hi hk
    rw [law39_alike.l4_at fuel k (k - 1) (by omega)]
    unfold law39_alike.b4
    rw [if_neg (by rw [decide_eq_true_eq]; omega), List.drop_of_length_le (by omega), List.drop_of_length_le (by omega)]
    simp
  | succ n ih =>
    intro i k hi hk
    rw [law39_alike.l4_at fuel k (k - 1) (by omega)]
    unfold law39_alike.b4
    have h1 : i < a.length := by omega
    have h2 : i < b.length := by omega
    rw [if_pos (by rw [decide_eq_true_eq]; omega), idx_at, idx_at, List.getElem?_eq_getElem h1, List.getElem?_eq_getElem h2]
    simp only
    rw [List.drop_eq_getElem_cons h1, List.drop_eq_getElem_cons h2]
    by_cases h : a[i] = b[i]
    · rw [if_neg (by simpa using h), wrap_small _ (by omega) (by omega), show ((i : Int) + 1) = ((i + 1 : Nat) : Int) by omega, ih (i + 1) (k - 1) (by omega) (by omega)]
      congr 1
      apply decide_eq_decide.2
      rw [h]
      exact ⟨fun e => by rw [e], fun e => (List.cons.inj e).2⟩
    · rw [if_pos (by simpa using h)]
      congr 1
      rw [eq_comm, decide_eq_false_iff_not]
      exact fun e => h (List.cons.inj e).1
noncomputable instance tupDec (a b : Deed) : Decidable (tup a = tup b) := Classical.propDecidable _
theorem Alike.pure (a b : Deed) (ha : smallBag a.bag) (hb : smallBag b.bag) (hd : a.draws.length ≤ 1000000) : law39_alike.f BIG a.kind a.i a.k a.at' a.by' a.lo a.hi a.bag a.draws b.kind b.i b.k b.at' b.by' b.lo b.hi b.bag b.draws = some (decide (tup a = tup b)) := by
  unfold law39_alike.f law39_alike.b
  simp only [veil_eq, BSame.pure _ _ ha hb]
  rw [law39_alike.l3_at BIG BIG (BIG - 1) big_eq]
  unfold law39_alike.b3
  have key : ∀ p : Prop, ∀ [Decidable p], (p → tup a ≠ tup b) → p → some false = some (decide (tup a = tup b)) := fun p _ h1 h2 => by rw [decide_eq_false (h1 h2)]
  by_cases h1 : a.kind = b.kind
  case neg => rw [if_pos (by simpa using h1)]; exact key _ (fun h e => h (congrArg (·.1) e)) h1
  rw [if_neg (by simpa using h1)]
  by_cases h2 : a.i = b.i
  case neg => rw [if_pos (by simpa using h2)]; exact key _ (fun h e => h (congrArg (·.2.1) e)) h2
  rw [if_neg (by simpa using h2)]
  by_cases h3 : a.k = b.k
  case neg => rw [if_pos (by simpa using h3)]; exact key _ (fun h e => h (congrArg (·.2.2.1) e)) h3
  rw [if_neg (by simpa using h3)]
  by_cases h4 : a.at' = b.at'
  case neg => rw [if_pos (by simpa using h4)]; exact key _ (fun h e => h (congrArg (·.2.2.2.1) e)) h4
  rw [if_neg (by simpa using h4)]
  by_cases h5 : a.by' = b.by'
  case neg => rw [if_pos (by simpa using h5)]; exact key _ (fun h e => h (congrArg (·.2.2.2.2.1) e)) h5
  rw [if_neg (by simpa using h5)]
  by_cases h6 : a.lo = b.lo
  case neg => rw [if_pos (by simpa using h6)]; exact key _ (fun h e => h (congrArg (·.2.2.2.2.2.1) e)) h6
  rw [if_neg (by simpa using h6)]
  by_cases h7 : a.hi = b.hi
  case neg => rw [if_pos (by simpa using h7)]; exact key _ (fun h e => h (congrArg (·.2.2.2.2.2.2.1) e)) h7
  rw [if_neg (by simpa using h7)]
  by_cases h8 : a.bag = b.bag
  case neg => rw [if_pos (by simpa using h8)]; exact key _ (fun h e => h (congrArg (·.2.2.2.2.2.2.2.1) e)) h8
  rw [if_neg (by simpa using h8)]
  by_cases h9 : a.draws.length = b.draws.length
  case neg => rw [if_pos (by simp only [bne_iff_ne, ne_eq]; omega)]; exact key _ (fun h e => h (congrArg List.length (congrArg (·.2.2.2.2.2.2.2.2) e))) h9
  rw [if_neg (by simp only [bne_iff_ne, ne_eq]; omega), show (0 : Int) = ((0 : Nat) : Int) from rfl, alike_loop BIG _ _ _ _ _ _ _ _ _ _ _ _ _ _ _ _ a.draws b.draws h9 hd a.draws.length 0 BIG (by omega) (by rw [BIG_eq]; omega)]
  congr 1
  apply decide_eq_decide.2
  unfold tup
  rw [h1, h2, h3, h4, h5, h6, h7, h8]
  simp
theorem app_bOf (x : ByteArray) (u v : Word) : x ++ bOf u ++ bOf v = x ++ bOf (u ++ v) := by
  apply lit_ext
  simp [bOf]
theorem app_nil (x : ByteArray) : x ++ bOf [] = x := by
  apply lit_ext
  simp [bOf]
theorem sp_eq : (⟨((32 :: ([] : List UInt8))).toArray⟩ : ByteArray) = bOf [32] := rfl
theorem co_eq : (⟨((58 :: ([] : List UInt8))).toArray⟩ : ByteArray) = bOf [58] := rfl
theorem da_eq : (⟨((45 :: ([] : List UInt8))).toArray⟩ : ByteArray) = bOf [45] := rfl
theorem itoa_len (v : Int) (h : i64R v) : (Go.Lib.itoa v).length ≤ 20 := itoaT_size v h
theorem Num2.pure (v : Int) (h : i64R v) : law39_num.f BIG v = some (bOf (Go.Lib.itoa v)) := Num.pure v h
def spw (w : Word) : Word := 32 :: w
theorem flat_len {α : Type} (f : α → Word) (B : Nat) : ∀ l : List α, (∀ x ∈ l, (f x).length ≤ B) → (l.flatMap f).length ≤ B * l.length
  | [], _ => by simp
  | x :: l, h => by
    have h1 := h x List.mem_cons_self
    have h2 := flat_len f B l fun y hy => h y (List.mem_cons_of_mem _ hy)
    rw [List.flatMap_cons, List.length_append, List.length_cons, Nat.mul_add]
    omega
theorem draws_loop (fuel : Nat) (hf : 1 ≤ fuel) (a : Deed) (ha : Tiny a) : ∀ (n i k : Nat) (x : ByteArray), i + n = a.draws.length → n < k → x.size ≤ 1000000000 + 100 * i →
    law39_line.l27 fuel a.kind a.i a.k a.at' a.by' a.lo a.hi a.bag a.draws k x (i : Int) = some (x ++ bOf ((a.draws.drop i).flatMap fun d => spw (Go.Lib.itoa d))) := by
  have hd := ha.draws
  intro n
  induction n with
  | zero =>
    intro i k x hi hk hx
    rw [law39_line.l27_at fuel k (k - 1) (by omega)]
    unfold law39_line.b27
    rw [if_neg (by rw [decide_eq_true_eq]; omega), law39_line.l30_at fuel fuel (fuel - 1) (by omega), List.drop_of_length_le (by omega), List.flatMap_nil, app_nil]
    rfl
  | succ n ih =>
    intro i k x hi hk hx
    rw [law39_line.l27_at fuel k (k - 1) (by omega)]
    unfold law39_line.b27
    have hil : i < a.draws.length := by omega
    have hr := ha.ok.draws _ (List.getElem_mem hil)
    have hlen := itoa_len _ hr
    rw [if_pos (by rw [decide_eq_true_eq]; omega), sp_eq, if_pos (by rw [bOf_size, List.length_singleton]; omega), idx_at, List.getElem?_eq_getElem hil]
    simp only [veil_eq]
    rw [Num2.pure _ hr]
    simp only
    rw [if_pos (by simp only [ByteArray.size_append, bOf_size, List.length_singleton]; omega), wrap_small _ (by omega) (by omega), show ((i : Int) + 1) = ((i + 1 : Nat) : Int) by omega, ih (i + 1) (k - 1) _ (by omega) (by omega) (by simp only [ByteArray.size_append, bOf_size, List.length_singleton]; omega), List.drop_eq_getElem_cons hil, List.flatMap_cons, app_bOf, app_bOf]
    rfl
theorem l25_eq (a : Deed) (ha : Tiny a) (x : ByteArray) (hx : x.size ≤ 1000000000) : law39_line.l25 BIG a.kind a.i a.k a.at' a.by' a.lo a.hi a.bag a.draws BIG x = some (x ++ bOf (if a.kind = 3 then a.draws.flatMap fun d => spw (Go.Lib.itoa d) else [])) := by
  rw [law39_line.l25_at BIG BIG (BIG - 1) big_eq]
  unfold law39_line.b25
  by_cases h : a.kind = 3
  · rw [if_pos (by simpa using h), if_pos h]
    have := draws_loop BIG (by rw [BIG_eq]; omega) a ha a.draws.length 0 BIG x (by omega) (by rw [BIG_eq]; have := ha.draws; omega) (by omega)
    rw [List.drop_zero] at this
    exact this
  · rw [if_neg (by simpa using h), if_neg h, law39_line.l30_at BIG BIG (BIG - 1) big_eq, app_nil]
    rfl
theorem hex_loop (fuel : Nat) (a : Deed) (A18 : ByteArray → Int → Option ByteArray) (i : Nat) (hi : i < a.bag.length) (hi2 : i ≤ 1000) (hd : a.bag[i].2.length ≤ 10000) (hb : ∀ c ∈ a.bag[i].2, 0 ≤ c ∧ c ≤ 255) : ∀ (n j k : Nat) (x : ByteArray), j + n = a.bag[i].2.length → n < k → x.size ≤ 10000000000 + 2 * j →
    law39_line.l22 BIG a.kind a.i a.k a.at' a.by' a.lo a.hi a.bag a.draws A18 k x (i : Int) (j : Int) = A18 (x ++ bOf (Go.Say.hexs (a.bag[i].2.drop j))) ((i + 1 : Nat) : Int) := by
  intro n
  induction n with
  | zero =>
    intro j k x hj hk hx
    rw [law39_line.l22_at BIG k (k - 1) (by omega)]
    unfold law39_line.b22
    rw [idx_at, List.getElem?_eq_getElem hi]
    simp only
    rw [if_neg (by rw [decide_eq_true_eq]; omega), List.drop_of_length_le (by omega), wrap_small _ (by omega) (by omega), show Go.Say.hexs [] = [] from rfl, app_nil]
    rfl
  | succ n ih =>
    intro j k x hj hk hx
    rw [law39_line.l22_at BIG k (k - 1) (by omega)]
    unfold law39_line.b22
    have hjl : j < a.bag[i].2.length := by omega
    have hc := hb _ (List.getElem_mem hjl)
    rw [idx_at, List.getElem?_eq_getElem hi]
    simp only
    rw [if_pos (by rw [decide_eq_true_eq]; omega), idx_at, List.getElem?_eq_getElem hjl]
    simp only [veil_eq]
    rw [Hex.pure _ hc.1 hc.2]
    simp only
    rw [if_pos (by simp only [bOf_size, List.length_cons, List.length_nil]; omega), wrap_small _ (by omega) (by omega), show ((j : Int) + 1) = ((j + 1 : Nat) : Int) by omega, ih (j + 1) (k - 1) _ (by omega) (by omega) (by simp only [ByteArray.size_append, bOf_size, List.length_cons, List.length_nil]; omega), List.drop_eq_getElem_cons hjl, app_bOf]
    rfl
theorem field_len (f : Int × List Int) (h : Go.Say.fieldOk f) (hd : f.2.length ≤ 10000) : (spw (Go.Say.fieldW f)).length ≤ 20022 := by
  have := itoa_len f.1 h.1
  have e := Go.Say.hexs_len f.2
  unfold spw Go.Say.fieldW
  simp only [List.length_cons, List.length_append, e]
  omega
end Go.Proofs.YthangnlmckeipaaGreatDoor
