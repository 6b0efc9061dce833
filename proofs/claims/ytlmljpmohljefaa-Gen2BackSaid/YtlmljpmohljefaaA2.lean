/- Printed by auto.py: law13_record, fit_Why_c1, octet_Writer_Raw, varint_Of, varint_Zig, rec_Find_c1, bag_one -/
import Derived.Test.YtlmljpmohljefaaTh
import Derived.Test.YtlmljpmohljefaaA0
import Derived.Test.YtlmljpmohljefaaA1
import Derived.Test.YtlmljpmohljefaaP4
set_option linter.unusedVariables false
set_option linter.unusedSimpArgs false
namespace Go.Proofs.Ytlmljpmohljefaa
open Go.Den
noncomputable def law13_record_E : Env := ⟨th, gam [(73, s_law13_rows), (74, s_law13_num), (86, s_recv)], fun i => if i = 8 then ⟨[2, 4, 8, 9], [(1518, 78, (.pair (.int .i64) (.sl (.int .u8))))], []⟩ else ⟨[], [], []⟩⟩
noncomputable def law13_record.k (rs : List AV) (os : List Den.Obj) : Option (Int × Int × Int × Int × Int × Bool × (List (Int × (List Int))) × Bool) :=
  match rs, os with
  | [.agg [.d (.int .i64) r0, .d (.int .i64) r1, .d (.int .i64) r2, .d (.int .i64) r3, .d (.int .i64) r4, .d .bool r5, .d (.sl (.pair (.int .i64) (.sl (.int .u8)))) r6], .d .bool r7], [] => some (r0, r1, r2, r3, r4, r5, r6, r7)
  | _, _ => none
noncomputable def law13_record.s8 (b : List Int) (x9 : (List (Int × (List Int)))) (x10 : Int) (x11 : Int) (x12 : Int) (x13 : Int) (x14 : Int) (x15 : Int) (x16 : Bool) (x17 : (List (Int × (List Int)))) : St := ⟨[.dead, .dead, .ptr 64 0, .dead, .d (.sl (.pair (.int .i64) (.sl (.int .u8)))) x9, .dead, .dead, .dead, .ptr 65 0, .d (.int .i64) x10, .dead, .dead, .dead, .dead, .dead, .dead, .dead, .dead, .dead, .dead, .dead, .dead, .dead, .dead, .dead, .dead, .dead, .dead, .dead, .dead, .dead, .dead, .dead, .dead, .dead, .dead, .dead, .dead, .dead, .dead, .dead, .dead, .dead, .dead, .dead, .dead, .dead, .dead, .dead, .dead, .dead, .dead, .dead, .dead, .dead, .dead, .dead, .dead, .dead, .dead, .dead, .dead, .dead, .dead, .dead, .dead, .dead, .dead], ofL [(64, .box [.d (.int .i64) (0), .d (.int .i64) (0), .d (.int .i64) (0), .d (.int .i64) (0), .d (.int .i64) (0), .d .bool (false), .nilsl]), (65, .box [.d (.int .i64) x11, .d (.int .i64) x12, .d (.int .i64) x13, .d (.int .i64) x14, .d (.int .i64) x15, .d .bool x16, .row 66]), (66, .row 78 (.pair (.int .i64) (.sl (.int .u8))) x17 false)], 0⟩
noncomputable def law13_record.b8 (b : List Int) (A8 : (List (Int × (List Int))) → Int → Int → Int → Int → Int → Int → Bool → (List (Int × (List Int))) → Option (Int × Int × Int × Int × Int × Bool × (List (Int × (List Int))) × Bool)) (x9 : (List (Int × (List Int)))) (x10 : Int) (x11 : Int) (x12 : Int) (x13 : Int) (x14 : Int) (x15 : Int) (x16 : Bool) (x17 : (List (Int × (List Int)))) : Option (Int × Int × Int × Int × Int × Bool × (List (Int × (List Int))) × Bool) :=
  (if (decide (x10 < ((((List.length x9)) : Nat) : Int))) then (match (idx x9 x10) with | none => none | some y18 => (if ((((List.length x17) + (List.length ((y18.1, y18.2) :: ([] : List (Int × (List Int)))))) * (32 : Nat)) ≤ lim) then A8 x9 (Go.IntKind.wrap .i64 (x10 + (1 : Int))) x11 x12 x13 x14 x15 x16 (x17 ++ ((y18.1, y18.2) :: ([] : List (Int × (List Int))))) else none)) else (if (smallBag x17) then some (x11, x12, x13, x14, x15, x16, x17, (recOk x11 x12 x13 x14 x15 x16 x17)) else none))
noncomputable def law13_record.l8 (fuel : Nat) (b : List Int) : Nat → (List (Int × (List Int))) → Int → Int → Int → Int → Int → Int → Bool → (List (Int × (List Int))) → Option (Int × Int × Int × Int × Int × Bool × (List (Int × (List Int))) × Bool)
  | 0, _, _, _, _, _, _, _, _, _ => none
  | k + 1, x9, x10, x11, x12, x13, x14, x15, x16, x17 => law13_record.b8 b (law13_record.l8 fuel b k) x9 x10 x11 x12 x13 x14 x15 x16 x17
noncomputable def law13_record.b (b : List Int) (E8 : (List (Int × (List Int))) → Int → Int → Int → Int → Int → Int → Bool → (List (Int × (List Int))) → Option (Int × Int × Int × Int × Int × Bool × (List (Int × (List Int))) × Bool)) : Option (Int × Int × Int × Int × Int × Bool × (List (Int × (List Int))) × Bool) :=
  (match (veil (law13_rows.f BIG b ((1 : Int) :: ((2 : Int) :: ((3 : Int) :: ((4 : Int) :: ([] : List Int))))) ((2 : Int) :: ((4 : Int) :: ((1 : Int) :: ((1 : Int) :: ([] : List Int))))))) with | none => none | some y0 => (if (!y0.2) then some (0, 0, 0, 0, 0, false, ([] : List (Int × (List Int))), false) else (match (idx y0.1 (2 : Int)) with | none => none | some y1 => (match (veil (law13_num.f BIG y1.2)) with | none => none | some y2 => (match (idx y0.1 (3 : Int)) with | none => none | some y3 => (match (veil (law13_num.f BIG y3.2)) with | none => none | some y4 => (match (idx y0.1 (0 : Int)) with | none => none | some y5 => (match (veil (law13_num.f BIG y5.2)) with | none => none | some y6 => (match (idx y0.1 (1 : Int)) with | none => none | some y7 => (match (veil (law13_num.f BIG y7.2)) with | none => none | some y8 => E8 y0.1 (4 : Int) y6 y8 (Int.tmod y2 (128 : Int)) (Go.IntKind.wrap .i64 (Int.tdiv y4 (16 : Int))) (Int.tmod y4 (16 : Int)) (decide (y2 ≥ (128 : Int))) ([] : List (Int × (List Int)))))))))))))
noncomputable def law13_record.f (fuel : Nat) (b : List Int) : Option (Int × Int × Int × Int × Int × Bool × (List (Int × (List Int))) × Bool) := law13_record.b b (law13_record.l8 fuel b fuel)
theorem law13_record.l8_eq (fuel : Nat) (b : List Int) : ∀ (k : Nat) (x9 : (List (Int × (List Int)))) (x10 : Int) (x11 : Int) (x12 : Int) (x13 : Int) (x14 : Int) (x15 : Int) (x16 : Bool) (x17 : (List (Int × (List Int)))), lp law13_record_E fuel Try.f75 [.dat (.pair (.int .i64) (.pair (.int .i64) (.pair (.int .i64) (.pair (.pair (.int .i64) (.int .i64)) (.pair .bool (.sl (.pair (.int .i64) (.sl (.int .u8))))))))) true, .raw] 0 law13_record.k 8 [] k (law13_record.s8 b x9 x10 x11 x12 x13 x14 x15 x16 x17) = law13_record.l8 fuel b k x9 x10 x11 x12 x13 x14 x15 x16 x17 := by
  intro k
  induction k with
  | zero => intro x9 x10 x11 x12 x13 x14 x15 x16 x17; rfl
  | succ k ih =>
    intro x9 x10 x11 x12 x13 x14 x15 x16 x17
    have h : lp law13_record_E fuel Try.f75 [.dat (.pair (.int .i64) (.pair (.int .i64) (.pair (.int .i64) (.pair (.pair (.int .i64) (.int .i64)) (.pair .bool (.sl (.pair (.int .i64) (.sl (.int .u8))))))))) true, .raw] 0 law13_record.k 8 [] (k + 1) (law13_record.s8 b x9 x10 x11 x12 x13 x14 x15 x16 x17) = law13_record.b8 b (fun x9 x10 x11 x12 x13 x14 x15 x16 x17 => lp law13_record_E fuel Try.f75 [.dat (.pair (.int .i64) (.pair (.int .i64) (.pair (.int .i64) (.pair (.pair (.int .i64) (.int .i64)) (.pair .bool (.sl (.pair (.int .i64) (.sl (.int .u8))))))))) true, .raw] 0 law13_record.k 8 [] k (law13_record.s8 b x9 x10 x11 x12 x13 x14 x15 x16 x17)) x9 x10 x11 x12 x13 x14 x15 x16 x17 := by kernel_rfl
    rw [h]
    have e8 : (fun x9 x10 x11 x12 x13 x14 x15 x16 x17 => lp law13_record_E fuel Try.f75 [.dat (.pair (.int .i64) (.pair (.int .i64) (.pair (.int .i64) (.pair (.pair (.int .i64) (.int .i64)) (.pair .bool (.sl (.pair (.int .i64) (.sl (.int .u8))))))))) true, .raw] 0 law13_record.k 8 [] k (law13_record.s8 b x9 x10 x11 x12 x13 x14 x15 x16 x17)) = law13_record.l8 fuel b k := (funext fun x9 => (funext fun x10 => (funext fun x11 => (funext fun x12 => (funext fun x13 => (funext fun x14 => (funext fun x15 => (funext fun x16 => (funext fun x17 => ih x9 x10 x11 x12 x13 x14 x15 x16 x17)))))))))
    rw [e8]
    rfl
theorem law13_record.eq (fuel : Nat) (b : List Int) : (denF law13_record_E loopN fuel Try.f75 [.dat (.pair (.int .i64) (.pair (.int .i64) (.pair (.int .i64) (.pair (.pair (.int .i64) (.int .i64)) (.pair .bool (.sl (.pair (.int .i64) (.sl (.int .u8))))))))) true, .raw] [.d (.sl (.int .u8)) b] [] law13_record.k) = law13_record.f fuel b := by
  have h : (denF law13_record_E loopN fuel Try.f75 [.dat (.pair (.int .i64) (.pair (.int .i64) (.pair (.int .i64) (.pair (.pair (.int .i64) (.int .i64)) (.pair .bool (.sl (.pair (.int .i64) (.sl (.int .u8))))))))) true, .raw] [.d (.sl (.int .u8)) b] [] law13_record.k) = law13_record.b b (fun x9 x10 x11 x12 x13 x14 x15 x16 x17 => lp law13_record_E fuel Try.f75 [.dat (.pair (.int .i64) (.pair (.int .i64) (.pair (.int .i64) (.pair (.pair (.int .i64) (.int .i64)) (.pair .bool (.sl (.pair (.int .i64) (.sl (.int .u8))))))))) true, .raw] 0 law13_record.k 8 [] fuel (law13_record.s8 b x9 x10 x11 x12 x13 x14 x15 x16 x17)) := by kernel_rfl
  rw [h]
  have e8 : (fun x9 x10 x11 x12 x13 x14 x15 x16 x17 => lp law13_record_E fuel Try.f75 [.dat (.pair (.int .i64) (.pair (.int .i64) (.pair (.int .i64) (.pair (.pair (.int .i64) (.int .i64)) (.pair .bool (.sl (.pair (.int .i64) (.sl (.int .u8))))))))) true, .raw] 0 law13_record.k 8 [] fuel (law13_record.s8 b x9 x10 x11 x12 x13 x14 x15 x16 x17)) = law13_record.l8 fuel b fuel := (funext fun x9 => (funext fun x10 => (funext fun x11 => (funext fun x12 => (funext fun x13 => (funext fun x14 => (funext fun x15 => (funext fun x16 => (funext fun x17 => law13_record.l8_eq fuel b fuel x9 x10 x11 x12 x13 x14 x15 x16 x17)))))))))
  rw [e8]
  rfl

noncomputable def s_law13_record : Den.Sum := ⟨[.dat (.sl (.int .u8)) false], fun args objs κ => match args, objs with
  | [.d (.sl (.int .u8)) b], [] => (match veil (law13_record.f BIG b) with | none => none | some y => κ [.agg [.d (.int .i64) y.1, .d (.int .i64) y.2.1, .d (.int .i64) y.2.2.1, .d (.int .i64) y.2.2.2.1, .d (.int .i64) y.2.2.2.2.1, .d .bool y.2.2.2.2.2.1, .d (.sl (.pair (.int .i64) (.sl (.int .u8)))) y.2.2.2.2.2.2.1], .d .bool y.2.2.2.2.2.2.2] [])
  | _, _ => none⟩
theorem s_law13_record_det : SumDet s_law13_record := fun avs objs R κ => by
  show s_law13_record.run avs objs (two κ) = (s_law13_record.run avs objs (two some)).bind κ
  unfold s_law13_record
  simp only [veil_eq]
  split
  · split <;> rfl
  · rfl
theorem s_law13_record_ok : SumOk Try.prog 75 s_law13_record := by
  have hE : EnvOk Try.prog law13_record_E := env_ok (l := [(73, s_law13_rows), (74, s_law13_num), (86, s_recv)]) th_ok any_ok ⟨⟨s_law13_rows_ok, s_law13_rows_det⟩, ⟨s_law13_num_ok, s_law13_num_det⟩, ⟨s_recv_ok, s_recv_det⟩, trivial⟩ _
  refine sum_ok hE Try.func75 rfl (by kernel_rfl) s_law13_record [.dat (.pair (.int .i64) (.pair (.int .i64) (.pair (.int .i64) (.pair (.pair (.int .i64) (.int .i64)) (.pair .bool (.sl (.pair (.int .i64) (.sl (.int .u8))))))))) true, .raw] law13_record.k ?_
  intro R avs objs κ r h
  unfold s_law13_record at h
  simp only [veil_eq] at h
  split at h
  · rename_i b
    split at h
    · cases h
    · rename_i y hy
      refine ⟨BIG, _, _, _, (law13_record.eq BIG b).trans hy, ?_, h⟩
      intro rs ros hk
      unfold law13_record.k at hk
      split at hk
      · first | (cases hk; exact ⟨rfl, rfl⟩) | (have e := Option.some.inj hk; rw [← e]; exact ⟨rfl, rfl⟩)
      · cases hk
  · cases h
noncomputable def fit_Why_c1_E : Env := ⟨th, gam [], fun i => ⟨[], [], []⟩⟩
noncomputable def fit_Why_c1.k (rs : List AV) (os : List Den.Obj) : Option (List Int) :=
  match rs, os with
  | [], [.box [.row 2], .gone, .row 46 (.int .i64) r0 false] => some r0
  | _, _ => none
noncomputable def fit_Why_c1.b (is0 : Bool) (r0 : Int) (l : List Int) : Option (List Int) :=
  (if is0 then (if ((((List.length l) + (List.length (r0 :: ([] : List Int)))) * (8 : Nat)) ≤ lim) then some ((l ++ (r0 :: ([] : List Int)))) else none) else some (l))
noncomputable def fit_Why_c1.f (fuel : Nat) (is0 : Bool) (r0 : Int) (l : List Int) : Option (List Int) := fit_Why_c1.b is0 r0 l
theorem fit_Why_c1.eq (fuel : Nat) (is0 : Bool) (r0 : Int) (l : List Int) : (denF fit_Why_c1_E loopN fuel Try.f78 [.pb [.own (some 0) [] 0 46 (.int .i64) true, .kill 1]] [.d .bool is0, .d (.int .i64) r0, .ptr 0 0] [.box [.row 1], .row 46 (.int .i64) l false] fit_Why_c1.k) = fit_Why_c1.f fuel is0 r0 l := by
  kernel_rfl

noncomputable def s_fit_Why_c1 : Den.Sum := ⟨[.raw, .raw, .pb [.own none [] 0 46 (.int .i64) false]], fun args objs κ => match args, objs with
  | [.d .bool is0, .d (.int .i64) r0, .ptr 0 0], [.box [.row 1], .row 46 (.int .i64) l false] => (match veil (fit_Why_c1.f BIG is0 r0 l) with | none => none | some y => κ [] [.box [.row 2], .gone, .row 46 (.int .i64) y false])
  | _, _ => none⟩
theorem s_fit_Why_c1_det : SumDet s_fit_Why_c1 := fun avs objs R κ => by
  show s_fit_Why_c1.run avs objs (two κ) = (s_fit_Why_c1.run avs objs (two some)).bind κ
  unfold s_fit_Why_c1
  simp only [veil_eq]
  split
  · split <;> rfl
  · rfl
theorem s_fit_Why_c1_ok : SumOk Try.prog 78 s_fit_Why_c1 := by
  have hE : EnvOk Try.prog fit_Why_c1_E := env_ok (l := []) th_ok any_ok trivial _
  refine sum_ok hE Try.func78 rfl (by kernel_rfl) s_fit_Why_c1 [.pb [.own (some 0) [] 0 46 (.int .i64) true, .kill 1]] fit_Why_c1.k ?_
  intro R avs objs κ r h
  unfold s_fit_Why_c1 at h
  simp only [veil_eq] at h
  split at h
  · rename_i is0 r0 l
    split at h
    · cases h
    · rename_i y hy
      refine ⟨BIG, _, _, _, (fit_Why_c1.eq BIG is0 r0 l).trans hy, ?_, h⟩
      intro rs ros hk
      unfold fit_Why_c1.k at hk
      split at hk
      · first | (cases hk; exact ⟨rfl, rfl⟩) | (have e := Option.some.inj hk; rw [← e]; exact ⟨rfl, rfl⟩)
      · cases hk
  · cases h
noncomputable def octet_Writer_Raw_E : Env := ⟨th, gam [], fun i => ⟨[], [], []⟩⟩
noncomputable def octet_Writer_Raw.k (rs : List AV) (os : List Den.Obj) : Option (List Int) :=
  match rs, os with
  | [.ptr 0 0], [.box [.row 2, .d .bool false], .gone, .row 5 (.int .u8) r0 false] => some r0
  | _, _ => none
noncomputable def octet_Writer_Raw.b (l : List Int) (b : List Int) : Option (List Int) :=
  (if ((((List.length l) + (List.length b)) * (1 : Nat)) ≤ lim) then some ((l ++ b)) else none)
noncomputable def octet_Writer_Raw.f (fuel : Nat) (l : List Int) (b : List Int) : Option (List Int) := octet_Writer_Raw.b l b
theorem octet_Writer_Raw.eq (fuel : Nat) (l : List Int) (b : List Int) : (denF octet_Writer_Raw_E loopN fuel Try.f97 [.raw, .pb [.own (some 0) [] 0 5 (.int .u8) true, .kill 1]] [.ptr 0 0, .d (.sl (.int .u8)) b] [.box [.row 1, .d .bool false], .row 5 (.int .u8) l false] octet_Writer_Raw.k) = octet_Writer_Raw.f fuel l b := by
  kernel_rfl

noncomputable def s_octet_Writer_Raw : Den.Sum := ⟨[.pb [.own none [] 0 5 (.int .u8) false], .dat (.sl (.int .u8)) false], fun args objs κ => match args, objs with
  | [.ptr 0 0, .d (.sl (.int .u8)) b], [.box [.row 1, .d .bool false], .row 5 (.int .u8) l false] => (match veil (octet_Writer_Raw.f BIG l b) with | none => none | some y => κ [.ptr 0 0] [.box [.row 2, .d .bool false], .gone, .row 5 (.int .u8) y false])
  | _, _ => none⟩
theorem s_octet_Writer_Raw_det : SumDet s_octet_Writer_Raw := fun avs objs R κ => by
  show s_octet_Writer_Raw.run avs objs (two κ) = (s_octet_Writer_Raw.run avs objs (two some)).bind κ
  unfold s_octet_Writer_Raw
  simp only [veil_eq]
  split
  · split <;> rfl
  · rfl
theorem s_octet_Writer_Raw_ok : SumOk Try.prog 97 s_octet_Writer_Raw := by
  have hE : EnvOk Try.prog octet_Writer_Raw_E := env_ok (l := []) th_ok any_ok trivial _
  refine sum_ok hE Try.func97 rfl (by kernel_rfl) s_octet_Writer_Raw [.raw, .pb [.own (some 0) [] 0 5 (.int .u8) true, .kill 1]] octet_Writer_Raw.k ?_
  intro R avs objs κ r h
  unfold s_octet_Writer_Raw at h
  simp only [veil_eq] at h
  split at h
  · rename_i b l
    split at h
    · cases h
    · rename_i y hy
      refine ⟨BIG, _, _, _, (octet_Writer_Raw.eq BIG l b).trans hy, ?_, h⟩
      intro rs ros hk
      unfold octet_Writer_Raw.k at hk
      split at hk
      · first | (cases hk; exact ⟨rfl, rfl⟩) | (have e := Option.some.inj hk; rw [← e]; exact ⟨rfl, rfl⟩)
      · cases hk
  · cases h
noncomputable def varint_Of_E : Env := ⟨th, gam [], fun i => if i = 2 then ⟨[0, 3], [(3, 5, (.int .u8))], []⟩ else ⟨[], [], []⟩⟩
noncomputable def varint_Of.k (rs : List AV) (os : List Den.Obj) : Option (List Int) :=
  match rs, os with
  | [.row 0], [.row 5 (.int .u8) r0 false] => some r0
  | _, _ => none
noncomputable def varint_Of.s2 (v : Int) (x0 : Int) (x1 : (List Int)) : St := ⟨[.d (.int .u64) x0, .dead, .dead, .row 64, .dead, .dead, .dead, .dead, .dead, .dead, .dead, .dead, .dead, .dead, .dead, .dead, .dead, .dead, .dead], ofL [(64, .row 5 (.int .u8) x1 false)], 0⟩
noncomputable def varint_Of.b2 (v : Int) (A2 : Int → (List Int) → Option (List Int)) (x0 : Int) (x1 : (List Int)) : Option (List Int) :=
  (if (decide (x0 ≥ (128 : Int))) then (if ((((List.length x1) + (List.length ((bits Go.BinOp.or .u8 (Go.IntKind.wrap .u8 x0) (128 : Int)) :: ([] : List Int)))) * (1 : Nat)) ≤ lim) then A2 (Int.fdiv x0 ((2 : Int) ^ (Min.min (Int.toNat (7 : Int)) (Go.IntKind.bits .u64)))) (x1 ++ ((bits Go.BinOp.or .u8 (Go.IntKind.wrap .u8 x0) (128 : Int)) :: ([] : List Int))) else none) else (if ((((List.length x1) + (List.length ((Go.IntKind.wrap .u8 x0) :: ([] : List Int)))) * (1 : Nat)) ≤ lim) then some ((x1 ++ ((Go.IntKind.wrap .u8 x0) :: ([] : List Int)))) else none))
noncomputable def varint_Of.l2 (fuel : Nat) (v : Int) : Nat → Int → (List Int) → Option (List Int)
  | 0, _, _ => none
  | k + 1, x0, x1 => varint_Of.b2 v (varint_Of.l2 fuel v k) x0 x1
noncomputable def varint_Of.b (v : Int) (E2 : Int → (List Int) → Option (List Int)) : Option (List Int) :=
  E2 v ([] : List Int)
noncomputable def varint_Of.f (fuel : Nat) (v : Int) : Option (List Int) := varint_Of.b v (varint_Of.l2 fuel v fuel)
theorem varint_Of.l2_eq (fuel : Nat) (v : Int) : ∀ (k : Nat) (x0 : Int) (x1 : (List Int)), lp varint_Of_E fuel Try.f98 [.own 5 (.int .u8)] 0 varint_Of.k 2 [] k (varint_Of.s2 v x0 x1) = varint_Of.l2 fuel v k x0 x1 := by
  intro k
  induction k with
  | zero => intro x0 x1; rfl
  | succ k ih =>
    intro x0 x1
    have h : lp varint_Of_E fuel Try.f98 [.own 5 (.int .u8)] 0 varint_Of.k 2 [] (k + 1) (varint_Of.s2 v x0 x1) = varint_Of.b2 v (fun x0 x1 => lp varint_Of_E fuel Try.f98 [.own 5 (.int .u8)] 0 varint_Of.k 2 [] k (varint_Of.s2 v x0 x1)) x0 x1 := by kernel_rfl
    rw [h]
    have e2 : (fun x0 x1 => lp varint_Of_E fuel Try.f98 [.own 5 (.int .u8)] 0 varint_Of.k 2 [] k (varint_Of.s2 v x0 x1)) = varint_Of.l2 fuel v k := (funext fun x0 => (funext fun x1 => ih x0 x1))
    rw [e2]
    rfl
theorem varint_Of.eq (fuel : Nat) (v : Int) : (denF varint_Of_E loopN fuel Try.f98 [.own 5 (.int .u8)] [.d (.int .u64) v] [] varint_Of.k) = varint_Of.f fuel v := by
  have h : (denF varint_Of_E loopN fuel Try.f98 [.own 5 (.int .u8)] [.d (.int .u64) v] [] varint_Of.k) = varint_Of.b v (fun x0 x1 => lp varint_Of_E fuel Try.f98 [.own 5 (.int .u8)] 0 varint_Of.k 2 [] fuel (varint_Of.s2 v x0 x1)) := by kernel_rfl
  rw [h]
  have e2 : (fun x0 x1 => lp varint_Of_E fuel Try.f98 [.own 5 (.int .u8)] 0 varint_Of.k 2 [] fuel (varint_Of.s2 v x0 x1)) = varint_Of.l2 fuel v fuel := (funext fun x0 => (funext fun x1 => varint_Of.l2_eq fuel v fuel x0 x1))
  rw [e2]
  rfl

noncomputable def s_varint_Of : Den.Sum := ⟨[.raw], fun args objs κ => match args, objs with
  | [.d (.int .u64) v], [] => (match veil (varint_Of.f BIG v) with | none => none | some y => κ [.row 0] [.row 5 (.int .u8) y false])
  | _, _ => none⟩
theorem s_varint_Of_det : SumDet s_varint_Of := fun avs objs R κ => by
  show s_varint_Of.run avs objs (two κ) = (s_varint_Of.run avs objs (two some)).bind κ
  unfold s_varint_Of
  simp only [veil_eq]
  split
  · split <;> rfl
  · rfl
theorem s_varint_Of_ok : SumOk Try.prog 98 s_varint_Of := by
  have hE : EnvOk Try.prog varint_Of_E := env_ok (l := []) th_ok any_ok trivial _
  refine sum_ok hE Try.func98 rfl (by kernel_rfl) s_varint_Of [.own 5 (.int .u8)] varint_Of.k ?_
  intro R avs objs κ r h
  unfold s_varint_Of at h
  simp only [veil_eq] at h
  split at h
  · rename_i v
    split at h
    · cases h
    · rename_i y hy
      refine ⟨BIG, _, _, _, (varint_Of.eq BIG v).trans hy, ?_, h⟩
      intro rs ros hk
      unfold varint_Of.k at hk
      split at hk
      · first | (cases hk; exact ⟨rfl, rfl⟩) | (have e := Option.some.inj hk; rw [← e]; exact ⟨rfl, rfl⟩)
      · cases hk
  · cases h
noncomputable def varint_Zig_E : Env := ⟨th, gam [], fun i => ⟨[], [], []⟩⟩
noncomputable def varint_Zig.k (rs : List AV) (os : List Den.Obj) : Option Int :=
  match rs, os with
  | [.d (.int .u64) r0], [] => some r0
  | _, _ => none
noncomputable def varint_Zig.b (n : Int) : Option Int :=
  some ((bits Go.BinOp.xor .u64 (Go.IntKind.wrap .u64 ((Go.IntKind.wrap .u64 n) * ((2 : Int) ^ (Min.min (Int.toNat (1 : Int)) (Go.IntKind.bits .u64))))) (Go.IntKind.wrap .u64 (Int.fdiv n ((2 : Int) ^ (Min.min (Int.toNat (63 : Int)) (Go.IntKind.bits .i64)))))))
noncomputable def varint_Zig.f (fuel : Nat) (n : Int) : Option Int := varint_Zig.b n
theorem varint_Zig.eq (fuel : Nat) (n : Int) : (denF varint_Zig_E loopN fuel Try.f100 [.raw] [.d (.int .i64) n] [] varint_Zig.k) = varint_Zig.f fuel n := by
  kernel_rfl

noncomputable def s_varint_Zig : Den.Sum := ⟨[.raw], fun args objs κ => match args, objs with
  | [.d (.int .i64) n], [] => (match veil (varint_Zig.f BIG n) with | none => none | some y => κ [.d (.int .u64) y] [])
  | _, _ => none⟩
theorem s_varint_Zig_det : SumDet s_varint_Zig := fun avs objs R κ => by
  show s_varint_Zig.run avs objs (two κ) = (s_varint_Zig.run avs objs (two some)).bind κ
  unfold s_varint_Zig
  simp only [veil_eq]
  split
  · split <;> rfl
  · rfl
theorem s_varint_Zig_ok : SumOk Try.prog 100 s_varint_Zig := by
  have hE : EnvOk Try.prog varint_Zig_E := env_ok (l := []) th_ok any_ok trivial _
  refine sum_ok hE Try.func100 rfl (by kernel_rfl) s_varint_Zig [.raw] varint_Zig.k ?_
  intro R avs objs κ r h
  unfold s_varint_Zig at h
  simp only [veil_eq] at h
  split at h
  · rename_i n
    split at h
    · cases h
    · rename_i y hy
      refine ⟨BIG, _, _, _, (varint_Zig.eq BIG n).trans hy, ?_, h⟩
      intro rs ros hk
      unfold varint_Zig.k at hk
      split at hk
      · first | (cases hk; exact ⟨rfl, rfl⟩) | (have e := Option.some.inj hk; rw [← e]; exact ⟨rfl, rfl⟩)
      · cases hk
  · cases h
noncomputable def rec_Find_c1_E : Env := ⟨th, gam [], fun i => ⟨[], [], []⟩⟩
noncomputable def rec_Find_c1.k (rs : List AV) (os : List Den.Obj) : Option (Bool × Int) :=
  match rs, os with
  | [.d .bool r0], [.box [.d (.int .i64) r1]] => some (r0, r1)
  | _, _ => none
noncomputable def rec_Find_c1.b (r0ID : Int) (r0Inc : Int) (r0Status : Int) (r0SpanLo : Int) (r0SpanHi : Int) (r0Cut : Bool) (r0Bag : List (Int × List Int)) (id0 : Int) : Option (Bool × Int) :=
  some ((r0ID == id0), id0)
noncomputable def rec_Find_c1.f (fuel : Nat) (r0ID : Int) (r0Inc : Int) (r0Status : Int) (r0SpanLo : Int) (r0SpanHi : Int) (r0Cut : Bool) (r0Bag : List (Int × List Int)) (id0 : Int) : Option (Bool × Int) := rec_Find_c1.b r0ID r0Inc r0Status r0SpanLo r0SpanHi r0Cut r0Bag id0
theorem rec_Find_c1.eq (fuel : Nat) (r0ID : Int) (r0Inc : Int) (r0Status : Int) (r0SpanLo : Int) (r0SpanHi : Int) (r0Cut : Bool) (r0Bag : List (Int × List Int)) (id0 : Int) : (denF rec_Find_c1_E loopN fuel Try.f102 [.raw] [.agg [.d (.int .i64) r0ID, .d (.int .i64) r0Inc, .d (.int .i64) r0Status, .d (.int .i64) r0SpanLo, .d (.int .i64) r0SpanHi, .d .bool r0Cut, .d (.sl (.pair (.int .i64) (.sl (.int .u8)))) r0Bag], .ptr 0 0] [.box [.d (.int .i64) id0]] rec_Find_c1.k) = rec_Find_c1.f fuel r0ID r0Inc r0Status r0SpanLo r0SpanHi r0Cut r0Bag id0 := by
  kernel_rfl

noncomputable def s_rec_Find_c1 : Den.Sum := ⟨[.dat (.pair (.int .i64) (.pair (.int .i64) (.pair (.int .i64) (.pair (.pair (.int .i64) (.int .i64)) (.pair .bool (.sl (.pair (.int .i64) (.sl (.int .u8))))))))) true, .raw], fun args objs κ => match args, objs with
  | [.agg [.d (.int .i64) r0ID, .d (.int .i64) r0Inc, .d (.int .i64) r0Status, .d (.int .i64) r0SpanLo, .d (.int .i64) r0SpanHi, .d .bool r0Cut, .d (.sl (.pair (.int .i64) (.sl (.int .u8)))) r0Bag], .ptr 0 0], [.box [.d (.int .i64) id0]] => (match veil (rec_Find_c1.f BIG r0ID r0Inc r0Status r0SpanLo r0SpanHi r0Cut r0Bag id0) with | none => none | some y => κ [.d .bool y.1] [.box [.d (.int .i64) y.2]])
  | _, _ => none⟩
theorem s_rec_Find_c1_det : SumDet s_rec_Find_c1 := fun avs objs R κ => by
  show s_rec_Find_c1.run avs objs (two κ) = (s_rec_Find_c1.run avs objs (two some)).bind κ
  unfold s_rec_Find_c1
  simp only [veil_eq]
  split
  · split <;> rfl
  · rfl
theorem s_rec_Find_c1_ok : SumOk Try.prog 102 s_rec_Find_c1 := by
  have hE : EnvOk Try.prog rec_Find_c1_E := env_ok (l := []) th_ok any_ok trivial _
  refine sum_ok hE Try.func102 rfl (by kernel_rfl) s_rec_Find_c1 [.raw] rec_Find_c1.k ?_
  intro R avs objs κ r h
  unfold s_rec_Find_c1 at h
  simp only [veil_eq] at h
  split at h
  · rename_i r0ID r0Inc r0Status r0SpanLo r0SpanHi r0Cut r0Bag id0
    split at h
    · cases h
    · rename_i y hy
      refine ⟨BIG, _, _, _, (rec_Find_c1.eq BIG r0ID r0Inc r0Status r0SpanLo r0SpanHi r0Cut r0Bag id0).trans hy, ?_, h⟩
      intro rs ros hk
      unfold rec_Find_c1.k at hk
      split at hk
      · first | (cases hk; exact ⟨rfl, rfl⟩) | (have e := Option.some.inj hk; rw [← e]; exact ⟨rfl, rfl⟩)
      · cases hk
  · cases h
noncomputable def bag_one_E : Env := ⟨th, gam [], fun i => ⟨[], [], []⟩⟩
noncomputable def bag_one.k (rs : List AV) (os : List Den.Obj) : Option (Int × (List Int)) :=
  match rs, os with
  | [.agg [.d (.int .i64) r0, .d (.sl (.int .u8)) r1]], [] => some (r0, r1)
  | _, _ => none
noncomputable def bag_one.b (fTag : Int) (fData : List Int) : Option (Int × (List Int)) :=
  (if (((0 : Int) ≤ ((((List.length fData)) : Nat) : Int)) ∧ ((((((List.length fData)) : Nat) : Int) ≤ ((((List.length fData)) : Nat) : Int)) ∧ (((((((List.length fData)) : Nat) : Int) * ((((1 : Nat)) : Nat) : Int)) ≤ (1099511627776 : Int)) ∧ (((((List.length fData)) : Nat) : Int) ≤ (1099511627776 : Int))))) then (if ((false = false) ∧ ((List.length fData) ≤ (List.length (List.replicate (Int.toNat ((((List.length fData)) : Nat) : Int)) (zeroI (Go.Den.Ty.int .u8)))))) then some (fTag, (fData ++ (List.drop (List.length fData) (List.replicate (Int.toNat ((((List.length fData)) : Nat) : Int)) (zeroI (Go.Den.Ty.int .u8)))))) else none) else none)
noncomputable def bag_one.f (fuel : Nat) (fTag : Int) (fData : List Int) : Option (Int × (List Int)) := bag_one.b fTag fData
theorem bag_one.eq (fuel : Nat) (fTag : Int) (fData : List Int) : (denF bag_one_E loopN fuel Try.f107 [.dat (.pair (.int .i64) (.sl (.int .u8))) true] [.agg [.d (.int .i64) fTag, .d (.sl (.int .u8)) fData]] [] bag_one.k) = bag_one.f fuel fTag fData := by
  kernel_rfl

noncomputable def s_bag_one : Den.Sum := ⟨[.dat (.pair (.int .i64) (.sl (.int .u8))) true], fun args objs κ => match args, objs with
  | [.agg [.d (.int .i64) fTag, .d (.sl (.int .u8)) fData]], [] => (match veil (bag_one.f BIG fTag fData) with | none => none | some y => κ [.agg [.d (.int .i64) y.1, .d (.sl (.int .u8)) y.2]] [])
  | _, _ => none⟩
theorem s_bag_one_det : SumDet s_bag_one := fun avs objs R κ => by
  show s_bag_one.run avs objs (two κ) = (s_bag_one.run avs objs (two some)).bind κ
  unfold s_bag_one
  simp only [veil_eq]
  split
  · split <;> rfl
  · rfl
theorem s_bag_one_ok : SumOk Try.prog 107 s_bag_one := by
  have hE : EnvOk Try.prog bag_one_E := env_ok (l := []) th_ok any_ok trivial _
  refine sum_ok hE Try.func107 rfl (by kernel_rfl) s_bag_one [.dat (.pair (.int .i64) (.sl (.int .u8))) true] bag_one.k ?_
  intro R avs objs κ r h
  unfold s_bag_one at h
  simp only [veil_eq] at h
  split at h
  · rename_i fTag fData
    split at h
    · cases h
    · rename_i y hy
      refine ⟨BIG, _, _, _, (bag_one.eq BIG fTag fData).trans hy, ?_, h⟩
      intro rs ros hk
      unfold bag_one.k at hk
      split at hk
      · first | (cases hk; exact ⟨rfl, rfl⟩) | (have e := Option.some.inj hk; rw [← e]; exact ⟨rfl, rfl⟩)
      · cases hk
  · cases h
end Go.Proofs.Ytlmljpmohljefaa
