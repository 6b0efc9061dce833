/- Printed by auto.py: law13_Gen2Reads, rec_clone -/
import Derived.Test.YtlmljpmohljefaaTh
import Derived.Test.YtlmljpmohljefaaA0
import Derived.Test.YtlmljpmohljefaaA3
import Derived.Test.YtlmljpmohljefaaP4
set_option linter.unusedVariables false
set_option linter.unusedSimpArgs false
set_option maxRecDepth 100000
namespace Go.Proofs.Ytlmljpmohljefaa
open Go.Den
noncomputable def law13_Gen2Reads_E : Env := ⟨th, gam [(24, s_alike10), (25, s_awake13), (31, s_dec2b), (32, s_law13_Message)], fun i => ⟨[], [], []⟩⟩
noncomputable def law13_Gen2Reads.k (rs : List AV) (os : List Den.Obj) : Option Bool :=
  match rs, os with
  | [.d .bool r0], [] => some r0
  | _, _ => none
noncomputable def law13_Gen2Reads.b (b : List Int) : Option Bool :=
  (if (decide (((((List.length b)) : Nat) : Int) > (400 : Int))) then some (true) else (if (inS b) then (match (veil (Option.some (decF2 b))) with | none => none | some y0 => (match (veil (law13_Message.f BIG b)) with | none => none | some y1 => (if (!y1.2.2.2.2.2.2.2.2.2.2.2) then (if (y0.2.2.2.2.2.2.2.2 == (4 : Int)) then (if ((smallRecs y0.2.2.2.2.2.2.2.1) && (smallRecs ([] : List (Int × (Int × (Int × ((Int × Int) × (Bool × (List (Int × (List Int))))))))))) then (if ((y0.1 == 0) && ((y0.2.1 == 0) && ((y0.2.2.1 == 0) && ((y0.2.2.2.1 == 0) && ((y0.2.2.2.2.1 == 0) && ((y0.2.2.2.2.2.1 == 0) && ((y0.2.2.2.2.2.2.1 == 0) && ((0 == 0) && ((0 == 0) && ((0 == 0) && (allGo y0.2.2.2.2.2.2.2.1 ([] : List (Int × (Int × (Int × ((Int × Int) × (Bool × (List (Int × (List Int)))))))))))))))))))) then some (true) else some (false)) else none) else some (false)) else (if (y0.2.2.2.2.2.2.2.2 == (0 : Int)) then (if ((smallRecs y0.2.2.2.2.2.2.2.1) && (smallRecs y1.2.2.2.2.2.2.2.2.2.2.1)) then (if ((y0.1 == y1.1) && ((y0.2.1 == y1.2.1) && ((y0.2.2.1 == y1.2.2.1) && ((y0.2.2.2.1 == y1.2.2.2.1) && ((y0.2.2.2.2.1 == y1.2.2.2.2.1) && ((y0.2.2.2.2.2.1 == y1.2.2.2.2.2.1) && ((y0.2.2.2.2.2.2.1 == y1.2.2.2.2.2.2.1) && ((0 == y1.2.2.2.2.2.2.2.1) && ((0 == y1.2.2.2.2.2.2.2.2.1) && ((0 == y1.2.2.2.2.2.2.2.2.2.1) && (allGo y0.2.2.2.2.2.2.2.1 y1.2.2.2.2.2.2.2.2.2.2.1))))))))))) then some (true) else some (false)) else none) else some (false))))) else none))
noncomputable def law13_Gen2Reads.f (fuel : Nat) (b : List Int) : Option Bool := law13_Gen2Reads.b b
theorem law13_Gen2Reads.eq (fuel : Nat) (b : List Int) : (denF law13_Gen2Reads_E loopN fuel Try.f9 [.raw] [.d (.sl (.int .u8)) b] [] law13_Gen2Reads.k) = law13_Gen2Reads.f fuel b := by
  kernel_rfl

noncomputable def s_law13_Gen2Reads : Den.Sum := ⟨[.dat (.sl (.int .u8)) false], fun args objs κ => match args, objs with
  | [.d (.sl (.int .u8)) b], [] => (match veil (law13_Gen2Reads.f BIG b) with | none => none | some y => κ [.d .bool y] [])
  | _, _ => none⟩
theorem s_law13_Gen2Reads_det : SumDet s_law13_Gen2Reads := fun avs objs R κ => by
  show s_law13_Gen2Reads.run avs objs (two κ) = (s_law13_Gen2Reads.run avs objs (two some)).bind κ
  unfold s_law13_Gen2Reads
  simp only [veil_eq]
  split
  · split <;> rfl
  · rfl
theorem s_law13_Gen2Reads_ok : SumOk Try.prog 9 s_law13_Gen2Reads := by
  have hE : EnvOk Try.prog law13_Gen2Reads_E := env_ok (l := [(24, s_alike10), (25, s_awake13), (31, s_dec2b), (32, s_law13_Message)]) th_ok any_ok ⟨⟨s_alike10_ok, s_alike10_det⟩, ⟨s_awake13_ok, s_awake13_det⟩, ⟨s_dec2b_ok, s_dec2b_det⟩, ⟨s_law13_Message_ok, s_law13_Message_det⟩, trivial⟩ _
  refine sum_ok hE Try.func9 rfl (by kernel_rfl) s_law13_Gen2Reads [.raw] law13_Gen2Reads.k ?_
  intro R avs objs κ r h
  unfold s_law13_Gen2Reads at h
  simp only [veil_eq] at h
  split at h
  · rename_i b
    split at h
    · cases h
    · rename_i y hy
      refine ⟨BIG, _, _, _, (law13_Gen2Reads.eq BIG b).trans hy, ?_, h⟩
      intro rs ros hk
      unfold law13_Gen2Reads.k at hk
      split at hk
      · first | (cases hk; exact ⟨rfl, rfl⟩) | (have e := Option.some.inj hk; rw [← e]; exact ⟨rfl, rfl⟩)
      · cases hk
  · cases h
noncomputable def rec_clone_E : Env := ⟨th, gam [(105, s_bag_Copy)], fun i => ⟨[], [], []⟩⟩
noncomputable def rec_clone.k (rs : List AV) (os : List Den.Obj) : Option (Int × Int × Int × Int × Int × Bool × (List (Int × (List Int)))) :=
  match rs, os with
  | [.agg [.d (.int .i64) r0, .d (.int .i64) r1, .d (.int .i64) r2, .d (.int .i64) r3, .d (.int .i64) r4, .d .bool r5, .d (.sl (.pair (.int .i64) (.sl (.int .u8)))) r6]], [] => some (r0, r1, r2, r3, r4, r5, r6)
  | _, _ => none
noncomputable def rec_clone.b (r0ID : Int) (r0Inc : Int) (r0Status : Int) (r0SpanLo : Int) (r0SpanHi : Int) (r0Cut : Bool) (r0Bag : List (Int × List Int)) : Option (Int × Int × Int × Int × Int × Bool × (List (Int × (List Int)))) :=
  (match (veil (bag_Copy.f BIG r0Bag)) with | none => none | some y0 => some (r0ID, r0Inc, r0Status, r0SpanLo, r0SpanHi, r0Cut, y0))
noncomputable def rec_clone.f (fuel : Nat) (r0ID : Int) (r0Inc : Int) (r0Status : Int) (r0SpanLo : Int) (r0SpanHi : Int) (r0Cut : Bool) (r0Bag : List (Int × List Int)) : Option (Int × Int × Int × Int × Int × Bool × (List (Int × (List Int)))) := rec_clone.b r0ID r0Inc r0Status r0SpanLo r0SpanHi r0Cut r0Bag
theorem rec_clone.eq (fuel : Nat) (r0ID : Int) (r0Inc : Int) (r0Status : Int) (r0SpanLo : Int) (r0SpanHi : Int) (r0Cut : Bool) (r0Bag : List (Int × List Int)) : (denF rec_clone_E loopN fuel Try.f103 [.dat (.pair (.int .i64) (.pair (.int .i64) (.pair (.int .i64) (.pair (.pair (.int .i64) (.int .i64)) (.pair .bool (.sl (.pair (.int .i64) (.sl (.int .u8))))))))) true] [.agg [.d (.int .i64) r0ID, .d (.int .i64) r0Inc, .d (.int .i64) r0Status, .d (.int .i64) r0SpanLo, .d (.int .i64) r0SpanHi, .d .bool r0Cut, .d (.sl (.pair (.int .i64) (.sl (.int .u8)))) r0Bag]] [] rec_clone.k) = rec_clone.f fuel r0ID r0Inc r0Status r0SpanLo r0SpanHi r0Cut r0Bag := by
  kernel_rfl

noncomputable def s_rec_clone : Den.Sum := ⟨[.dat (.pair (.int .i64) (.pair (.int .i64) (.pair (.int .i64) (.pair (.pair (.int .i64) (.int .i64)) (.pair .bool (.sl (.pair (.int .i64) (.sl (.int .u8))))))))) true], fun args objs κ => match args, objs with
  | [.agg [.d (.int .i64) r0ID, .d (.int .i64) r0Inc, .d (.int .i64) r0Status, .d (.int .i64) r0SpanLo, .d (.int .i64) r0SpanHi, .d .bool r0Cut, .d (.sl (.pair (.int .i64) (.sl (.int .u8)))) r0Bag]], [] => (match veil (rec_clone.f BIG r0ID r0Inc r0Status r0SpanLo r0SpanHi r0Cut r0Bag) with | none => none | some y => κ [.agg [.d (.int .i64) y.1, .d (.int .i64) y.2.1, .d (.int .i64) y.2.2.1, .d (.int .i64) y.2.2.2.1, .d (.int .i64) y.2.2.2.2.1, .d .bool y.2.2.2.2.2.1, .d (.sl (.pair (.int .i64) (.sl (.int .u8)))) y.2.2.2.2.2.2]] [])
  | _, _ => none⟩
theorem s_rec_clone_det : SumDet s_rec_clone := fun avs objs R κ => by
  show s_rec_clone.run avs objs (two κ) = (s_rec_clone.run avs objs (two some)).bind κ
  unfold s_rec_clone
  simp only [veil_eq]
  split
  · split <;> rfl
  · rfl
theorem s_rec_clone_ok : SumOk Try.prog 103 s_rec_clone := by
  have hE : EnvOk Try.prog rec_clone_E := env_ok (l := [(105, s_bag_Copy)]) th_ok any_ok ⟨⟨s_bag_Copy_ok, s_bag_Copy_det⟩, trivial⟩ _
  refine sum_ok hE Try.func103 rfl (by kernel_rfl) s_rec_clone [.dat (.pair (.int .i64) (.pair (.int .i64) (.pair (.int .i64) (.pair (.pair (.int .i64) (.int .i64)) (.pair .bool (.sl (.pair (.int .i64) (.sl (.int .u8))))))))) true] rec_clone.k ?_
  intro R avs objs κ r h
  unfold s_rec_clone at h
  simp only [veil_eq] at h
  split at h
  · rename_i r0ID r0Inc r0Status r0SpanLo r0SpanHi r0Cut r0Bag
    split at h
    · cases h
    · rename_i y hy
      refine ⟨BIG, _, _, _, (rec_clone.eq BIG r0ID r0Inc r0Status r0SpanLo r0SpanHi r0Cut r0Bag).trans hy, ?_, h⟩
      intro rs ros hk
      unfold rec_clone.k at hk
      split at hk
      · first | (cases hk; exact ⟨rfl, rfl⟩) | (have e := Option.some.inj hk; rw [← e]; exact ⟨rfl, rfl⟩)
      · cases hk
  · cases h
end Go.Proofs.Ytlmljpmohljefaa
