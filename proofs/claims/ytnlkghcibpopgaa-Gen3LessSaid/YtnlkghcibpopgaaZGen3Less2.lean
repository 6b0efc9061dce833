/- Gen3Less: whatever message is given, the law returns true, and the input reads as it did. There is no condition. -/
import Derived.Test.YtnlkghcibpopgaaZGen3Less1
set_option linter.unusedVariables false
set_option linter.unusedSimpArgs false
set_option maxRecDepth 100000
namespace Go.Proofs.Ytnlkghcibpopgaa
open Go.Den
noncomputable def rec_Find.k (rs : List AV) (os : List Den.Obj) : Option (Int × Int × Int × Int × Int × Bool × (List (Int × (List Int))) × Bool) :=
  match rs, os with
  | [.agg [.d (.int .i64) r0, .d (.int .i64) r1, .d (.int .i64) r2, .d (.int .i64) r3, .d (.int .i64) r4, .d .bool r5, .d (.sl (.pair (.int .i64) (.sl (.int .u8)))) r6], .d .bool r7], [] => some (r0, r1, r2, r3, r4, r5, r6, r7)
  | _, _ => none
noncomputable def rec_Find.b (l : List (Int × Int × Int × (Int × Int) × Bool × List (Int × List Int))) (id : Int) : Option (Int × Int × Int × Int × Int × Bool × (List (Int × (List Int))) × Bool) :=
  (match (veil (rec_where_api_Rec_find.f BIG l id)) with | none => none | some y0 => (if (y0.1 == ((((List.length l)) : Nat) : Int)) then some (0, 0, 0, 0, 0, false, ([] : List (Int × (List Int))), false) else (match (idx l y0.1) with | none => none | some y1 => (match (veil (rec_clone.f BIG y1.1 y1.2.1 y1.2.2.1 y1.2.2.2.1.1 y1.2.2.2.1.2 y1.2.2.2.2.1 y1.2.2.2.2.2)) with | none => none | some y2 => some (y2.1, y2.2.1, y2.2.2.1, y2.2.2.2.1, y2.2.2.2.2.1, y2.2.2.2.2.2.1, y2.2.2.2.2.2.2, true)))))
noncomputable def rec_Find.f (fuel : Nat) (l : List (Int × Int × Int × (Int × Int) × Bool × List (Int × List Int))) (id : Int) : Option (Int × Int × Int × Int × Int × Bool × (List (Int × (List Int))) × Bool) := rec_Find.b l id
theorem rec_Find.eq (fuel : Nat) (l : List (Int × Int × Int × (Int × Int) × Bool × List (Int × List Int))) (id : Int) : (denF rec_Find_E loopN fuel Try.f97 [.dat (.pair (.int .i64) (.pair (.int .i64) (.pair (.int .i64) (.pair (.pair (.int .i64) (.int .i64)) (.pair .bool (.sl (.pair (.int .i64) (.sl (.int .u8))))))))) true, .raw] [.d (.sl (.pair (.int .i64) (.pair (.int .i64) (.pair (.int .i64) (.pair (.pair (.int .i64) (.int .i64)) (.pair .bool (.sl (.pair (.int .i64) (.sl (.int .u8)))))))))) l, .d (.int .i64) id] [] rec_Find.k) = rec_Find.f fuel l id := by
  kernel_rfl
noncomputable def s_rec_Find : Den.Sum := ⟨[.dat (.sl (.pair (.int .i64) (.pair (.int .i64) (.pair (.int .i64) (.pair (.pair (.int .i64) (.int .i64)) (.pair .bool (.sl (.pair (.int .i64) (.sl (.int .u8)))))))))) false, .raw], fun args objs κ => match args, objs with
  | [.d (.sl (.pair (.int .i64) (.pair (.int .i64) (.pair (.int .i64) (.pair (.pair (.int .i64) (.int .i64)) (.pair .bool (.sl (.pair (.int .i64) (.sl (.int .u8)))))))))) l, .d (.int .i64) id], [] => (match veil (rec_Find.f BIG l id) with | none => none | some y => κ [.agg [.d (.int .i64) y.1, .d (.int .i64) y.2.1, .d (.int .i64) y.2.2.1, .d (.int .i64) y.2.2.2.1, .d (.int .i64) y.2.2.2.2.1, .d .bool y.2.2.2.2.2.1, .d (.sl (.pair (.int .i64) (.sl (.int .u8)))) y.2.2.2.2.2.2.1], .d .bool y.2.2.2.2.2.2.2] [])
  | _, _ => none⟩
theorem s_rec_Find_det : SumDet s_rec_Find := fun avs objs R κ => by
  show s_rec_Find.run avs objs (two κ) = (s_rec_Find.run avs objs (two some)).bind κ
  unfold s_rec_Find
  simp only [veil_eq]
  split
  · split <;> rfl
  · rfl
theorem s_rec_Find_ok : SumOk Try.prog 97 s_rec_Find := by
  have hE : EnvOk Try.prog rec_Find_E := env_ok (l := [(61, s_rec_where_api_Rec), (132, s_rec_Find_c1), (133, s_rec_clone)]) th_ok any_ok ⟨⟨s_rec_where_api_Rec_ok, s_rec_where_api_Rec_det⟩, ⟨s_rec_Find_c1_ok, s_rec_Find_c1_det⟩, ⟨s_rec_clone_ok, s_rec_clone_det⟩, trivial⟩ _
  refine sum_ok hE Try.func97 rfl (by kernel_rfl) s_rec_Find [.dat (.pair (.int .i64) (.pair (.int .i64) (.pair (.int .i64) (.pair (.pair (.int .i64) (.int .i64)) (.pair .bool (.sl (.pair (.int .i64) (.sl (.int .u8))))))))) true, .raw] rec_Find.k ?_
  intro R avs objs κ r h
  unfold s_rec_Find at h
  simp only [veil_eq] at h
  split at h
  · rename_i l id
    split at h
    · cases h
    · rename_i y hy
      refine ⟨BIG, _, _, _, (rec_Find.eq BIG l id).trans hy, ?_, h⟩
      intro rs ros hk
      unfold rec_Find.k at hk
      split at hk
      · first | (cases hk; exact ⟨rfl, rfl⟩) | (have e := Option.some.inj hk; rw [← e]; exact ⟨rfl, rfl⟩)
      · cases hk
  · cases h
noncomputable def gen3_writer_put_E : Env := ⟨th, gam [(90, s_num), (68, s_code), (91, s_gen3_writer_form), (98, s_bsame), (131, s_octet_Writer_Raw), (96, s_varint_Of), (97, s_rec_Find), (99, s_varint_Zig)], fun i => if i = 17 then ⟨[4, 92, 93, 94], [], []⟩ else if i = 5 then ⟨[2, 4, 5, 8, 9, 10], [], [777777]⟩ else if i = 7 then ⟨[2, 4, 5, 8, 9, 10], [], [777777]⟩ else if i = 9 then ⟨[2, 4, 5, 8, 10], [], [777777]⟩ else if i = 13 then ⟨[4, 5, 8, 10], [], [777777]⟩ else ⟨[], [], []⟩⟩
noncomputable def gen3_writer_put.k (rs : List AV) (os : List Den.Obj) : Option (List Int) :=
  match rs, os with
  | [], [.box [.row 2, .d .bool false], .gone, .row 5 (.int .u8) r0 false] => some r0
  | _, _ => none
noncomputable def gen3_writer_put.s17 (l : List Int) (r0ID : Int) (r0Inc : Int) (r0Status : Int) (r0SpanLo : Int) (r0SpanHi : Int) (r0Cut : Bool) (r0Bag : List (Int × List Int)) (last : Int) (base : List (Int × Int × Int × (Int × Int) × Bool × List (Int × List Int))) (x41 : Int) (x42 : Int) (x43 : (List Int)) : St := ⟨[.dead, .dead, .dead, .dead, .ptr 65 0, .dead, .dead, .dead, .dead, .dead, .dead, .dead, .dead, .dead, .dead, .dead, .dead, .dead, .dead, .dead, .dead, .dead, .dead, .dead, .dead, .dead, .dead, .dead, .dead, .dead, .dead, .dead, .dead, .dead, .dead, .dead, .dead, .dead, .dead, .dead, .dead, .dead, .dead, .dead, .dead, .dead, .dead, .dead, .dead, .dead, .dead, .dead, .dead, .dead, .dead, .dead, .dead, .dead, .dead, .dead, .dead, .dead, .dead, .dead, .dead, .dead, .dead, .dead, .dead, .dead, .dead, .dead, .dead, .dead, .dead, .dead, .dead, .dead, .dead, .dead, .dead, .dead, .dead, .dead, .dead, .dead, .dead, .dead, .dead, .dead, .dead, .dead, .d (.sl (.pair (.int .i64) (.sl (.int .u8)))) (r0Bag), .d (.int .i64) x41, .d (.int .i64) x42, .dead, .dead, .dead, .dead, .dead, .dead, .dead, .dead, .dead, .dead, .dead, .dead, .dead, .dead, .dead, .dead, .dead, .dead, .dead, .dead], ofL [(0, .box [.row 64, .d .bool (false)]), (1, .gone), (64, .row 5 (.int .u8) x43 false), (65, .box [.ptr 0 0])], 2⟩
noncomputable def gen3_writer_put.b17 (l : List Int) (r0ID : Int) (r0Inc : Int) (r0Status : Int) (r0SpanLo : Int) (r0SpanHi : Int) (r0Cut : Bool) (r0Bag : List (Int × List Int)) (last : Int) (base : List (Int × Int × Int × (Int × Int) × Bool × List (Int × List Int))) (A17 : Int → Int → (List Int) → Option (List Int)) (x41 : Int) (x42 : Int) (x43 : (List Int)) : Option (List Int) :=
  (if (decide (x42 < x41)) then (match (idx r0Bag x42) with | none => none | some y44 => (if ((fitsF (1 : Int) y44.1) ∧ (roomy x43)) then (match (veil (gen3_writer_form.f BIG (x43 ++ (be (Int.toNat (1 : Int)) y44.1)) (((((List.length y44.2)) : Nat) : Int) :: ([] : List Int)))) with | none => none | some y45 => (match (veil (octet_Writer_Raw.f BIG y45 y44.2)) with | none => none | some y46 => A17 x41 (Go.IntKind.wrap .i64 (x42 + (1 : Int))) y46)) else none)) else some (x43))
noncomputable def gen3_writer_put.l17 (fuel : Nat) (l : List Int) (r0ID : Int) (r0Inc : Int) (r0Status : Int) (r0SpanLo : Int) (r0SpanHi : Int) (r0Cut : Bool) (r0Bag : List (Int × List Int)) (last : Int) (base : List (Int × Int × Int × (Int × Int) × Bool × List (Int × List Int))) : Nat → Int → Int → (List Int) → Option (List Int)
  | 0, _, _, _ => none
  | k + 1, x41, x42, x43 => gen3_writer_put.b17 l r0ID r0Inc r0Status r0SpanLo r0SpanHi r0Cut r0Bag last base (gen3_writer_put.l17 fuel l r0ID r0Inc r0Status r0SpanLo r0SpanHi r0Cut r0Bag last base k) x41 x42 x43
noncomputable def gen3_writer_put.s13 (l : List Int) (r0ID : Int) (r0Inc : Int) (r0Status : Int) (r0SpanLo : Int) (r0SpanHi : Int) (r0Cut : Bool) (r0Bag : List (Int × List Int)) (last : Int) (base : List (Int × Int × Int × (Int × Int) × Bool × List (Int × List Int))) (x28 : Int) (x29 : (List Int)) (x30 : Int) (x31 : Int) (x32 : Int) (x33 : Int) (x34 : Int) (x35 : Bool) (x36 : (List (Int × (List Int)))) : St := ⟨[.dead, .dead, .dead, .dead, .ptr 65 0, .ptr 66 0, .dead, .dead, .ptr 67 0, .dead, .d (.int .i64) x28, .dead, .dead, .dead, .dead, .dead, .dead, .dead, .dead, .dead, .dead, .dead, .dead, .dead, .dead, .dead, .dead, .dead, .dead, .dead, .dead, .dead, .dead, .dead, .dead, .dead, .dead, .dead, .dead, .dead, .dead, .dead, .dead, .dead, .dead, .dead, .dead, .dead, .dead, .dead, .dead, .dead, .dead, .dead, .dead, .dead, .dead, .dead, .dead, .dead, .dead, .dead, .dead, .dead, .dead, .dead, .dead, .dead, .dead, .dead, .dead, .dead, .dead, .dead, .dead, .dead, .dead, .dead, .dead, .dead, .dead, .dead, .dead, .dead, .dead, .dead, .dead, .dead, .dead, .dead, .dead, .dead, .dead, .dead, .dead, .dead, .dead, .dead, .dead, .dead, .dead, .dead, .dead, .dead, .dead, .dead, .dead, .dead, .dead, .dead, .dead, .dead, .dead, .dead, .dead], ofL [(0, .box [.row 64, .d .bool (false)]), (1, .gone), (64, .row 5 (.int .u8) x29 false), (65, .box [.ptr 0 0]), (66, .box [.d (.int .i64) (r0ID), .d (.int .i64) (r0Inc), .d (.int .i64) (r0Status), .d (.int .i64) (r0SpanLo), .d (.int .i64) (r0SpanHi), .d .bool (r0Cut), .d (.sl (.pair (.int .i64) (.sl (.int .u8)))) (r0Bag)]), (67, .box [.d (.int .i64) x30, .d (.int .i64) x31, .d (.int .i64) x32, .d (.int .i64) x33, .d (.int .i64) x34, .d .bool x35, .d (.sl (.pair (.int .i64) (.sl (.int .u8)))) x36])], 2⟩
noncomputable def gen3_writer_put.b13 (l : List Int) (r0ID : Int) (r0Inc : Int) (r0Status : Int) (r0SpanLo : Int) (r0SpanHi : Int) (r0Cut : Bool) (r0Bag : List (Int × List Int)) (last : Int) (base : List (Int × Int × Int × (Int × Int) × Bool × List (Int × List Int))) (A13 : Int → (List Int) → Int → Int → Int → Int → Int → Bool → (List (Int × (List Int))) → Option (List Int)) (E17 : Int → Int → (List Int) → Option (List Int)) (x28 : Int) (x29 : (List Int)) (x30 : Int) (x31 : Int) (x32 : Int) (x33 : Int) (x34 : Int) (x35 : Bool) (x36 : (List (Int × (List Int)))) : Option (List Int) :=
  (match (veil (varint_Zig.f BIG (Go.IntKind.wrap .i64 (r0Inc - x31)))) with | none => none | some y37 => (match (veil (varint_Of.f BIG y37)) with | none => none | some y38 => (match (veil (octet_Writer_Raw.f BIG x29 y38)) with | none => none | some y39 => (if ((bits Go.BinOp.and .i64 x28 (20 : Int)) != (0 : Int)) then some (y39) else (match (veil (gen3_writer_form.f BIG y39 (((((List.length r0Bag)) : Nat) : Int) :: ([] : List Int)))) with | none => none | some y40 => E17 ((((List.length r0Bag)) : Nat) : Int) (0 : Int) y40)))))
noncomputable def gen3_writer_put.l13 (fuel : Nat) (l : List Int) (r0ID : Int) (r0Inc : Int) (r0Status : Int) (r0SpanLo : Int) (r0SpanHi : Int) (r0Cut : Bool) (r0Bag : List (Int × List Int)) (last : Int) (base : List (Int × Int × Int × (Int × Int) × Bool × List (Int × List Int))) : Nat → Int → (List Int) → Int → Int → Int → Int → Int → Bool → (List (Int × (List Int))) → Option (List Int)
  | 0, _, _, _, _, _, _, _, _, _ => none
  | k + 1, x28, x29, x30, x31, x32, x33, x34, x35, x36 => gen3_writer_put.b13 l r0ID r0Inc r0Status r0SpanLo r0SpanHi r0Cut r0Bag last base (gen3_writer_put.l13 fuel l r0ID r0Inc r0Status r0SpanLo r0SpanHi r0Cut r0Bag last base k) (gen3_writer_put.l17 fuel l r0ID r0Inc r0Status r0SpanLo r0SpanHi r0Cut r0Bag last base fuel) x28 x29 x30 x31 x32 x33 x34 x35 x36
noncomputable def gen3_writer_put.s9 (l : List Int) (r0ID : Int) (r0Inc : Int) (r0Status : Int) (r0SpanLo : Int) (r0SpanHi : Int) (r0Cut : Bool) (r0Bag : List (Int × List Int)) (last : Int) (base : List (Int × Int × Int × (Int × Int) × Bool × List (Int × List Int))) (x19 : Int) (x20 : Int) (x21 : Int) (x22 : Int) (x23 : Int) (x24 : Int) (x25 : Bool) (x26 : (List (Int × (List Int)))) : St := ⟨[.dead, .dead, .d (.int .i64) (last), .dead, .ptr 64 0, .ptr 65 0, .dead, .dead, .ptr 66 0, .dead, .d (.int .i64) x19, .dead, .dead, .dead, .dead, .dead, .dead, .dead, .dead, .dead, .dead, .dead, .dead, .dead, .dead, .dead, .dead, .dead, .dead, .dead, .dead, .dead, .dead, .dead, .dead, .dead, .dead, .dead, .dead, .dead, .dead, .dead, .dead, .dead, .dead, .dead, .dead, .dead, .dead, .dead, .dead, .dead, .dead, .dead, .dead, .dead, .dead, .dead, .dead, .dead, .dead, .dead, .dead, .dead, .dead, .dead, .dead, .dead, .dead, .dead, .dead, .dead, .dead, .dead, .dead, .dead, .dead, .dead, .dead, .dead, .dead, .dead, .dead, .dead, .dead, .dead, .dead, .dead, .dead, .dead, .dead, .dead, .dead, .dead, .dead, .dead, .dead, .dead, .dead, .dead, .dead, .dead, .dead, .dead, .dead, .dead, .dead, .dead, .dead, .dead, .dead, .dead, .dead, .dead, .dead], ofL [(0, .box [.row 1, .d .bool (false)]), (1, .row 5 (.int .u8) (l) false), (64, .box [.ptr 0 0]), (65, .box [.d (.int .i64) (r0ID), .d (.int .i64) (r0Inc), .d (.int .i64) (r0Status), .d (.int .i64) (r0SpanLo), .d (.int .i64) (r0SpanHi), .d .bool (r0Cut), .d (.sl (.pair (.int .i64) (.sl (.int .u8)))) (r0Bag)]), (66, .box [.d (.int .i64) x20, .d (.int .i64) x21, .d (.int .i64) x22, .d (.int .i64) x23, .d (.int .i64) x24, .d .bool x25, .d (.sl (.pair (.int .i64) (.sl (.int .u8)))) x26])], 2⟩
noncomputable def gen3_writer_put.b9 (l : List Int) (r0ID : Int) (r0Inc : Int) (r0Status : Int) (r0SpanLo : Int) (r0SpanHi : Int) (r0Cut : Bool) (r0Bag : List (Int × List Int)) (last : Int) (base : List (Int × Int × Int × (Int × Int) × Bool × List (Int × List Int))) (A9 : Int → Int → Int → Int → Int → Int → Bool → (List (Int × (List Int))) → Option (List Int)) (E13 : Int → (List Int) → Int → Int → Int → Int → Int → Bool → (List (Int × (List Int))) → Option (List Int)) (x19 : Int) (x20 : Int) (x21 : Int) (x22 : Int) (x23 : Int) (x24 : Int) (x25 : Bool) (x26 : (List (Int × (List Int)))) : Option (List Int) :=
  (match (veil (gen3_writer_form.f BIG l ((Go.IntKind.wrap .i64 ((Go.IntKind.wrap .i64 (r0ID - last)) - (1 : Int))) :: ([] : List Int)))) with | none => none | some y27 => (if ((fitsF (1 : Int) x19) ∧ (roomy y27)) then (if ((bits Go.BinOp.and .i64 x19 (8 : Int)) == (0 : Int)) then (if ((fitsF (1 : Int) (codeF r0SpanLo r0SpanHi)) ∧ (roomy (y27 ++ (be (Int.toNat (1 : Int)) x19)))) then E13 x19 ((y27 ++ (be (Int.toNat (1 : Int)) x19)) ++ (be (Int.toNat (1 : Int)) (codeF r0SpanLo r0SpanHi))) x20 x21 x22 x23 x24 x25 x26 else none) else E13 x19 (y27 ++ (be (Int.toNat (1 : Int)) x19)) x20 x21 x22 x23 x24 x25 x26) else none))
noncomputable def gen3_writer_put.l9 (fuel : Nat) (l : List Int) (r0ID : Int) (r0Inc : Int) (r0Status : Int) (r0SpanLo : Int) (r0SpanHi : Int) (r0Cut : Bool) (r0Bag : List (Int × List Int)) (last : Int) (base : List (Int × Int × Int × (Int × Int) × Bool × List (Int × List Int))) : Nat → Int → Int → Int → Int → Int → Int → Bool → (List (Int × (List Int))) → Option (List Int)
  | 0, _, _, _, _, _, _, _, _ => none
  | k + 1, x19, x20, x21, x22, x23, x24, x25, x26 => gen3_writer_put.b9 l r0ID r0Inc r0Status r0SpanLo r0SpanHi r0Cut r0Bag last base (gen3_writer_put.l9 fuel l r0ID r0Inc r0Status r0SpanLo r0SpanHi r0Cut r0Bag last base k) (gen3_writer_put.l13 fuel l r0ID r0Inc r0Status r0SpanLo r0SpanHi r0Cut r0Bag last base fuel) x19 x20 x21 x22 x23 x24 x25 x26
noncomputable def gen3_writer_put.s7 (l : List Int) (r0ID : Int) (r0Inc : Int) (r0Status : Int) (r0SpanLo : Int) (r0SpanHi : Int) (r0Cut : Bool) (r0Bag : List (Int × List Int)) (last : Int) (base : List (Int × Int × Int × (Int × Int) × Bool × List (Int × List Int))) (x10 : Bool) (x11 : Int) (x12 : Int) (x13 : Int) (x14 : Int) (x15 : Int) (x16 : Int) (x17 : Bool) (x18 : (List (Int × (List Int)))) : St := ⟨[.dead, .dead, .d (.int .i64) (last), .dead, .ptr 64 0, .ptr 65 0, .dead, .dead, .ptr 66 0, .d .bool x10, .d (.int .i64) x11, .dead, .dead, .dead, .dead, .dead, .dead, .dead, .dead, .dead, .dead, .dead, .dead, .dead, .dead, .dead, .dead, .dead, .dead, .dead, .dead, .dead, .dead, .dead, .dead, .dead, .dead, .dead, .dead, .dead, .dead, .dead, .dead, .dead, .dead, .dead, .dead, .dead, .dead, .dead, .dead, .dead, .dead, .dead, .dead, .dead, .dead, .dead, .dead, .dead, .dead, .dead, .dead, .dead, .dead, .dead, .dead, .dead, .dead, .dead, .dead, .dead, .dead, .dead, .dead, .dead, .dead, .dead, .dead, .dead, .dead, .dead, .dead, .dead, .dead, .dead, .dead, .dead, .dead, .dead, .dead, .dead, .dead, .dead, .dead, .dead, .dead, .dead, .dead, .dead, .dead, .dead, .dead, .dead, .dead, .dead, .dead, .dead, .dead, .dead, .dead, .dead, .dead, .dead, .dead], ofL [(0, .box [.row 1, .d .bool (false)]), (1, .row 5 (.int .u8) (l) false), (64, .box [.ptr 0 0]), (65, .box [.d (.int .i64) (r0ID), .d (.int .i64) (r0Inc), .d (.int .i64) (r0Status), .d (.int .i64) (r0SpanLo), .d (.int .i64) (r0SpanHi), .d .bool (r0Cut), .d (.sl (.pair (.int .i64) (.sl (.int .u8)))) (r0Bag)]), (66, .box [.d (.int .i64) x12, .d (.int .i64) x13, .d (.int .i64) x14, .d (.int .i64) x15, .d (.int .i64) x16, .d .bool x17, .d (.sl (.pair (.int .i64) (.sl (.int .u8)))) x18])], 2⟩
noncomputable def gen3_writer_put.b7 (l : List Int) (r0ID : Int) (r0Inc : Int) (r0Status : Int) (r0SpanLo : Int) (r0SpanHi : Int) (r0Cut : Bool) (r0Bag : List (Int × List Int)) (last : Int) (base : List (Int × Int × Int × (Int × Int) × Bool × List (Int × List Int))) (A7 : Bool → Int → Int → Int → Int → Int → Int → Bool → (List (Int × (List Int))) → Option (List Int)) (E9 : Int → Int → Int → Int → Int → Int → Bool → (List (Int × (List Int))) → Option (List Int)) (x10 : Bool) (x11 : Int) (x12 : Int) (x13 : Int) (x14 : Int) (x15 : Int) (x16 : Int) (x17 : Bool) (x18 : (List (Int × (List Int)))) : Option (List Int) :=
  (if x10 then (if (!r0Cut) then (if ((smallBag x18) && (smallBag r0Bag)) then (if ((cmpGo x18 r0Bag) == (0 : Int)) then E9 (bits Go.BinOp.or .i64 x11 (16 : Int)) x12 x13 x14 x15 x16 x17 x18 else E9 x11 x12 x13 x14 x15 x16 x17 x18) else none) else E9 x11 x12 x13 x14 x15 x16 x17 x18) else E9 x11 x12 x13 x14 x15 x16 x17 x18)
noncomputable def gen3_writer_put.l7 (fuel : Nat) (l : List Int) (r0ID : Int) (r0Inc : Int) (r0Status : Int) (r0SpanLo : Int) (r0SpanHi : Int) (r0Cut : Bool) (r0Bag : List (Int × List Int)) (last : Int) (base : List (Int × Int × Int × (Int × Int) × Bool × List (Int × List Int))) : Nat → Bool → Int → Int → Int → Int → Int → Int → Bool → (List (Int × (List Int))) → Option (List Int)
  | 0, _, _, _, _, _, _, _, _, _ => none
  | k + 1, x10, x11, x12, x13, x14, x15, x16, x17, x18 => gen3_writer_put.b7 l r0ID r0Inc r0Status r0SpanLo r0SpanHi r0Cut r0Bag last base (gen3_writer_put.l7 fuel l r0ID r0Inc r0Status r0SpanLo r0SpanHi r0Cut r0Bag last base k) (gen3_writer_put.l9 fuel l r0ID r0Inc r0Status r0SpanLo r0SpanHi r0Cut r0Bag last base fuel) x10 x11 x12 x13 x14 x15 x16 x17 x18
noncomputable def gen3_writer_put.s5 (l : List Int) (r0ID : Int) (r0Inc : Int) (r0Status : Int) (r0SpanLo : Int) (r0SpanHi : Int) (r0Cut : Bool) (r0Bag : List (Int × List Int)) (last : Int) (base : List (Int × Int × Int × (Int × Int) × Bool × List (Int × List Int))) (x1 : Bool) (x2 : Int) (x3 : Int) (x4 : Int) (x5 : Int) (x6 : Int) (x7 : Int) (x8 : Bool) (x9 : (List (Int × (List Int)))) : St := ⟨[.dead, .dead, .d (.int .i64) (last), .dead, .ptr 64 0, .ptr 65 0, .dead, .dead, .ptr 66 0, .d .bool x1, .d (.int .i64) x2, .dead, .dead, .dead, .dead, .dead, .dead, .dead, .dead, .dead, .dead, .dead, .dead, .dead, .dead, .dead, .dead, .dead, .dead, .dead, .dead, .dead, .dead, .dead, .dead, .dead, .dead, .dead, .dead, .dead, .dead, .dead, .dead, .dead, .dead, .dead, .dead, .dead, .dead, .dead, .dead, .dead, .dead, .dead, .dead, .dead, .dead, .dead, .dead, .dead, .dead, .dead, .dead, .dead, .dead, .dead, .dead, .dead, .dead, .dead, .dead, .dead, .dead, .dead, .dead, .dead, .dead, .dead, .dead, .dead, .dead, .dead, .dead, .dead, .dead, .dead, .dead, .dead, .dead, .dead, .dead, .dead, .dead, .dead, .dead, .dead, .dead, .dead, .dead, .dead, .dead, .dead, .dead, .dead, .dead, .dead, .dead, .dead, .dead, .dead, .dead, .dead, .dead, .dead, .dead], ofL [(0, .box [.row 1, .d .bool (false)]), (1, .row 5 (.int .u8) (l) false), (64, .box [.ptr 0 0]), (65, .box [.d (.int .i64) (r0ID), .d (.int .i64) (r0Inc), .d (.int .i64) (r0Status), .d (.int .i64) (r0SpanLo), .d (.int .i64) (r0SpanHi), .d .bool (r0Cut), .d (.sl (.pair (.int .i64) (.sl (.int .u8)))) (r0Bag)]), (66, .box [.d (.int .i64) x3, .d (.int .i64) x4, .d (.int .i64) x5, .d (.int .i64) x6, .d (.int .i64) x7, .d .bool x8, .d (.sl (.pair (.int .i64) (.sl (.int .u8)))) x9])], 2⟩
noncomputable def gen3_writer_put.b5 (l : List Int) (r0ID : Int) (r0Inc : Int) (r0Status : Int) (r0SpanLo : Int) (r0SpanHi : Int) (r0Cut : Bool) (r0Bag : List (Int × List Int)) (last : Int) (base : List (Int × Int × Int × (Int × Int) × Bool × List (Int × List Int))) (A5 : Bool → Int → Int → Int → Int → Int → Int → Bool → (List (Int × (List Int))) → Option (List Int)) (E7 : Bool → Int → Int → Int → Int → Int → Int → Bool → (List (Int × (List Int))) → Option (List Int)) (x1 : Bool) (x2 : Int) (x3 : Int) (x4 : Int) (x5 : Int) (x6 : Int) (x7 : Int) (x8 : Bool) (x9 : (List (Int × (List Int)))) : Option (List Int) :=
  (if x1 then (if (if (x6 == r0SpanLo) then (if (x7 == r0SpanHi) then true else false) else false) then E7 x1 (bits Go.BinOp.or .i64 x2 (8 : Int)) x3 x4 x5 x6 x7 x8 x9 else E7 x1 x2 x3 x4 x5 x6 x7 x8 x9) else E7 x1 x2 x3 x4 x5 x6 x7 x8 x9)
noncomputable def gen3_writer_put.l5 (fuel : Nat) (l : List Int) (r0ID : Int) (r0Inc : Int) (r0Status : Int) (r0SpanLo : Int) (r0SpanHi : Int) (r0Cut : Bool) (r0Bag : List (Int × List Int)) (last : Int) (base : List (Int × Int × Int × (Int × Int) × Bool × List (Int × List Int))) : Nat → Bool → Int → Int → Int → Int → Int → Int → Bool → (List (Int × (List Int))) → Option (List Int)
  | 0, _, _, _, _, _, _, _, _, _ => none
  | k + 1, x1, x2, x3, x4, x5, x6, x7, x8, x9 => gen3_writer_put.b5 l r0ID r0Inc r0Status r0SpanLo r0SpanHi r0Cut r0Bag last base (gen3_writer_put.l5 fuel l r0ID r0Inc r0Status r0SpanLo r0SpanHi r0Cut r0Bag last base k) (gen3_writer_put.l7 fuel l r0ID r0Inc r0Status r0SpanLo r0SpanHi r0Cut r0Bag last base fuel) x1 x2 x3 x4 x5 x6 x7 x8 x9
noncomputable def gen3_writer_put.b (l : List Int) (r0ID : Int) (r0Inc : Int) (r0Status : Int) (r0SpanLo : Int) (r0SpanHi : Int) (r0Cut : Bool) (r0Bag : List (Int × List Int)) (last : Int) (base : List (Int × Int × Int × (Int × Int) × Bool × List (Int × List Int))) (E5 : Bool → Int → Int → Int → Int → Int → Int → Bool → (List (Int × (List Int))) → Option (List Int)) : Option (List Int) :=
  (match (veil (rec_Find.f BIG base r0ID)) with | none => none | some y0 => (if r0Cut then E5 y0.2.2.2.2.2.2.2 (bits Go.BinOp.or .i64 r0Status (4 : Int)) y0.1 y0.2.1 y0.2.2.1 y0.2.2.2.1 y0.2.2.2.2.1 y0.2.2.2.2.2.1 y0.2.2.2.2.2.2.1 else E5 y0.2.2.2.2.2.2.2 r0Status y0.1 y0.2.1 y0.2.2.1 y0.2.2.2.1 y0.2.2.2.2.1 y0.2.2.2.2.2.1 y0.2.2.2.2.2.2.1))
noncomputable def gen3_writer_put.f (fuel : Nat) (l : List Int) (r0ID : Int) (r0Inc : Int) (r0Status : Int) (r0SpanLo : Int) (r0SpanHi : Int) (r0Cut : Bool) (r0Bag : List (Int × List Int)) (last : Int) (base : List (Int × Int × Int × (Int × Int) × Bool × List (Int × List Int))) : Option (List Int) := gen3_writer_put.b l r0ID r0Inc r0Status r0SpanLo r0SpanHi r0Cut r0Bag last base (gen3_writer_put.l5 fuel l r0ID r0Inc r0Status r0SpanLo r0SpanHi r0Cut r0Bag last base fuel)
theorem gen3_writer_put.l17_eq (fuel : Nat) (l : List Int) (r0ID : Int) (r0Inc : Int) (r0Status : Int) (r0SpanLo : Int) (r0SpanHi : Int) (r0Cut : Bool) (r0Bag : List (Int × List Int)) (last : Int) (base : List (Int × Int × Int × (Int × Int) × Bool × List (Int × List Int))) : ∀ (k : Nat) (x41 : Int) (x42 : Int) (x43 : (List Int)), lp gen3_writer_put_E fuel Try.f92 [.pb [.own (some 0) [] 0 5 (.int .u8) true, .kill 1]] 2 gen3_writer_put.k 17 [] k (gen3_writer_put.s17 l r0ID r0Inc r0Status r0SpanLo r0SpanHi r0Cut r0Bag last base x41 x42 x43) = gen3_writer_put.l17 fuel l r0ID r0Inc r0Status r0SpanLo r0SpanHi r0Cut r0Bag last base k x41 x42 x43 := by
  intro k
  induction k with
  | zero => intro x41 x42 x43; rfl
  | succ k ih =>
    intro x41 x42 x43
    have h : lp gen3_writer_put_E fuel Try.f92 [.pb [.own (some 0) [] 0 5 (.int .u8) true, .kill 1]] 2 gen3_writer_put.k 17 [] (k + 1) (gen3_writer_put.s17 l r0ID r0Inc r0Status r0SpanLo r0SpanHi r0Cut r0Bag last base x41 x42 x43) = gen3_writer_put.b17 l r0ID r0Inc r0Status r0SpanLo r0SpanHi r0Cut r0Bag last base (fun x41 x42 x43 => lp gen3_writer_put_E fuel Try.f92 [.pb [.own (some 0) [] 0 5 (.int .u8) true, .kill 1]] 2 gen3_writer_put.k 17 [] k (gen3_writer_put.s17 l r0ID r0Inc r0Status r0SpanLo r0SpanHi r0Cut r0Bag last base x41 x42 x43)) x41 x42 x43 := by kernel_rfl
    rw [h]
    have e17 : (fun x41 x42 x43 => lp gen3_writer_put_E fuel Try.f92 [.pb [.own (some 0) [] 0 5 (.int .u8) true, .kill 1]] 2 gen3_writer_put.k 17 [] k (gen3_writer_put.s17 l r0ID r0Inc r0Status r0SpanLo r0SpanHi r0Cut r0Bag last base x41 x42 x43)) = gen3_writer_put.l17 fuel l r0ID r0Inc r0Status r0SpanLo r0SpanHi r0Cut r0Bag last base k := (funext fun x41 => (funext fun x42 => (funext fun x43 => ih x41 x42 x43)))
    rw [e17]
    rfl
theorem gen3_writer_put.l13_eq (fuel : Nat) (l : List Int) (r0ID : Int) (r0Inc : Int) (r0Status : Int) (r0SpanLo : Int) (r0SpanHi : Int) (r0Cut : Bool) (r0Bag : List (Int × List Int)) (last : Int) (base : List (Int × Int × Int × (Int × Int) × Bool × List (Int × List Int))) : ∀ (k : Nat) (x28 : Int) (x29 : (List Int)) (x30 : Int) (x31 : Int) (x32 : Int) (x33 : Int) (x34 : Int) (x35 : Bool) (x36 : (List (Int × (List Int)))), lp gen3_writer_put_E fuel Try.f92 [.pb [.own (some 0) [] 0 5 (.int .u8) true, .kill 1]] 2 gen3_writer_put.k 13 [] k (gen3_writer_put.s13 l r0ID r0Inc r0Status r0SpanLo r0SpanHi r0Cut r0Bag last base x28 x29 x30 x31 x32 x33 x34 x35 x36) = gen3_writer_put.l13 fuel l r0ID r0Inc r0Status r0SpanLo r0SpanHi r0Cut r0Bag last base k x28 x29 x30 x31 x32 x33 x34 x35 x36 := by
  intro k
  induction k with
  | zero => intro x28 x29 x30 x31 x32 x33 x34 x35 x36; rfl
  | succ k ih =>
    intro x28 x29 x30 x31 x32 x33 x34 x35 x36
    have h : lp gen3_writer_put_E fuel Try.f92 [.pb [.own (some 0) [] 0 5 (.int .u8) true, .kill 1]] 2 gen3_writer_put.k 13 [] (k + 1) (gen3_writer_put.s13 l r0ID r0Inc r0Status r0SpanLo r0SpanHi r0Cut r0Bag last base x28 x29 x30 x31 x32 x33 x34 x35 x36) = gen3_writer_put.b13 l r0ID r0Inc r0Status r0SpanLo r0SpanHi r0Cut r0Bag last base (fun x28 x29 x30 x31 x32 x33 x34 x35 x36 => lp gen3_writer_put_E fuel Try.f92 [.pb [.own (some 0) [] 0 5 (.int .u8) true, .kill 1]] 2 gen3_writer_put.k 13 [] k (gen3_writer_put.s13 l r0ID r0Inc r0Status r0SpanLo r0SpanHi r0Cut r0Bag last base x28 x29 x30 x31 x32 x33 x34 x35 x36)) (fun x41 x42 x43 => lp gen3_writer_put_E fuel Try.f92 [.pb [.own (some 0) [] 0 5 (.int .u8) true, .kill 1]] 2 gen3_writer_put.k 17 [] fuel (gen3_writer_put.s17 l r0ID r0Inc r0Status r0SpanLo r0SpanHi r0Cut r0Bag last base x41 x42 x43)) x28 x29 x30 x31 x32 x33 x34 x35 x36 := by kernel_rfl
    rw [h]
    have e13 : (fun x28 x29 x30 x31 x32 x33 x34 x35 x36 => lp gen3_writer_put_E fuel Try.f92 [.pb [.own (some 0) [] 0 5 (.int .u8) true, .kill 1]] 2 gen3_writer_put.k 13 [] k (gen3_writer_put.s13 l r0ID r0Inc r0Status r0SpanLo r0SpanHi r0Cut r0Bag last base x28 x29 x30 x31 x32 x33 x34 x35 x36)) = gen3_writer_put.l13 fuel l r0ID r0Inc r0Status r0SpanLo r0SpanHi r0Cut r0Bag last base k := (funext fun x28 => (funext fun x29 => (funext fun x30 => (funext fun x31 => (funext fun x32 => (funext fun x33 => (funext fun x34 => (funext fun x35 => (funext fun x36 => ih x28 x29 x30 x31 x32 x33 x34 x35 x36)))))))))
    rw [e13]
    have e17 : (fun x41 x42 x43 => lp gen3_writer_put_E fuel Try.f92 [.pb [.own (some 0) [] 0 5 (.int .u8) true, .kill 1]] 2 gen3_writer_put.k 17 [] fuel (gen3_writer_put.s17 l r0ID r0Inc r0Status r0SpanLo r0SpanHi r0Cut r0Bag last base x41 x42 x43)) = gen3_writer_put.l17 fuel l r0ID r0Inc r0Status r0SpanLo r0SpanHi r0Cut r0Bag last base fuel := (funext fun x41 => (funext fun x42 => (funext fun x43 => gen3_writer_put.l17_eq fuel l r0ID r0Inc r0Status r0SpanLo r0SpanHi r0Cut r0Bag last base fuel x41 x42 x43)))
    rw [e17]
    rfl
theorem gen3_writer_put.l9_eq (fuel : Nat) (l : List Int) (r0ID : Int) (r0Inc : Int) (r0Status : Int) (r0SpanLo : Int) (r0SpanHi : Int) (r0Cut : Bool) (r0Bag : List (Int × List Int)) (last : Int) (base : List (Int × Int × Int × (Int × Int) × Bool × List (Int × List Int))) : ∀ (k : Nat) (x19 : Int) (x20 : Int) (x21 : Int) (x22 : Int) (x23 : Int) (x24 : Int) (x25 : Bool) (x26 : (List (Int × (List Int)))), lp gen3_writer_put_E fuel Try.f92 [.pb [.own (some 0) [] 0 5 (.int .u8) true, .kill 1]] 2 gen3_writer_put.k 9 [] k (gen3_writer_put.s9 l r0ID r0Inc r0Status r0SpanLo r0SpanHi r0Cut r0Bag last base x19 x20 x21 x22 x23 x24 x25 x26) = gen3_writer_put.l9 fuel l r0ID r0Inc r0Status r0SpanLo r0SpanHi r0Cut r0Bag last base k x19 x20 x21 x22 x23 x24 x25 x26 := by
  intro k
  induction k with
  | zero => intro x19 x20 x21 x22 x23 x24 x25 x26; rfl
  | succ k ih =>
    intro x19 x20 x21 x22 x23 x24 x25 x26
    have h : lp gen3_writer_put_E fuel Try.f92 [.pb [.own (some 0) [] 0 5 (.int .u8) true, .kill 1]] 2 gen3_writer_put.k 9 [] (k + 1) (gen3_writer_put.s9 l r0ID r0Inc r0Status r0SpanLo r0SpanHi r0Cut r0Bag last base x19 x20 x21 x22 x23 x24 x25 x26) = gen3_writer_put.b9 l r0ID r0Inc r0Status r0SpanLo r0SpanHi r0Cut r0Bag last base (fun x19 x20 x21 x22 x23 x24 x25 x26 => lp gen3_writer_put_E fuel Try.f92 [.pb [.own (some 0) [] 0 5 (.int .u8) true, .kill 1]] 2 gen3_writer_put.k 9 [] k (gen3_writer_put.s9 l r0ID r0Inc r0Status r0SpanLo r0SpanHi r0Cut r0Bag last base x19 x20 x21 x22 x23 x24 x25 x26)) (fun x28 x29 x30 x31 x32 x33 x34 x35 x36 => lp gen3_writer_put_E fuel Try.f92 [.pb [.own (some 0) [] 0 5 (.int .u8) true, .kill 1]] 2 gen3_writer_put.k 13 [] fuel (gen3_writer_put.s13 l r0ID r0Inc r0Status r0SpanLo r0SpanHi r0Cut r0Bag last base x28 x29 x30 x31 x32 x33 x34 x35 x36)) x19 x20 x21 x22 x23 x24 x25 x26 := by kernel_rfl
    rw [h]
    have e9 : (fun x19 x20 x21 x22 x23 x24 x25 x26 => lp gen3_writer_put_E fuel Try.f92 [.pb [.own (some 0) [] 0 5 (.int .u8) true, .kill 1]] 2 gen3_writer_put.k 9 [] k (gen3_writer_put.s9 l r0ID r0Inc r0Status r0SpanLo r0SpanHi r0Cut r0Bag last base x19 x20 x21 x22 x23 x24 x25 x26)) = gen3_writer_put.l9 fuel l r0ID r0Inc r0Status r0SpanLo r0SpanHi r0Cut r0Bag last base k := (funext fun x19 => (funext fun x20 => (funext fun x21 => (funext fun x22 => (funext fun x23 => (funext fun x24 => (funext fun x25 => (funext fun x26 => ih x19 x20 x21 x22 x23 x24 x25 x26))))))))
    rw [e9]
    have e13 : (fun x28 x29 x30 x31 x32 x33 x34 x35 x36 => lp gen3_writer_put_E fuel Try.f92 [.pb [.own (some 0) [] 0 5 (.int .u8) true, .kill 1]] 2 gen3_writer_put.k 13 [] fuel (gen3_writer_put.s13 l r0ID r0Inc r0Status r0SpanLo r0SpanHi r0Cut r0Bag last base x28 x29 x30 x31 x32 x33 x34 x35 x36)) = gen3_writer_put.l13 fuel l r0ID r0Inc r0Status r0SpanLo r0SpanHi r0Cut r0Bag last base fuel := (funext fun x28 => (funext fun x29 => (funext fun x30 => (funext fun x31 => (funext fun x32 => (funext fun x33 => (funext fun x34 => (funext fun x35 => (funext fun x36 => gen3_writer_put.l13_eq fuel l r0ID r0Inc r0Status r0SpanLo r0SpanHi r0Cut r0Bag last base fuel x28 x29 x30 x31 x32 x33 x34 x35 x36)))))))))
    rw [e13]
    rfl
theorem gen3_writer_put.l7_eq (fuel : Nat) (l : List Int) (r0ID : Int) (r0Inc : Int) (r0Status : Int) (r0SpanLo : Int) (r0SpanHi : Int) (r0Cut : Bool) (r0Bag : List (Int × List Int)) (last : Int) (base : List (Int × Int × Int × (Int × Int) × Bool × List (Int × List Int))) : ∀ (k : Nat) (x10 : Bool) (x11 : Int) (x12 : Int) (x13 : Int) (x14 : Int) (x15 : Int) (x16 : Int) (x17 : Bool) (x18 : (List (Int × (List Int)))), lp gen3_writer_put_E fuel Try.f92 [.pb [.own (some 0) [] 0 5 (.int .u8) true, .kill 1]] 2 gen3_writer_put.k 7 [] k (gen3_writer_put.s7 l r0ID r0Inc r0Status r0SpanLo r0SpanHi r0Cut r0Bag last base x10 x11 x12 x13 x14 x15 x16 x17 x18) = gen3_writer_put.l7 fuel l r0ID r0Inc r0Status r0SpanLo r0SpanHi r0Cut r0Bag last base k x10 x11 x12 x13 x14 x15 x16 x17 x18 := by
  intro k
  induction k with
  | zero => intro x10 x11 x12 x13 x14 x15 x16 x17 x18; rfl
  | succ k ih =>
    intro x10 x11 x12 x13 x14 x15 x16 x17 x18
    have h : lp gen3_writer_put_E fuel Try.f92 [.pb [.own (some 0) [] 0 5 (.int .u8) true, .kill 1]] 2 gen3_writer_put.k 7 [] (k + 1) (gen3_writer_put.s7 l r0ID r0Inc r0Status r0SpanLo r0SpanHi r0Cut r0Bag last base x10 x11 x12 x13 x14 x15 x16 x17 x18) = gen3_writer_put.b7 l r0ID r0Inc r0Status r0SpanLo r0SpanHi r0Cut r0Bag last base (fun x10 x11 x12 x13 x14 x15 x16 x17 x18 => lp gen3_writer_put_E fuel Try.f92 [.pb [.own (some 0) [] 0 5 (.int .u8) true, .kill 1]] 2 gen3_writer_put.k 7 [] k (gen3_writer_put.s7 l r0ID r0Inc r0Status r0SpanLo r0SpanHi r0Cut r0Bag last base x10 x11 x12 x13 x14 x15 x16 x17 x18)) (fun x19 x20 x21 x22 x23 x24 x25 x26 => lp gen3_writer_put_E fuel Try.f92 [.pb [.own (some 0) [] 0 5 (.int .u8) true, .kill 1]] 2 gen3_writer_put.k 9 [] fuel (gen3_writer_put.s9 l r0ID r0Inc r0Status r0SpanLo r0SpanHi r0Cut r0Bag last base x19 x20 x21 x22 x23 x24 x25 x26)) x10 x11 x12 x13 x14 x15 x16 x17 x18 := by kernel_rfl
    rw [h]
    have e7 : (fun x10 x11 x12 x13 x14 x15 x16 x17 x18 => lp gen3_writer_put_E fuel Try.f92 [.pb [.own (some 0) [] 0 5 (.int .u8) true, .kill 1]] 2 gen3_writer_put.k 7 [] k (gen3_writer_put.s7 l r0ID r0Inc r0Status r0SpanLo r0SpanHi r0Cut r0Bag last base x10 x11 x12 x13 x14 x15 x16 x17 x18)) = gen3_writer_put.l7 fuel l r0ID r0Inc r0Status r0SpanLo r0SpanHi r0Cut r0Bag last base k := (funext fun x10 => (funext fun x11 => (funext fun x12 => (funext fun x13 => (funext fun x14 => (funext fun x15 => (funext fun x16 => (funext fun x17 => (funext fun x18 => ih x10 x11 x12 x13 x14 x15 x16 x17 x18)))))))))
    rw [e7]
    have e9 : (fun x19 x20 x21 x22 x23 x24 x25 x26 => lp gen3_writer_put_E fuel Try.f92 [.pb [.own (some 0) [] 0 5 (.int .u8) true, .kill 1]] 2 gen3_writer_put.k 9 [] fuel (gen3_writer_put.s9 l r0ID r0Inc r0Status r0SpanLo r0SpanHi r0Cut r0Bag last base x19 x20 x21 x22 x23 x24 x25 x26)) = gen3_writer_put.l9 fuel l r0ID r0Inc r0Status r0SpanLo r0SpanHi r0Cut r0Bag last base fuel := (funext fun x19 => (funext fun x20 => (funext fun x21 => (funext fun x22 => (funext fun x23 => (funext fun x24 => (funext fun x25 => (funext fun x26 => gen3_writer_put.l9_eq fuel l r0ID r0Inc r0Status r0SpanLo r0SpanHi r0Cut r0Bag last base fuel x19 x20 x21 x22 x23 x24 x25 x26))))))))
    rw [e9]
    rfl
theorem gen3_writer_put.l5_eq (fuel : Nat) (l : List Int) (r0ID : Int) (r0Inc : Int) (r0Status : Int) (r0SpanLo : Int) (r0SpanHi : Int) (r0Cut : Bool) (r0Bag : List (Int × List Int)) (last : Int) (base : List (Int × Int × Int × (Int × Int) × Bool × List (Int × List Int))) : ∀ (k : Nat) (x1 : Bool) (x2 : Int) (x3 : Int) (x4 : Int) (x5 : Int) (x6 : Int) (x7 : Int) (x8 : Bool) (x9 : (List (Int × (List Int)))), lp gen3_writer_put_E fuel Try.f92 [.pb [.own (some 0) [] 0 5 (.int .u8) true, .kill 1]] 2 gen3_writer_put.k 5 [] k (gen3_writer_put.s5 l r0ID r0Inc r0Status r0SpanLo r0SpanHi r0Cut r0Bag last base x1 x2 x3 x4 x5 x6 x7 x8 x9) = gen3_writer_put.l5 fuel l r0ID r0Inc r0Status r0SpanLo r0SpanHi r0Cut r0Bag last base k x1 x2 x3 x4 x5 x6 x7 x8 x9 := by
  intro k
  induction k with
  | zero => intro x1 x2 x3 x4 x5 x6 x7 x8 x9; rfl
  | succ k ih =>
    intro x1 x2 x3 x4 x5 x6 x7 x8 x9
    have h : lp gen3_writer_put_E fuel Try.f92 [.pb [.own (some 0) [] 0 5 (.int .u8) true, .kill 1]] 2 gen3_writer_put.k 5 [] (k + 1) (gen3_writer_put.s5 l r0ID r0Inc r0Status r0SpanLo r0SpanHi r0Cut r0Bag last base x1 x2 x3 x4 x5 x6 x7 x8 x9) = gen3_writer_put.b5 l r0ID r0Inc r0Status r0SpanLo r0SpanHi r0Cut r0Bag last base (fun x1 x2 x3 x4 x5 x6 x7 x8 x9 => lp gen3_writer_put_E fuel Try.f92 [.pb [.own (some 0) [] 0 5 (.int .u8) true, .kill 1]] 2 gen3_writer_put.k 5 [] k (gen3_writer_put.s5 l r0ID r0Inc r0Status r0SpanLo r0SpanHi r0Cut r0Bag last base x1 x2 x3 x4 x5 x6 x7 x8 x9)) (fun x10 x11 x12 x13 x14 x15 x16 x17 x18 => lp gen3_writer_put_E fuel Try.f92 [.pb [.own (some 0) [] 0 5 (.int .u8) true, .kill 1]] 2 gen3_writer_put.k 7 [] fuel (gen3_writer_put.s7 l r0ID r0Inc r0Status r0SpanLo r0SpanHi r0Cut r0Bag last base x10 x11 x12 x13 x14 x15 x16 x17 x18)) x1 x2 x3 x4 x5 x6 x7 x8 x9 := by kernel_rfl
    rw [h]
    have e5 : (fun x1 x2 x3 x4 x5 x6 x7 x8 x9 => lp gen3_writer_put_E fuel Try.f92 [.pb [.own (some 0) [] 0 5 (.int .u8) true, .kill 1]] 2 gen3_writer_put.k 5 [] k (gen3_writer_put.s5 l r0ID r0Inc r0Status r0SpanLo r0SpanHi r0Cut r0Bag last base x1 x2 x3 x4 x5 x6 x7 x8 x9)) = gen3_writer_put.l5 fuel l r0ID r0Inc r0Status r0SpanLo r0SpanHi r0Cut r0Bag last base k := (funext fun x1 => (funext fun x2 => (funext fun x3 => (funext fun x4 => (funext fun x5 => (funext fun x6 => (funext fun x7 => (funext fun x8 => (funext fun x9 => ih x1 x2 x3 x4 x5 x6 x7 x8 x9)))))))))
    rw [e5]
    have e7 : (fun x10 x11 x12 x13 x14 x15 x16 x17 x18 => lp gen3_writer_put_E fuel Try.f92 [.pb [.own (some 0) [] 0 5 (.int .u8) true, .kill 1]] 2 gen3_writer_put.k 7 [] fuel (gen3_writer_put.s7 l r0ID r0Inc r0Status r0SpanLo r0SpanHi r0Cut r0Bag last base x10 x11 x12 x13 x14 x15 x16 x17 x18)) = gen3_writer_put.l7 fuel l r0ID r0Inc r0Status r0SpanLo r0SpanHi r0Cut r0Bag last base fuel := (funext fun x10 => (funext fun x11 => (funext fun x12 => (funext fun x13 => (funext fun x14 => (funext fun x15 => (funext fun x16 => (funext fun x17 => (funext fun x18 => gen3_writer_put.l7_eq fuel l r0ID r0Inc r0Status r0SpanLo r0SpanHi r0Cut r0Bag last base fuel x10 x11 x12 x13 x14 x15 x16 x17 x18)))))))))
    rw [e7]
    rfl
theorem gen3_writer_put.eq (fuel : Nat) (l : List Int) (r0ID : Int) (r0Inc : Int) (r0Status : Int) (r0SpanLo : Int) (r0SpanHi : Int) (r0Cut : Bool) (r0Bag : List (Int × List Int)) (last : Int) (base : List (Int × Int × Int × (Int × Int) × Bool × List (Int × List Int))) : (denF gen3_writer_put_E loopN fuel Try.f92 [.pb [.own (some 0) [] 0 5 (.int .u8) true, .kill 1]] [.agg [.ptr 0 0], .agg [.d (.int .i64) r0ID, .d (.int .i64) r0Inc, .d (.int .i64) r0Status, .d (.int .i64) r0SpanLo, .d (.int .i64) r0SpanHi, .d .bool r0Cut, .d (.sl (.pair (.int .i64) (.sl (.int .u8)))) r0Bag], .d (.int .i64) last, .d (.sl (.pair (.int .i64) (.pair (.int .i64) (.pair (.int .i64) (.pair (.pair (.int .i64) (.int .i64)) (.pair .bool (.sl (.pair (.int .i64) (.sl (.int .u8)))))))))) base] [.box [.row 1, .d .bool false], .row 5 (.int .u8) l false] gen3_writer_put.k) = gen3_writer_put.f fuel l r0ID r0Inc r0Status r0SpanLo r0SpanHi r0Cut r0Bag last base := by
  have h : (denF gen3_writer_put_E loopN fuel Try.f92 [.pb [.own (some 0) [] 0 5 (.int .u8) true, .kill 1]] [.agg [.ptr 0 0], .agg [.d (.int .i64) r0ID, .d (.int .i64) r0Inc, .d (.int .i64) r0Status, .d (.int .i64) r0SpanLo, .d (.int .i64) r0SpanHi, .d .bool r0Cut, .d (.sl (.pair (.int .i64) (.sl (.int .u8)))) r0Bag], .d (.int .i64) last, .d (.sl (.pair (.int .i64) (.pair (.int .i64) (.pair (.int .i64) (.pair (.pair (.int .i64) (.int .i64)) (.pair .bool (.sl (.pair (.int .i64) (.sl (.int .u8)))))))))) base] [.box [.row 1, .d .bool false], .row 5 (.int .u8) l false] gen3_writer_put.k) = gen3_writer_put.b l r0ID r0Inc r0Status r0SpanLo r0SpanHi r0Cut r0Bag last base (fun x1 x2 x3 x4 x5 x6 x7 x8 x9 => lp gen3_writer_put_E fuel Try.f92 [.pb [.own (some 0) [] 0 5 (.int .u8) true, .kill 1]] 2 gen3_writer_put.k 5 [] fuel (gen3_writer_put.s5 l r0ID r0Inc r0Status r0SpanLo r0SpanHi r0Cut r0Bag last base x1 x2 x3 x4 x5 x6 x7 x8 x9)) := by kernel_rfl
  rw [h]
  have e5 : (fun x1 x2 x3 x4 x5 x6 x7 x8 x9 => lp gen3_writer_put_E fuel Try.f92 [.pb [.own (some 0) [] 0 5 (.int .u8) true, .kill 1]] 2 gen3_writer_put.k 5 [] fuel (gen3_writer_put.s5 l r0ID r0Inc r0Status r0SpanLo r0SpanHi r0Cut r0Bag last base x1 x2 x3 x4 x5 x6 x7 x8 x9)) = gen3_writer_put.l5 fuel l r0ID r0Inc r0Status r0SpanLo r0SpanHi r0Cut r0Bag last base fuel := (funext fun x1 => (funext fun x2 => (funext fun x3 => (funext fun x4 => (funext fun x5 => (funext fun x6 => (funext fun x7 => (funext fun x8 => (funext fun x9 => gen3_writer_put.l5_eq fuel l r0ID r0Inc r0Status r0SpanLo r0SpanHi r0Cut r0Bag last base fuel x1 x2 x3 x4 x5 x6 x7 x8 x9)))))))))
  rw [e5]
  rfl
noncomputable def s_gen3_writer_put : Den.Sum := ⟨[.pb [.own none [0] 0 5 (.int .u8) false], .dat (.pair (.int .i64) (.pair (.int .i64) (.pair (.int .i64) (.pair (.pair (.int .i64) (.int .i64)) (.pair .bool (.sl (.pair (.int .i64) (.sl (.int .u8))))))))) true, .raw, .dat (.sl (.pair (.int .i64) (.pair (.int .i64) (.pair (.int .i64) (.pair (.pair (.int .i64) (.int .i64)) (.pair .bool (.sl (.pair (.int .i64) (.sl (.int .u8)))))))))) false], fun args objs κ => match args, objs with
  | [.agg [.ptr 0 0], .agg [.d (.int .i64) r0ID, .d (.int .i64) r0Inc, .d (.int .i64) r0Status, .d (.int .i64) r0SpanLo, .d (.int .i64) r0SpanHi, .d .bool r0Cut, .d (.sl (.pair (.int .i64) (.sl (.int .u8)))) r0Bag], .d (.int .i64) last, .d (.sl (.pair (.int .i64) (.pair (.int .i64) (.pair (.int .i64) (.pair (.pair (.int .i64) (.int .i64)) (.pair .bool (.sl (.pair (.int .i64) (.sl (.int .u8)))))))))) base], [.box [.row 1, .d .bool false], .row 5 (.int .u8) l false] => (match veil (gen3_writer_put.f BIG l r0ID r0Inc r0Status r0SpanLo r0SpanHi r0Cut r0Bag last base) with | none => none | some y => κ [] [.box [.row 2, .d .bool false], .gone, .row 5 (.int .u8) y false])
  | _, _ => none⟩
theorem s_gen3_writer_put_det : SumDet s_gen3_writer_put := fun avs objs R κ => by
  show s_gen3_writer_put.run avs objs (two κ) = (s_gen3_writer_put.run avs objs (two some)).bind κ
  unfold s_gen3_writer_put
  simp only [veil_eq]
  split
  · split <;> rfl
  · rfl
theorem s_gen3_writer_put_ok : SumOk Try.prog 92 s_gen3_writer_put := by
  have hE : EnvOk Try.prog gen3_writer_put_E := env_ok (l := [(90, s_num), (68, s_code), (91, s_gen3_writer_form), (98, s_bsame), (131, s_octet_Writer_Raw), (96, s_varint_Of), (97, s_rec_Find), (99, s_varint_Zig)]) th_ok any_ok ⟨⟨s_num_ok, s_num_det⟩, ⟨s_code_ok, s_code_det⟩, ⟨s_gen3_writer_form_ok, s_gen3_writer_form_det⟩, ⟨s_bsame_ok, s_bsame_det⟩, ⟨s_octet_Writer_Raw_ok, s_octet_Writer_Raw_det⟩, ⟨s_varint_Of_ok, s_varint_Of_det⟩, ⟨s_rec_Find_ok, s_rec_Find_det⟩, ⟨s_varint_Zig_ok, s_varint_Zig_det⟩, trivial⟩ _
  refine sum_ok hE Try.func92 rfl (by kernel_rfl) s_gen3_writer_put [.pb [.own (some 0) [] 0 5 (.int .u8) true, .kill 1]] gen3_writer_put.k ?_
  intro R avs objs κ r h
  unfold s_gen3_writer_put at h
  simp only [veil_eq] at h
  split at h
  · rename_i r0ID r0Inc r0Status r0SpanLo r0SpanHi r0Cut r0Bag last base l
    split at h
    · cases h
    · rename_i y hy
      refine ⟨BIG, _, _, _, (gen3_writer_put.eq BIG l r0ID r0Inc r0Status r0SpanLo r0SpanHi r0Cut r0Bag last base).trans hy, ?_, h⟩
      intro rs ros hk
      unfold gen3_writer_put.k at hk
      split at hk
      · first | (cases hk; exact ⟨rfl, rfl⟩) | (have e := Option.some.inj hk; rw [← e]; exact ⟨rfl, rfl⟩)
      · cases hk
  · cases h
noncomputable def gen3_lay_E : Env := ⟨th, gam [(89, s_write), (90, s_num), (68, s_code), (93, s_bytes), (50, s_has), (91, s_gen3_writer_form), (92, s_gen3_writer_put)], fun i => if i = 19 then ⟨[1, 5, 6, 78, 79, 80], [(1, 60, (.pair (.int .i64) (.pair (.int .i64) (.pair (.int .i64) (.pair (.pair (.int .i64) (.int .i64)) (.pair .bool (.sl (.pair (.int .i64) (.sl (.int .u8))))))))))], [1]⟩ else ⟨[], [], []⟩⟩
noncomputable def gen3_lay.k (rs : List AV) (os : List Den.Obj) : Option (List Int) :=
  match rs, os with
  | [.d (.sl (.int .u8)) r0], [] => some r0
  | _, _ => none
noncomputable def gen3_lay.s19 (mKind : Int) (mFrom : Int) (mInc : Int) (mSpanLo : Int) (mSpanHi : Int) (mSeq : Int) (mTarget : Int) (mLife : Int) (mEpoch : Int) (mBase : Int) (mRecs : List (Int × Int × Int × (Int × Int) × Bool × List (Int × List Int))) (base : List (Int × Int × Int × (Int × Int) × Bool × List (Int × List Int))) (x6 : (List (Int × (Int × (Int × ((Int × Int) × (Bool × (List (Int × (List Int)))))))))) (x7 : Int) (x8 : Int) (x9 : Int) (x10 : (List Int)) : St := ⟨[.dead, .d (.sl (.pair (.int .i64) (.pair (.int .i64) (.pair (.int .i64) (.pair (.pair (.int .i64) (.int .i64)) (.pair .bool (.sl (.pair (.int .i64) (.sl (.int .u8)))))))))) x6, .dead, .dead, .dead, .ptr 64 0, .d (.int .i64) x7, .dead, .dead, .dead, .dead, .dead, .dead, .dead, .dead, .dead, .dead, .dead, .dead, .dead, .dead, .dead, .dead, .dead, .dead, .dead, .dead, .dead, .dead, .dead, .dead, .dead, .dead, .dead, .dead, .dead, .dead, .dead, .dead, .dead, .dead, .dead, .dead, .dead, .dead, .dead, .dead, .dead, .dead, .dead, .dead, .dead, .dead, .dead, .dead, .dead, .dead, .dead, .dead, .dead, .dead, .dead, .dead, .dead, .dead, .dead, .dead, .dead, .dead, .dead, .dead, .dead, .dead, .dead, .dead, .dead, .dead, .dead, .d (.sl (.pair (.int .i64) (.pair (.int .i64) (.pair (.int .i64) (.pair (.pair (.int .i64) (.int .i64)) (.pair .bool (.sl (.pair (.int .i64) (.sl (.int .u8)))))))))) (mRecs), .d (.int .i64) x8, .d (.int .i64) x9, .dead, .dead, .dead, .dead, .dead, .dead, .dead, .dead, .dead, .dead, .dead, .dead, .dead, .dead, .dead, .dead, .dead, .dead], ofL [(64, .box [.ptr 65 0]), (65, .box [.row 66, .d .bool (false)]), (66, .row 5 (.int .u8) x10 false)], 0⟩
noncomputable def gen3_lay.b19 (mKind : Int) (mFrom : Int) (mInc : Int) (mSpanLo : Int) (mSpanHi : Int) (mSeq : Int) (mTarget : Int) (mLife : Int) (mEpoch : Int) (mBase : Int) (mRecs : List (Int × Int × Int × (Int × Int) × Bool × List (Int × List Int))) (base : List (Int × Int × Int × (Int × Int) × Bool × List (Int × List Int))) (A19 : (List (Int × (Int × (Int × ((Int × Int) × (Bool × (List (Int × (List Int))))))))) → Int → Int → Int → (List Int) → Option (List Int)) (x6 : (List (Int × (Int × (Int × ((Int × Int) × (Bool × (List (Int × (List Int)))))))))) (x7 : Int) (x8 : Int) (x9 : Int) (x10 : (List Int)) : Option (List Int) :=
  (if (decide (x9 < x8)) then (match (idx mRecs x9) with | none => none | some y11 => (match (veil (gen3_writer_put.f BIG x10 y11.1 y11.2.1 y11.2.2.1 y11.2.2.2.1.1 y11.2.2.2.1.2 y11.2.2.2.2.1 y11.2.2.2.2.2 x7 x6)) with | none => none | some y12 => A19 x6 y11.1 x8 (Go.IntKind.wrap .i64 (x9 + (1 : Int))) y12)) else (if (roomy x10) then some (x10) else none))
noncomputable def gen3_lay.l19 (fuel : Nat) (mKind : Int) (mFrom : Int) (mInc : Int) (mSpanLo : Int) (mSpanHi : Int) (mSeq : Int) (mTarget : Int) (mLife : Int) (mEpoch : Int) (mBase : Int) (mRecs : List (Int × Int × Int × (Int × Int) × Bool × List (Int × List Int))) (base : List (Int × Int × Int × (Int × Int) × Bool × List (Int × List Int))) : Nat → (List (Int × (Int × (Int × ((Int × Int) × (Bool × (List (Int × (List Int))))))))) → Int → Int → Int → (List Int) → Option (List Int)
  | 0, _, _, _, _, _ => none
  | k + 1, x6, x7, x8, x9, x10 => gen3_lay.b19 mKind mFrom mInc mSpanLo mSpanHi mSeq mTarget mLife mEpoch mBase mRecs base (gen3_lay.l19 fuel mKind mFrom mInc mSpanLo mSpanHi mSeq mTarget mLife mEpoch mBase mRecs base k) x6 x7 x8 x9 x10
noncomputable def gen3_lay.b (mKind : Int) (mFrom : Int) (mInc : Int) (mSpanLo : Int) (mSpanHi : Int) (mSeq : Int) (mTarget : Int) (mLife : Int) (mEpoch : Int) (mBase : Int) (mRecs : List (Int × Int × Int × (Int × Int) × Bool × List (Int × List Int))) (base : List (Int × Int × Int × (Int × Int) × Bool × List (Int × List Int))) (E19 : (List (Int × (Int × (Int × ((Int × Int) × (Bool × (List (Int × (List Int))))))))) → Int → Int → Int → (List Int) → Option (List Int)) : Option (List Int) :=
  (if (mBase == (0 : Int)) then (if (fitsF (1 : Int) mKind) then (match (veil (gen3_writer_form.f BIG (be (Int.toNat (1 : Int)) mKind) (mFrom :: (mInc :: ([] : List Int))))) with | none => none | some y0 => (if ((fitsF (1 : Int) (codeF mSpanLo mSpanHi)) ∧ (roomy y0)) then (if (hasF mKind (0 : Int)) then (match (veil (gen3_writer_form.f BIG (y0 ++ (be (Int.toNat (1 : Int)) (codeF mSpanLo mSpanHi))) (mSeq :: ([] : List Int)))) with | none => none | some y1 => (if (hasF mKind (1 : Int)) then (match (veil (gen3_writer_form.f BIG y1 (mTarget :: ([] : List Int)))) with | none => none | some y2 => (if (hasF mKind (2 : Int)) then (match (veil (gen3_writer_form.f BIG y2 (mLife :: (mEpoch :: ([] : List Int))))) with | none => none | some y3 => (if (hasF mKind (3 : Int)) then (match (veil (gen3_writer_form.f BIG y3 (mBase :: ([] : List Int)))) with | none => none | some y4 => (if (hasF mKind (4 : Int)) then (match (veil (gen3_writer_form.f BIG y4 (((((List.length mRecs)) : Nat) : Int) :: ([] : List Int)))) with | none => none | some y5 => E19 ([] : List (Int × (Int × (Int × ((Int × Int) × (Bool × (List (Int × (List Int))))))))) (-(1 : Int)) ((((List.length mRecs)) : Nat) : Int) (0 : Int) y5) else E19 ([] : List (Int × (Int × (Int × ((Int × Int) × (Bool × (List (Int × (List Int))))))))) (-(1 : Int)) ((((List.length mRecs)) : Nat) : Int) (0 : Int) y4)) else (if (hasF mKind (4 : Int)) then (match (veil (gen3_writer_form.f BIG y3 (((((List.length mRecs)) : Nat) : Int) :: ([] : List Int)))) with | none => none | some y13 => E19 ([] : List (Int × (Int × (Int × ((Int × Int) × (Bool × (List (Int × (List Int))))))))) (-(1 : Int)) ((((List.length mRecs)) : Nat) : Int) (0 : Int) y13) else E19 ([] : List (Int × (Int × (Int × ((Int × Int) × (Bool × (List (Int × (List Int))))))))) (-(1 : Int)) ((((List.length mRecs)) : Nat) : Int) (0 : Int) y3))) else (if (hasF mKind (3 : Int)) then (match (veil (gen3_writer_form.f BIG y2 (mBase :: ([] : List Int)))) with | none => none | some y14 => (if (hasF mKind (4 : Int)) then (match (veil (gen3_writer_form.f BIG y14 (((((List.length mRecs)) : Nat) : Int) :: ([] : List Int)))) with | none => none | some y15 => E19 ([] : List (Int × (Int × (Int × ((Int × Int) × (Bool × (List (Int × (List Int))))))))) (-(1 : Int)) ((((List.length mRecs)) : Nat) : Int) (0 : Int) y15) else E19 ([] : List (Int × (Int × (Int × ((Int × Int) × (Bool × (List (Int × (List Int))))))))) (-(1 : Int)) ((((List.length mRecs)) : Nat) : Int) (0 : Int) y14)) else (if (hasF mKind (4 : Int)) then (match (veil (gen3_writer_form.f BIG y2 (((((List.length mRecs)) : Nat) : Int) :: ([] : List Int)))) with | none => none | some y16 => E19 ([] : List (Int × (Int × (Int × ((Int × Int) × (Bool × (List (Int × (List Int))))))))) (-(1 : Int)) ((((List.length mRecs)) : Nat) : Int) (0 : Int) y16) else E19 ([] : List (Int × (Int × (Int × ((Int × Int) × (Bool × (List (Int × (List Int))))))))) (-(1 : Int)) ((((List.length mRecs)) : Nat) : Int) (0 : Int) y2)))) else (if (hasF mKind (2 : Int)) then (match (veil (gen3_writer_form.f BIG y1 (mLife :: (mEpoch :: ([] : List Int))))) with | none => none | some y17 => (if (hasF mKind (3 : Int)) then (match (veil (gen3_writer_form.f BIG y17 (mBase :: ([] : List Int)))) with | none => none | some y18 => (if (hasF mKind (4 : Int)) then (match (veil (gen3_writer_form.f BIG y18 (((((List.length mRecs)) : Nat) : Int) :: ([] : List Int)))) with | none => none | some y19 => E19 ([] : List (Int × (Int × (Int × ((Int × Int) × (Bool × (List (Int × (List Int))))))))) (-(1 : Int)) ((((List.length mRecs)) : Nat) : Int) (0 : Int) y19) else E19 ([] : List (Int × (Int × (Int × ((Int × Int) × (Bool × (List (Int × (List Int))))))))) (-(1 : Int)) ((((List.length mRecs)) : Nat) : Int) (0 : Int) y18)) else (if (hasF mKind (4 : Int)) then (match (veil (gen3_writer_form.f BIG y17 (((((List.length mRecs)) : Nat) : Int) :: ([] : List Int)))) with | none => none | some y20 => E19 ([] : List (Int × (Int × (Int × ((Int × Int) × (Bool × (List (Int × (List Int))))))))) (-(1 : Int)) ((((List.length mRecs)) : Nat) : Int) (0 : Int) y20) else E19 ([] : List (Int × (Int × (Int × ((Int × Int) × (Bool × (List (Int × (List Int))))))))) (-(1 : Int)) ((((List.length mRecs)) : Nat) : Int) (0 : Int) y17))) else (if (hasF mKind (3 : Int)) then (match (veil (gen3_writer_form.f BIG y1 (mBase :: ([] : List Int)))) with | none => none | some y21 => (if (hasF mKind (4 : Int)) then (match (veil (gen3_writer_form.f BIG y21 (((((List.length mRecs)) : Nat) : Int) :: ([] : List Int)))) with | none => none | some y22 => E19 ([] : List (Int × (Int × (Int × ((Int × Int) × (Bool × (List (Int × (List Int))))))))) (-(1 : Int)) ((((List.length mRecs)) : Nat) : Int) (0 : Int) y22) else E19 ([] : List (Int × (Int × (Int × ((Int × Int) × (Bool × (List (Int × (List Int))))))))) (-(1 : Int)) ((((List.length mRecs)) : Nat) : Int) (0 : Int) y21)) else (if (hasF mKind (4 : Int)) then (match (veil (gen3_writer_form.f BIG y1 (((((List.length mRecs)) : Nat) : Int) :: ([] : List Int)))) with | none => none | some y23 => E19 ([] : List (Int × (Int × (Int × ((Int × Int) × (Bool × (List (Int × (List Int))))))))) (-(1 : Int)) ((((List.length mRecs)) : Nat) : Int) (0 : Int) y23) else E19 ([] : List (Int × (Int × (Int × ((Int × Int) × (Bool × (List (Int × (List Int))))))))) (-(1 : Int)) ((((List.length mRecs)) : Nat) : Int) (0 : Int) y1))))) else (if (hasF mKind (1 : Int)) then (match (veil (gen3_writer_form.f BIG (y0 ++ (be (Int.toNat (1 : Int)) (codeF mSpanLo mSpanHi))) (mTarget :: ([] : List Int)))) with | none => none | some y24 => (if (hasF mKind (2 : Int)) then (match (veil (gen3_writer_form.f BIG y24 (mLife :: (mEpoch :: ([] : List Int))))) with | none => none | some y25 => (if (hasF mKind (3 : Int)) then (match (veil (gen3_writer_form.f BIG y25 (mBase :: ([] : List Int)))) with | none => none | some y26 => (if (hasF mKind (4 : Int)) then (match (veil (gen3_writer_form.f BIG y26 (((((List.length mRecs)) : Nat) : Int) :: ([] : List Int)))) with | none => none | some y27 => E19 ([] : List (Int × (Int × (Int × ((Int × Int) × (Bool × (List (Int × (List Int))))))))) (-(1 : Int)) ((((List.length mRecs)) : Nat) : Int) (0 : Int) y27) else E19 ([] : List (Int × (Int × (Int × ((Int × Int) × (Bool × (List (Int × (List Int))))))))) (-(1 : Int)) ((((List.length mRecs)) : Nat) : Int) (0 : Int) y26)) else (if (hasF mKind (4 : Int)) then (match (veil (gen3_writer_form.f BIG y25 (((((List.length mRecs)) : Nat) : Int) :: ([] : List Int)))) with | none => none | some y28 => E19 ([] : List (Int × (Int × (Int × ((Int × Int) × (Bool × (List (Int × (List Int))))))))) (-(1 : Int)) ((((List.length mRecs)) : Nat) : Int) (0 : Int) y28) else E19 ([] : List (Int × (Int × (Int × ((Int × Int) × (Bool × (List (Int × (List Int))))))))) (-(1 : Int)) ((((List.length mRecs)) : Nat) : Int) (0 : Int) y25))) else (if (hasF mKind (3 : Int)) then (match (veil (gen3_writer_form.f BIG y24 (mBase :: ([] : List Int)))) with | none => none | some y29 => (if (hasF mKind (4 : Int)) then (match (veil (gen3_writer_form.f BIG y29 (((((List.length mRecs)) : Nat) : Int) :: ([] : List Int)))) with | none => none | some y30 => E19 ([] : List (Int × (Int × (Int × ((Int × Int) × (Bool × (List (Int × (List Int))))))))) (-(1 : Int)) ((((List.length mRecs)) : Nat) : Int) (0 : Int) y30) else E19 ([] : List (Int × (Int × (Int × ((Int × Int) × (Bool × (List (Int × (List Int))))))))) (-(1 : Int)) ((((List.length mRecs)) : Nat) : Int) (0 : Int) y29)) else (if (hasF mKind (4 : Int)) then (match (veil (gen3_writer_form.f BIG y24 (((((List.length mRecs)) : Nat) : Int) :: ([] : List Int)))) with | none => none | some y31 => E19 ([] : List (Int × (Int × (Int × ((Int × Int) × (Bool × (List (Int × (List Int))))))))) (-(1 : Int)) ((((List.length mRecs)) : Nat) : Int) (0 : Int) y31) else E19 ([] : List (Int × (Int × (Int × ((Int × Int) × (Bool × (List (Int × (List Int))))))))) (-(1 : Int)) ((((List.length mRecs)) : Nat) : Int) (0 : Int) y24)))) else (if (hasF mKind (2 : Int)) then (match (veil (gen3_writer_form.f BIG (y0 ++ (be (Int.toNat (1 : Int)) (codeF mSpanLo mSpanHi))) (mLife :: (mEpoch :: ([] : List Int))))) with | none => none | some y32 => (if (hasF mKind (3 : Int)) then (match (veil (gen3_writer_form.f BIG y32 (mBase :: ([] : List Int)))) with | none => none | some y33 => (if (hasF mKind (4 : Int)) then (match (veil (gen3_writer_form.f BIG y33 (((((List.length mRecs)) : Nat) : Int) :: ([] : List Int)))) with | none => none | some y34 => E19 ([] : List (Int × (Int × (Int × ((Int × Int) × (Bool × (List (Int × (List Int))))))))) (-(1 : Int)) ((((List.length mRecs)) : Nat) : Int) (0 : Int) y34) else E19 ([] : List (Int × (Int × (Int × ((Int × Int) × (Bool × (List (Int × (List Int))))))))) (-(1 : Int)) ((((List.length mRecs)) : Nat) : Int) (0 : Int) y33)) else (if (hasF mKind (4 : Int)) then (match (veil (gen3_writer_form.f BIG y32 (((((List.length mRecs)) : Nat) : Int) :: ([] : List Int)))) with | none => none | some y35 => E19 ([] : List (Int × (Int × (Int × ((Int × Int) × (Bool × (List (Int × (List Int))))))))) (-(1 : Int)) ((((List.length mRecs)) : Nat) : Int) (0 : Int) y35) else E19 ([] : List (Int × (Int × (Int × ((Int × Int) × (Bool × (List (Int × (List Int))))))))) (-(1 : Int)) ((((List.length mRecs)) : Nat) : Int) (0 : Int) y32))) else (if (hasF mKind (3 : Int)) then (match (veil (gen3_writer_form.f BIG (y0 ++ (be (Int.toNat (1 : Int)) (codeF mSpanLo mSpanHi))) (mBase :: ([] : List Int)))) with | none => none | some y36 => (if (hasF mKind (4 : Int)) then (match (veil (gen3_writer_form.f BIG y36 (((((List.length mRecs)) : Nat) : Int) :: ([] : List Int)))) with | none => none | some y37 => E19 ([] : List (Int × (Int × (Int × ((Int × Int) × (Bool × (List (Int × (List Int))))))))) (-(1 : Int)) ((((List.length mRecs)) : Nat) : Int) (0 : Int) y37) else E19 ([] : List (Int × (Int × (Int × ((Int × Int) × (Bool × (List (Int × (List Int))))))))) (-(1 : Int)) ((((List.length mRecs)) : Nat) : Int) (0 : Int) y36)) else (if (hasF mKind (4 : Int)) then (match (veil (gen3_writer_form.f BIG (y0 ++ (be (Int.toNat (1 : Int)) (codeF mSpanLo mSpanHi))) (((((List.length mRecs)) : Nat) : Int) :: ([] : List Int)))) with | none => none | some y38 => E19 ([] : List (Int × (Int × (Int × ((Int × Int) × (Bool × (List (Int × (List Int))))))))) (-(1 : Int)) ((((List.length mRecs)) : Nat) : Int) (0 : Int) y38) else E19 ([] : List (Int × (Int × (Int × ((Int × Int) × (Bool × (List (Int × (List Int))))))))) (-(1 : Int)) ((((List.length mRecs)) : Nat) : Int) (0 : Int) (y0 ++ (be (Int.toNat (1 : Int)) (codeF mSpanLo mSpanHi)))))))) else none)) else none) else (if (fitsF (1 : Int) mKind) then (match (veil (gen3_writer_form.f BIG (be (Int.toNat (1 : Int)) mKind) (mFrom :: (mInc :: ([] : List Int))))) with | none => none | some y39 => (if ((fitsF (1 : Int) (codeF mSpanLo mSpanHi)) ∧ (roomy y39)) then (if (hasF mKind (0 : Int)) then (match (veil (gen3_writer_form.f BIG (y39 ++ (be (Int.toNat (1 : Int)) (codeF mSpanLo mSpanHi))) (mSeq :: ([] : List Int)))) with | none => none | some y40 => (if (hasF mKind (1 : Int)) then (match (veil (gen3_writer_form.f BIG y40 (mTarget :: ([] : List Int)))) with | none => none | some y41 => (if (hasF mKind (2 : Int)) then (match (veil (gen3_writer_form.f BIG y41 (mLife :: (mEpoch :: ([] : List Int))))) with | none => none | some y42 => (if (hasF mKind (3 : Int)) then (match (veil (gen3_writer_form.f BIG y42 (mBase :: ([] : List Int)))) with | none => none | some y43 => (if (hasF mKind (4 : Int)) then (match (veil (gen3_writer_form.f BIG y43 (((((List.length mRecs)) : Nat) : Int) :: ([] : List Int)))) with | none => none | some y44 => E19 base (-(1 : Int)) ((((List.length mRecs)) : Nat) : Int) (0 : Int) y44) else E19 base (-(1 : Int)) ((((List.length mRecs)) : Nat) : Int) (0 : Int) y43)) else (if (hasF mKind (4 : Int)) then (match (veil (gen3_writer_form.f BIG y42 (((((List.length mRecs)) : Nat) : Int) :: ([] : List Int)))) with | none => none | some y45 => E19 base (-(1 : Int)) ((((List.length mRecs)) : Nat) : Int) (0 : Int) y45) else E19 base (-(1 : Int)) ((((List.length mRecs)) : Nat) : Int) (0 : Int) y42))) else (if (hasF mKind (3 : Int)) then (match (veil (gen3_writer_form.f BIG y41 (mBase :: ([] : List Int)))) with | none => none | some y46 => (if (hasF mKind (4 : Int)) then (match (veil (gen3_writer_form.f BIG y46 (((((List.length mRecs)) : Nat) : Int) :: ([] : List Int)))) with | none => none | some y47 => E19 base (-(1 : Int)) ((((List.length mRecs)) : Nat) : Int) (0 : Int) y47) else E19 base (-(1 : Int)) ((((List.length mRecs)) : Nat) : Int) (0 : Int) y46)) else (if (hasF mKind (4 : Int)) then (match (veil (gen3_writer_form.f BIG y41 (((((List.length mRecs)) : Nat) : Int) :: ([] : List Int)))) with | none => none | some y48 => E19 base (-(1 : Int)) ((((List.length mRecs)) : Nat) : Int) (0 : Int) y48) else E19 base (-(1 : Int)) ((((List.length mRecs)) : Nat) : Int) (0 : Int) y41)))) else (if (hasF mKind (2 : Int)) then (match (veil (gen3_writer_form.f BIG y40 (mLife :: (mEpoch :: ([] : List Int))))) with | none => none | some y49 => (if (hasF mKind (3 : Int)) then (match (veil (gen3_writer_form.f BIG y49 (mBase :: ([] : List Int)))) with | none => none | some y50 => (if (hasF mKind (4 : Int)) then (match (veil (gen3_writer_form.f BIG y50 (((((List.length mRecs)) : Nat) : Int) :: ([] : List Int)))) with | none => none | some y51 => E19 base (-(1 : Int)) ((((List.length mRecs)) : Nat) : Int) (0 : Int) y51) else E19 base (-(1 : Int)) ((((List.length mRecs)) : Nat) : Int) (0 : Int) y50)) else (if (hasF mKind (4 : Int)) then (match (veil (gen3_writer_form.f BIG y49 (((((List.length mRecs)) : Nat) : Int) :: ([] : List Int)))) with | none => none | some y52 => E19 base (-(1 : Int)) ((((List.length mRecs)) : Nat) : Int) (0 : Int) y52) else E19 base (-(1 : Int)) ((((List.length mRecs)) : Nat) : Int) (0 : Int) y49))) else (if (hasF mKind (3 : Int)) then (match (veil (gen3_writer_form.f BIG y40 (mBase :: ([] : List Int)))) with | none => none | some y53 => (if (hasF mKind (4 : Int)) then (match (veil (gen3_writer_form.f BIG y53 (((((List.length mRecs)) : Nat) : Int) :: ([] : List Int)))) with | none => none | some y54 => E19 base (-(1 : Int)) ((((List.length mRecs)) : Nat) : Int) (0 : Int) y54) else E19 base (-(1 : Int)) ((((List.length mRecs)) : Nat) : Int) (0 : Int) y53)) else (if (hasF mKind (4 : Int)) then (match (veil (gen3_writer_form.f BIG y40 (((((List.length mRecs)) : Nat) : Int) :: ([] : List Int)))) with | none => none | some y55 => E19 base (-(1 : Int)) ((((List.length mRecs)) : Nat) : Int) (0 : Int) y55) else E19 base (-(1 : Int)) ((((List.length mRecs)) : Nat) : Int) (0 : Int) y40))))) else (if (hasF mKind (1 : Int)) then (match (veil (gen3_writer_form.f BIG (y39 ++ (be (Int.toNat (1 : Int)) (codeF mSpanLo mSpanHi))) (mTarget :: ([] : List Int)))) with | none => none | some y56 => (if (hasF mKind (2 : Int)) then (match (veil (gen3_writer_form.f BIG y56 (mLife :: (mEpoch :: ([] : List Int))))) with | none => none | some y57 => (if (hasF mKind (3 : Int)) then (match (veil (gen3_writer_form.f BIG y57 (mBase :: ([] : List Int)))) with | none => none | some y58 => (if (hasF mKind (4 : Int)) then (match (veil (gen3_writer_form.f BIG y58 (((((List.length mRecs)) : Nat) : Int) :: ([] : List Int)))) with | none => none | some y59 => E19 base (-(1 : Int)) ((((List.length mRecs)) : Nat) : Int) (0 : Int) y59) else E19 base (-(1 : Int)) ((((List.length mRecs)) : Nat) : Int) (0 : Int) y58)) else (if (hasF mKind (4 : Int)) then (match (veil (gen3_writer_form.f BIG y57 (((((List.length mRecs)) : Nat) : Int) :: ([] : List Int)))) with | none => none | some y60 => E19 base (-(1 : Int)) ((((List.length mRecs)) : Nat) : Int) (0 : Int) y60) else E19 base (-(1 : Int)) ((((List.length mRecs)) : Nat) : Int) (0 : Int) y57))) else (if (hasF mKind (3 : Int)) then (match (veil (gen3_writer_form.f BIG y56 (mBase :: ([] : List Int)))) with | none => none | some y61 => (if (hasF mKind (4 : Int)) then (match (veil (gen3_writer_form.f BIG y61 (((((List.length mRecs)) : Nat) : Int) :: ([] : List Int)))) with | none => none | some y62 => E19 base (-(1 : Int)) ((((List.length mRecs)) : Nat) : Int) (0 : Int) y62) else E19 base (-(1 : Int)) ((((List.length mRecs)) : Nat) : Int) (0 : Int) y61)) else (if (hasF mKind (4 : Int)) then (match (veil (gen3_writer_form.f BIG y56 (((((List.length mRecs)) : Nat) : Int) :: ([] : List Int)))) with | none => none | some y63 => E19 base (-(1 : Int)) ((((List.length mRecs)) : Nat) : Int) (0 : Int) y63) else E19 base (-(1 : Int)) ((((List.length mRecs)) : Nat) : Int) (0 : Int) y56)))) else (if (hasF mKind (2 : Int)) then (match (veil (gen3_writer_form.f BIG (y39 ++ (be (Int.toNat (1 : Int)) (codeF mSpanLo mSpanHi))) (mLife :: (mEpoch :: ([] : List Int))))) with | none => none | some y64 => (if (hasF mKind (3 : Int)) then (match (veil (gen3_writer_form.f BIG y64 (mBase :: ([] : List Int)))) with | none => none | some y65 => (if (hasF mKind (4 : Int)) then (match (veil (gen3_writer_form.f BIG y65 (((((List.length mRecs)) : Nat) : Int) :: ([] : List Int)))) with | none => none | some y66 => E19 base (-(1 : Int)) ((((List.length mRecs)) : Nat) : Int) (0 : Int) y66) else E19 base (-(1 : Int)) ((((List.length mRecs)) : Nat) : Int) (0 : Int) y65)) else (if (hasF mKind (4 : Int)) then (match (veil (gen3_writer_form.f BIG y64 (((((List.length mRecs)) : Nat) : Int) :: ([] : List Int)))) with | none => none | some y67 => E19 base (-(1 : Int)) ((((List.length mRecs)) : Nat) : Int) (0 : Int) y67) else E19 base (-(1 : Int)) ((((List.length mRecs)) : Nat) : Int) (0 : Int) y64))) else (if (hasF mKind (3 : Int)) then (match (veil (gen3_writer_form.f BIG (y39 ++ (be (Int.toNat (1 : Int)) (codeF mSpanLo mSpanHi))) (mBase :: ([] : List Int)))) with | none => none | some y68 => (if (hasF mKind (4 : Int)) then (match (veil (gen3_writer_form.f BIG y68 (((((List.length mRecs)) : Nat) : Int) :: ([] : List Int)))) with | none => none | some y69 => E19 base (-(1 : Int)) ((((List.length mRecs)) : Nat) : Int) (0 : Int) y69) else E19 base (-(1 : Int)) ((((List.length mRecs)) : Nat) : Int) (0 : Int) y68)) else (if (hasF mKind (4 : Int)) then (match (veil (gen3_writer_form.f BIG (y39 ++ (be (Int.toNat (1 : Int)) (codeF mSpanLo mSpanHi))) (((((List.length mRecs)) : Nat) : Int) :: ([] : List Int)))) with | none => none | some y70 => E19 base (-(1 : Int)) ((((List.length mRecs)) : Nat) : Int) (0 : Int) y70) else E19 base (-(1 : Int)) ((((List.length mRecs)) : Nat) : Int) (0 : Int) (y39 ++ (be (Int.toNat (1 : Int)) (codeF mSpanLo mSpanHi)))))))) else none)) else none))
noncomputable def gen3_lay.f (fuel : Nat) (mKind : Int) (mFrom : Int) (mInc : Int) (mSpanLo : Int) (mSpanHi : Int) (mSeq : Int) (mTarget : Int) (mLife : Int) (mEpoch : Int) (mBase : Int) (mRecs : List (Int × Int × Int × (Int × Int) × Bool × List (Int × List Int))) (base : List (Int × Int × Int × (Int × Int) × Bool × List (Int × List Int))) : Option (List Int) := gen3_lay.b mKind mFrom mInc mSpanLo mSpanHi mSeq mTarget mLife mEpoch mBase mRecs base (gen3_lay.l19 fuel mKind mFrom mInc mSpanLo mSpanHi mSeq mTarget mLife mEpoch mBase mRecs base fuel)
theorem gen3_lay.l19_eq (fuel : Nat) (mKind : Int) (mFrom : Int) (mInc : Int) (mSpanLo : Int) (mSpanHi : Int) (mSeq : Int) (mTarget : Int) (mLife : Int) (mEpoch : Int) (mBase : Int) (mRecs : List (Int × Int × Int × (Int × Int) × Bool × List (Int × List Int))) (base : List (Int × Int × Int × (Int × Int) × Bool × List (Int × List Int))) : ∀ (k : Nat) (x6 : (List (Int × (Int × (Int × ((Int × Int) × (Bool × (List (Int × (List Int)))))))))) (x7 : Int) (x8 : Int) (x9 : Int) (x10 : (List Int)), lp gen3_lay_E fuel Try.f56 [.own 5 (.int .u8)] 0 gen3_lay.k 19 [] k (gen3_lay.s19 mKind mFrom mInc mSpanLo mSpanHi mSeq mTarget mLife mEpoch mBase mRecs base x6 x7 x8 x9 x10) = gen3_lay.l19 fuel mKind mFrom mInc mSpanLo mSpanHi mSeq mTarget mLife mEpoch mBase mRecs base k x6 x7 x8 x9 x10 := by
  intro k
  induction k with
  | zero => intro x6 x7 x8 x9 x10; rfl
  | succ k ih =>
    intro x6 x7 x8 x9 x10
    have h : lp gen3_lay_E fuel Try.f56 [.own 5 (.int .u8)] 0 gen3_lay.k 19 [] (k + 1) (gen3_lay.s19 mKind mFrom mInc mSpanLo mSpanHi mSeq mTarget mLife mEpoch mBase mRecs base x6 x7 x8 x9 x10) = gen3_lay.b19 mKind mFrom mInc mSpanLo mSpanHi mSeq mTarget mLife mEpoch mBase mRecs base (fun x6 x7 x8 x9 x10 => lp gen3_lay_E fuel Try.f56 [.own 5 (.int .u8)] 0 gen3_lay.k 19 [] k (gen3_lay.s19 mKind mFrom mInc mSpanLo mSpanHi mSeq mTarget mLife mEpoch mBase mRecs base x6 x7 x8 x9 x10)) x6 x7 x8 x9 x10 := by kernel_rfl
    rw [h]
    have e19 : (fun x6 x7 x8 x9 x10 => lp gen3_lay_E fuel Try.f56 [.own 5 (.int .u8)] 0 gen3_lay.k 19 [] k (gen3_lay.s19 mKind mFrom mInc mSpanLo mSpanHi mSeq mTarget mLife mEpoch mBase mRecs base x6 x7 x8 x9 x10)) = gen3_lay.l19 fuel mKind mFrom mInc mSpanLo mSpanHi mSeq mTarget mLife mEpoch mBase mRecs base k := (funext fun x6 => (funext fun x7 => (funext fun x8 => (funext fun x9 => (funext fun x10 => ih x6 x7 x8 x9 x10)))))
    rw [e19]
    rfl
theorem gen3_lay.eq (fuel : Nat) (mKind : Int) (mFrom : Int) (mInc : Int) (mSpanLo : Int) (mSpanHi : Int) (mSeq : Int) (mTarget : Int) (mLife : Int) (mEpoch : Int) (mBase : Int) (mRecs : List (Int × Int × Int × (Int × Int) × Bool × List (Int × List Int))) (base : List (Int × Int × Int × (Int × Int) × Bool × List (Int × List Int))) : (denF gen3_lay_E loopN fuel Try.f56 [.own 5 (.int .u8)] [.agg [.d (.int .i64) mKind, .d (.int .i64) mFrom, .d (.int .i64) mInc, .d (.int .i64) mSpanLo, .d (.int .i64) mSpanHi, .d (.int .i64) mSeq, .d (.int .i64) mTarget, .d (.int .i64) mLife, .d (.int .i64) mEpoch, .d (.int .i64) mBase, .d (.sl (.pair (.int .i64) (.pair (.int .i64) (.pair (.int .i64) (.pair (.pair (.int .i64) (.int .i64)) (.pair .bool (.sl (.pair (.int .i64) (.sl (.int .u8)))))))))) mRecs], .d (.sl (.pair (.int .i64) (.pair (.int .i64) (.pair (.int .i64) (.pair (.pair (.int .i64) (.int .i64)) (.pair .bool (.sl (.pair (.int .i64) (.sl (.int .u8)))))))))) base] [] gen3_lay.k) = gen3_lay.f fuel mKind mFrom mInc mSpanLo mSpanHi mSeq mTarget mLife mEpoch mBase mRecs base := by
  have h : (denF gen3_lay_E loopN fuel Try.f56 [.own 5 (.int .u8)] [.agg [.d (.int .i64) mKind, .d (.int .i64) mFrom, .d (.int .i64) mInc, .d (.int .i64) mSpanLo, .d (.int .i64) mSpanHi, .d (.int .i64) mSeq, .d (.int .i64) mTarget, .d (.int .i64) mLife, .d (.int .i64) mEpoch, .d (.int .i64) mBase, .d (.sl (.pair (.int .i64) (.pair (.int .i64) (.pair (.int .i64) (.pair (.pair (.int .i64) (.int .i64)) (.pair .bool (.sl (.pair (.int .i64) (.sl (.int .u8)))))))))) mRecs], .d (.sl (.pair (.int .i64) (.pair (.int .i64) (.pair (.int .i64) (.pair (.pair (.int .i64) (.int .i64)) (.pair .bool (.sl (.pair (.int .i64) (.sl (.int .u8)))))))))) base] [] gen3_lay.k) = gen3_lay.b mKind mFrom mInc mSpanLo mSpanHi mSeq mTarget mLife mEpoch mBase mRecs base (fun x6 x7 x8 x9 x10 => lp gen3_lay_E fuel Try.f56 [.own 5 (.int .u8)] 0 gen3_lay.k 19 [] fuel (gen3_lay.s19 mKind mFrom mInc mSpanLo mSpanHi mSeq mTarget mLife mEpoch mBase mRecs base x6 x7 x8 x9 x10)) := by kernel_rfl
  rw [h]
  have e19 : (fun x6 x7 x8 x9 x10 => lp gen3_lay_E fuel Try.f56 [.own 5 (.int .u8)] 0 gen3_lay.k 19 [] fuel (gen3_lay.s19 mKind mFrom mInc mSpanLo mSpanHi mSeq mTarget mLife mEpoch mBase mRecs base x6 x7 x8 x9 x10)) = gen3_lay.l19 fuel mKind mFrom mInc mSpanLo mSpanHi mSeq mTarget mLife mEpoch mBase mRecs base fuel := (funext fun x6 => (funext fun x7 => (funext fun x8 => (funext fun x9 => (funext fun x10 => gen3_lay.l19_eq fuel mKind mFrom mInc mSpanLo mSpanHi mSeq mTarget mLife mEpoch mBase mRecs base fuel x6 x7 x8 x9 x10)))))
  rw [e19]
  rfl
noncomputable def s_gen3_lay : Den.Sum := ⟨[.dat (.pair (.int .i64) (.pair (.int .i64) (.pair (.int .i64) (.pair (.pair (.int .i64) (.int .i64)) (.pair (.int .i64) (.pair (.int .i64) (.pair (.int .i64) (.pair (.int .i64) (.pair (.int .i64) (.sl (.pair (.int .i64) (.pair (.int .i64) (.pair (.int .i64) (.pair (.pair (.int .i64) (.int .i64)) (.pair .bool (.sl (.pair (.int .i64) (.sl (.int .u8))))))))))))))))))) true, .dat (.sl (.pair (.int .i64) (.pair (.int .i64) (.pair (.int .i64) (.pair (.pair (.int .i64) (.int .i64)) (.pair .bool (.sl (.pair (.int .i64) (.sl (.int .u8)))))))))) false], fun args objs κ => match args, objs with
  | [.agg [.d (.int .i64) mKind, .d (.int .i64) mFrom, .d (.int .i64) mInc, .d (.int .i64) mSpanLo, .d (.int .i64) mSpanHi, .d (.int .i64) mSeq, .d (.int .i64) mTarget, .d (.int .i64) mLife, .d (.int .i64) mEpoch, .d (.int .i64) mBase, .d (.sl (.pair (.int .i64) (.pair (.int .i64) (.pair (.int .i64) (.pair (.pair (.int .i64) (.int .i64)) (.pair .bool (.sl (.pair (.int .i64) (.sl (.int .u8)))))))))) mRecs], .d (.sl (.pair (.int .i64) (.pair (.int .i64) (.pair (.int .i64) (.pair (.pair (.int .i64) (.int .i64)) (.pair .bool (.sl (.pair (.int .i64) (.sl (.int .u8)))))))))) base], [] => (match veil (gen3_lay.f BIG mKind mFrom mInc mSpanLo mSpanHi mSeq mTarget mLife mEpoch mBase mRecs base) with | none => none | some y => κ [.d (.sl (.int .u8)) y] [])
  | _, _ => none⟩
theorem s_gen3_lay_det : SumDet s_gen3_lay := fun avs objs R κ => by
  show s_gen3_lay.run avs objs (two κ) = (s_gen3_lay.run avs objs (two some)).bind κ
  unfold s_gen3_lay
  simp only [veil_eq]
  split
  · split <;> rfl
  · rfl
theorem s_gen3_lay_ok : SumOk Try.prog 56 s_gen3_lay := by
  have hE : EnvOk Try.prog gen3_lay_E := env_ok (l := [(89, s_write), (90, s_num), (68, s_code), (93, s_bytes), (50, s_has), (91, s_gen3_writer_form), (92, s_gen3_writer_put)]) th_ok any_ok ⟨⟨s_write_ok, s_write_det⟩, ⟨s_num_ok, s_num_det⟩, ⟨s_code_ok, s_code_det⟩, ⟨s_bytes_ok, s_bytes_det⟩, ⟨s_has_ok, s_has_det⟩, ⟨s_gen3_writer_form_ok, s_gen3_writer_form_det⟩, ⟨s_gen3_writer_put_ok, s_gen3_writer_put_det⟩, trivial⟩ _
  refine sum_ok hE Try.func56 rfl (by kernel_rfl) s_gen3_lay [.own 5 (.int .u8)] gen3_lay.k ?_
  intro R avs objs κ r h
  unfold s_gen3_lay at h
  simp only [veil_eq] at h
  split at h
  · rename_i mKind mFrom mInc mSpanLo mSpanHi mSeq mTarget mLife mEpoch mBase mRecs base
    split at h
    · cases h
    · rename_i y hy
      refine ⟨BIG, _, _, _, (gen3_lay.eq BIG mKind mFrom mInc mSpanLo mSpanHi mSeq mTarget mLife mEpoch mBase mRecs base).trans hy, ?_, h⟩
      intro rs ros hk
      unfold gen3_lay.k at hk
      split at hk
      · first | (cases hk; exact ⟨rfl, rfl⟩) | (have e := Option.some.inj hk; rw [← e]; exact ⟨rfl, rfl⟩)
      · cases hk
  · cases h
noncomputable def gen3_Encode_E : Env := ⟨th, gam [(20, s_valid), (21, s_sorted), (56, s_gen3_lay)], fun i => ⟨[], [], []⟩⟩
noncomputable def gen3_Encode.k (rs : List AV) (os : List Den.Obj) : Option ((List Int) × Int) :=
  match rs, os with
  | [.d (.sl (.int .u8)) r0, .d (.int .i64) r1], [] => some (r0, r1)
  | _, _ => none
noncomputable def gen3_Encode.b (mKind : Int) (mFrom : Int) (mInc : Int) (mSpanLo : Int) (mSpanHi : Int) (mSeq : Int) (mTarget : Int) (mLife : Int) (mEpoch : Int) (mBase : Int) (mRecs : List (Int × Int × Int × (Int × Int) × Bool × List (Int × List Int))) (base : List (Int × Int × Int × (Int × Int) × Bool × List (Int × List Int))) : Option ((List Int) × Int) :=
  (if (smallRecs mRecs) then (if (!(validF mKind mFrom mInc mSpanLo mSpanHi mSeq mTarget mLife mEpoch mBase mRecs)) then some (([] : List Int), (1 : Int)) else (if (smallRecs base) then (if (!(sortedF base)) then some (([] : List Int), (1 : Int)) else (match (veil (gen3_lay.f BIG mKind mFrom mInc mSpanLo mSpanHi mSeq mTarget mLife mEpoch mBase mRecs base)) with | none => none | some y0 => (if (decide (((((List.length y0)) : Nat) : Int) > (65499 : Int))) then some (([] : List Int), (14 : Int)) else some (y0, (0 : Int))))) else none)) else none)
noncomputable def gen3_Encode.f (fuel : Nat) (mKind : Int) (mFrom : Int) (mInc : Int) (mSpanLo : Int) (mSpanHi : Int) (mSeq : Int) (mTarget : Int) (mLife : Int) (mEpoch : Int) (mBase : Int) (mRecs : List (Int × Int × Int × (Int × Int) × Bool × List (Int × List Int))) (base : List (Int × Int × Int × (Int × Int) × Bool × List (Int × List Int))) : Option ((List Int) × Int) := gen3_Encode.b mKind mFrom mInc mSpanLo mSpanHi mSeq mTarget mLife mEpoch mBase mRecs base
theorem gen3_Encode.eq (fuel : Nat) (mKind : Int) (mFrom : Int) (mInc : Int) (mSpanLo : Int) (mSpanHi : Int) (mSeq : Int) (mTarget : Int) (mLife : Int) (mEpoch : Int) (mBase : Int) (mRecs : List (Int × Int × Int × (Int × Int) × Bool × List (Int × List Int))) (base : List (Int × Int × Int × (Int × Int) × Bool × List (Int × List Int))) : (denF gen3_Encode_E loopN fuel Try.f19 [.dat (.sl (.int .u8)) false, .raw] [.agg [.d (.int .i64) mKind, .d (.int .i64) mFrom, .d (.int .i64) mInc, .d (.int .i64) mSpanLo, .d (.int .i64) mSpanHi, .d (.int .i64) mSeq, .d (.int .i64) mTarget, .d (.int .i64) mLife, .d (.int .i64) mEpoch, .d (.int .i64) mBase, .d (.sl (.pair (.int .i64) (.pair (.int .i64) (.pair (.int .i64) (.pair (.pair (.int .i64) (.int .i64)) (.pair .bool (.sl (.pair (.int .i64) (.sl (.int .u8)))))))))) mRecs], .d (.sl (.pair (.int .i64) (.pair (.int .i64) (.pair (.int .i64) (.pair (.pair (.int .i64) (.int .i64)) (.pair .bool (.sl (.pair (.int .i64) (.sl (.int .u8)))))))))) base] [] gen3_Encode.k) = gen3_Encode.f fuel mKind mFrom mInc mSpanLo mSpanHi mSeq mTarget mLife mEpoch mBase mRecs base := by
  kernel_rfl
noncomputable def s_gen3_Encode : Den.Sum := ⟨[.dat (.pair (.int .i64) (.pair (.int .i64) (.pair (.int .i64) (.pair (.pair (.int .i64) (.int .i64)) (.pair (.int .i64) (.pair (.int .i64) (.pair (.int .i64) (.pair (.int .i64) (.pair (.int .i64) (.sl (.pair (.int .i64) (.pair (.int .i64) (.pair (.int .i64) (.pair (.pair (.int .i64) (.int .i64)) (.pair .bool (.sl (.pair (.int .i64) (.sl (.int .u8))))))))))))))))))) true, .dat (.sl (.pair (.int .i64) (.pair (.int .i64) (.pair (.int .i64) (.pair (.pair (.int .i64) (.int .i64)) (.pair .bool (.sl (.pair (.int .i64) (.sl (.int .u8)))))))))) false], fun args objs κ => match args, objs with
  | [.agg [.d (.int .i64) mKind, .d (.int .i64) mFrom, .d (.int .i64) mInc, .d (.int .i64) mSpanLo, .d (.int .i64) mSpanHi, .d (.int .i64) mSeq, .d (.int .i64) mTarget, .d (.int .i64) mLife, .d (.int .i64) mEpoch, .d (.int .i64) mBase, .d (.sl (.pair (.int .i64) (.pair (.int .i64) (.pair (.int .i64) (.pair (.pair (.int .i64) (.int .i64)) (.pair .bool (.sl (.pair (.int .i64) (.sl (.int .u8)))))))))) mRecs], .d (.sl (.pair (.int .i64) (.pair (.int .i64) (.pair (.int .i64) (.pair (.pair (.int .i64) (.int .i64)) (.pair .bool (.sl (.pair (.int .i64) (.sl (.int .u8)))))))))) base], [] => (match veil (gen3_Encode.f BIG mKind mFrom mInc mSpanLo mSpanHi mSeq mTarget mLife mEpoch mBase mRecs base) with | none => none | some y => κ [.d (.sl (.int .u8)) y.1, .d (.int .i64) y.2] [])
  | _, _ => none⟩
theorem s_gen3_Encode_det : SumDet s_gen3_Encode := fun avs objs R κ => by
  show s_gen3_Encode.run avs objs (two κ) = (s_gen3_Encode.run avs objs (two some)).bind κ
  unfold s_gen3_Encode
  simp only [veil_eq]
  split
  · split <;> rfl
  · rfl
theorem s_gen3_Encode_ok : SumOk Try.prog 19 s_gen3_Encode := by
  have hE : EnvOk Try.prog gen3_Encode_E := env_ok (l := [(20, s_valid), (21, s_sorted), (56, s_gen3_lay)]) th_ok any_ok ⟨⟨s_valid_ok, s_valid_det⟩, ⟨s_sorted_ok, s_sorted_det⟩, ⟨s_gen3_lay_ok, s_gen3_lay_det⟩, trivial⟩ _
  refine sum_ok hE Try.func19 rfl (by kernel_rfl) s_gen3_Encode [.dat (.sl (.int .u8)) false, .raw] gen3_Encode.k ?_
  intro R avs objs κ r h
  unfold s_gen3_Encode at h
  simp only [veil_eq] at h
  split at h
  · rename_i mKind mFrom mInc mSpanLo mSpanHi mSeq mTarget mLife mEpoch mBase mRecs base
    split at h
    · cases h
    · rename_i y hy
      refine ⟨BIG, _, _, _, (gen3_Encode.eq BIG mKind mFrom mInc mSpanLo mSpanHi mSeq mTarget mLife mEpoch mBase mRecs base).trans hy, ?_, h⟩
      intro rs ros hk
      unfold gen3_Encode.k at hk
      split at hk
      · first | (cases hk; exact ⟨rfl, rfl⟩) | (have e := Option.some.inj hk; rw [← e]; exact ⟨rfl, rfl⟩)
      · cases hk
  · cases h
noncomputable def law15_awake_E : Env := ⟨th, gam [(19, s_gen3_Encode)], fun i => ⟨[], [], []⟩⟩
noncomputable def law15_awake.k (rs : List AV) (os : List Den.Obj) : Option Bool :=
  match rs, os with
  | [.d .bool r0], [] => some r0
  | _, _ => none
noncomputable def law15_awake.b (u : Unit) : Option Bool :=
  (match (veil (gen3_Encode.f BIG (4 : Int) (5 : Int) (300 : Int) (1 : Int) (3 : Int) (7 : Int) 0 0 0 0 ([] : List (Int × (Int × (Int × ((Int × Int) × (Bool × (List (Int × (List Int))))))))) ([] : List (Int × (Int × (Int × ((Int × Int) × (Bool × (List (Int × (List Int))))))))))) with | none => none | some y0 => (match (veil (gen3_Encode.f BIG (7 : Int) 0 0 (1 : Int) (3 : Int) 0 0 0 (2 : Int) (1 : Int) (((2 : Int), ((1 : Int), (0, (((1 : Int), (3 : Int)), (false, ([] : List (Int × (List Int)))))))) :: ([] : List (Int × (Int × (Int × ((Int × Int) × (Bool × (List (Int × (List Int)))))))))) (((2 : Int), (0, (0, (((1 : Int), (3 : Int)), (false, ([] : List (Int × (List Int)))))))) :: ([] : List (Int × (Int × (Int × ((Int × Int) × (Bool × (List (Int × (List Int)))))))))))) with | none => none | some y1 => (if (y0.2 == (0 : Int)) then (if ((ByteArray.toList (strOf y0.1)) == (ByteArray.toList (strOf ((4 : Int) :: ((5 : Int) :: ((172 : Int) :: ((2 : Int) :: ((19 : Int) :: ((7 : Int) :: ((0 : Int) :: ([] : List Int))))))))))) then (if (y1.2 == (0 : Int)) then some (((ByteArray.toList (strOf y1.1)) == (ByteArray.toList (strOf ((7 : Int) :: ((0 : Int) :: ((0 : Int) :: ((19 : Int) :: ((0 : Int) :: ((2 : Int) :: ((1 : Int) :: ((1 : Int) :: ((2 : Int) :: ((24 : Int) :: ((2 : Int) :: ([] : List Int)))))))))))))))) else some (false)) else some (false)) else some (false))))
noncomputable def law15_awake.f (fuel : Nat) (u : Unit) : Option Bool := law15_awake.b u
theorem law15_awake.eq (fuel : Nat) (u : Unit) : (denF law15_awake_E loopN fuel Try.f18 [.raw] [] [] law15_awake.k) = law15_awake.f fuel u := by
  kernel_rfl
noncomputable def s_law15_awake : Den.Sum := ⟨[], fun args objs κ => match args, objs with
  | [], [] => (match veil (law15_awake.f BIG ()) with | none => none | some y => κ [.d .bool y] [])
  | _, _ => none⟩
theorem s_law15_awake_det : SumDet s_law15_awake := fun avs objs R κ => by
  show s_law15_awake.run avs objs (two κ) = (s_law15_awake.run avs objs (two some)).bind κ
  unfold s_law15_awake
  simp only [veil_eq]
  split
  · split <;> rfl
  · rfl
theorem s_law15_awake_ok : SumOk Try.prog 18 s_law15_awake := by
  have hE : EnvOk Try.prog law15_awake_E := env_ok (l := [(19, s_gen3_Encode)]) th_ok any_ok ⟨⟨s_gen3_Encode_ok, s_gen3_Encode_det⟩, trivial⟩ _
  refine sum_ok hE Try.func18 rfl (by kernel_rfl) s_law15_awake [.raw] law15_awake.k ?_
  intro R avs objs κ r h
  unfold s_law15_awake at h
  simp only [veil_eq] at h
  split at h
  · skip
    split at h
    · cases h
    · rename_i y hy
      refine ⟨BIG, _, _, _, (law15_awake.eq BIG ()).trans hy, ?_, h⟩
      intro rs ros hk
      unfold law15_awake.k at hk
      split at hk
      · first | (cases hk; exact ⟨rfl, rfl⟩) | (have e := Option.some.inj hk; rw [← e]; exact ⟨rfl, rfl⟩)
      · cases hk
  · cases h
noncomputable def law15_Gen3Less_E : Env := ⟨th, gam [(16, s_few10), (18, s_law15_awake), (19, s_gen3_Encode), (24, s_fits2), (25, s_enc2)], fun i => ⟨[], [], []⟩⟩
noncomputable def law15_Gen3Less.k (rs : List AV) (os : List Den.Obj) : Option Bool :=
  match rs, os with
  | [.d .bool r0], [] => some r0
  | _, _ => none
noncomputable def law15_Gen3Less.b (mKind : Int) (mFrom : Int) (mInc : Int) (mSpanLo : Int) (mSpanHi : Int) (mSeq : Int) (mTarget : Int) (mLife : Int) (mEpoch : Int) (mBase : Int) (mRecs : List (Int × Int × Int × (Int × Int) × Bool × List (Int × List Int))) : Option Bool :=
  (if (smallRecs mRecs) then (if (!(few8 mRecs)) then (match (veil (law15_awake.f BIG ())) with | none => none | some y0 => some (y0)) else (if (smallRecs mRecs) then (if (!(fits2 mKind mFrom mInc mSpanLo mSpanHi mSeq mTarget mLife mEpoch mBase mRecs)) then (match (veil (law15_awake.f BIG ())) with | none => none | some y1 => some (y1)) else (if (smallRecs mRecs) then (match (veil (gen3_Encode.f BIG mKind mFrom mInc mSpanLo mSpanHi mSeq mTarget mLife mEpoch mBase mRecs ([] : List (Int × (Int × (Int × ((Int × Int) × (Bool × (List (Int × (List Int))))))))))) with | none => none | some y2 => (if ((enc2 mKind mFrom mInc mSpanLo mSpanHi mSeq mTarget mLife mEpoch mBase mRecs).2 == (0 : Int)) then (if (y2.2 == (0 : Int)) then (if (decide (((((List.length y2.1)) : Nat) : Int) < ((((List.length (enc2 mKind mFrom mInc mSpanLo mSpanHi mSeq mTarget mLife mEpoch mBase mRecs).1)) : Nat) : Int))) then (match (veil (law15_awake.f BIG ())) with | none => none | some y3 => some (y3)) else some (false)) else some (false)) else some (false))) else none)) else none)) else none)
noncomputable def law15_Gen3Less.f (fuel : Nat) (mKind : Int) (mFrom : Int) (mInc : Int) (mSpanLo : Int) (mSpanHi : Int) (mSeq : Int) (mTarget : Int) (mLife : Int) (mEpoch : Int) (mBase : Int) (mRecs : List (Int × Int × Int × (Int × Int) × Bool × List (Int × List Int))) : Option Bool := law15_Gen3Less.b mKind mFrom mInc mSpanLo mSpanHi mSeq mTarget mLife mEpoch mBase mRecs
theorem law15_Gen3Less.eq (fuel : Nat) (mKind : Int) (mFrom : Int) (mInc : Int) (mSpanLo : Int) (mSpanHi : Int) (mSeq : Int) (mTarget : Int) (mLife : Int) (mEpoch : Int) (mBase : Int) (mRecs : List (Int × Int × Int × (Int × Int) × Bool × List (Int × List Int))) : (denF law15_Gen3Less_E loopN fuel Try.f4 [.raw] [.agg [.d (.int .i64) mKind, .d (.int .i64) mFrom, .d (.int .i64) mInc, .d (.int .i64) mSpanLo, .d (.int .i64) mSpanHi, .d (.int .i64) mSeq, .d (.int .i64) mTarget, .d (.int .i64) mLife, .d (.int .i64) mEpoch, .d (.int .i64) mBase, .d (.sl (.pair (.int .i64) (.pair (.int .i64) (.pair (.int .i64) (.pair (.pair (.int .i64) (.int .i64)) (.pair .bool (.sl (.pair (.int .i64) (.sl (.int .u8)))))))))) mRecs]] [] law15_Gen3Less.k) = law15_Gen3Less.f fuel mKind mFrom mInc mSpanLo mSpanHi mSeq mTarget mLife mEpoch mBase mRecs := by
  kernel_rfl
theorem gen3_writer_put.l17_at (fuel n k : Nat) (hn : n = k + 1) (l : List Int) (r0ID : Int) (r0Inc : Int) (r0Status : Int) (r0SpanLo : Int) (r0SpanHi : Int) (r0Cut : Bool) (r0Bag : List (Int × List Int)) (last : Int) (base : List (Int × Int × Int × (Int × Int) × Bool × List (Int × List Int))) (x41 : Int) (x42 : Int) (x43 : (List Int)) : gen3_writer_put.l17 fuel l r0ID r0Inc r0Status r0SpanLo r0SpanHi r0Cut r0Bag last base n x41 x42 x43 = gen3_writer_put.b17 l r0ID r0Inc r0Status r0SpanLo r0SpanHi r0Cut r0Bag last base (gen3_writer_put.l17 fuel l r0ID r0Inc r0Status r0SpanLo r0SpanHi r0Cut r0Bag last base k) x41 x42 x43 := by
  subst hn
  rfl
theorem gen3_writer_put.l13_at (fuel n k : Nat) (hn : n = k + 1) (l : List Int) (r0ID : Int) (r0Inc : Int) (r0Status : Int) (r0SpanLo : Int) (r0SpanHi : Int) (r0Cut : Bool) (r0Bag : List (Int × List Int)) (last : Int) (base : List (Int × Int × Int × (Int × Int) × Bool × List (Int × List Int))) (x28 : Int) (x29 : (List Int)) (x30 : Int) (x31 : Int) (x32 : Int) (x33 : Int) (x34 : Int) (x35 : Bool) (x36 : (List (Int × (List Int)))) : gen3_writer_put.l13 fuel l r0ID r0Inc r0Status r0SpanLo r0SpanHi r0Cut r0Bag last base n x28 x29 x30 x31 x32 x33 x34 x35 x36 = gen3_writer_put.b13 l r0ID r0Inc r0Status r0SpanLo r0SpanHi r0Cut r0Bag last base (gen3_writer_put.l13 fuel l r0ID r0Inc r0Status r0SpanLo r0SpanHi r0Cut r0Bag last base k) (gen3_writer_put.l17 fuel l r0ID r0Inc r0Status r0SpanLo r0SpanHi r0Cut r0Bag last base fuel) x28 x29 x30 x31 x32 x33 x34 x35 x36 := by
  subst hn
  rfl
theorem gen3_writer_put.l9_at (fuel n k : Nat) (hn : n = k + 1) (l : List Int) (r0ID : Int) (r0Inc : Int) (r0Status : Int) (r0SpanLo : Int) (r0SpanHi : Int) (r0Cut : Bool) (r0Bag : List (Int × List Int)) (last : Int) (base : List (Int × Int × Int × (Int × Int) × Bool × List (Int × List Int))) (x19 : Int) (x20 : Int) (x21 : Int) (x22 : Int) (x23 : Int) (x24 : Int) (x25 : Bool) (x26 : (List (Int × (List Int)))) : gen3_writer_put.l9 fuel l r0ID r0Inc r0Status r0SpanLo r0SpanHi r0Cut r0Bag last base n x19 x20 x21 x22 x23 x24 x25 x26 = gen3_writer_put.b9 l r0ID r0Inc r0Status r0SpanLo r0SpanHi r0Cut r0Bag last base (gen3_writer_put.l9 fuel l r0ID r0Inc r0Status r0SpanLo r0SpanHi r0Cut r0Bag last base k) (gen3_writer_put.l13 fuel l r0ID r0Inc r0Status r0SpanLo r0SpanHi r0Cut r0Bag last base fuel) x19 x20 x21 x22 x23 x24 x25 x26 := by
  subst hn
  rfl
theorem gen3_writer_put.l7_at (fuel n k : Nat) (hn : n = k + 1) (l : List Int) (r0ID : Int) (r0Inc : Int) (r0Status : Int) (r0SpanLo : Int) (r0SpanHi : Int) (r0Cut : Bool) (r0Bag : List (Int × List Int)) (last : Int) (base : List (Int × Int × Int × (Int × Int) × Bool × List (Int × List Int))) (x10 : Bool) (x11 : Int) (x12 : Int) (x13 : Int) (x14 : Int) (x15 : Int) (x16 : Int) (x17 : Bool) (x18 : (List (Int × (List Int)))) : gen3_writer_put.l7 fuel l r0ID r0Inc r0Status r0SpanLo r0SpanHi r0Cut r0Bag last base n x10 x11 x12 x13 x14 x15 x16 x17 x18 = gen3_writer_put.b7 l r0ID r0Inc r0Status r0SpanLo r0SpanHi r0Cut r0Bag last base (gen3_writer_put.l7 fuel l r0ID r0Inc r0Status r0SpanLo r0SpanHi r0Cut r0Bag last base k) (gen3_writer_put.l9 fuel l r0ID r0Inc r0Status r0SpanLo r0SpanHi r0Cut r0Bag last base fuel) x10 x11 x12 x13 x14 x15 x16 x17 x18 := by
  subst hn
  rfl
theorem gen3_writer_put.l5_at (fuel n k : Nat) (hn : n = k + 1) (l : List Int) (r0ID : Int) (r0Inc : Int) (r0Status : Int) (r0SpanLo : Int) (r0SpanHi : Int) (r0Cut : Bool) (r0Bag : List (Int × List Int)) (last : Int) (base : List (Int × Int × Int × (Int × Int) × Bool × List (Int × List Int))) (x1 : Bool) (x2 : Int) (x3 : Int) (x4 : Int) (x5 : Int) (x6 : Int) (x7 : Int) (x8 : Bool) (x9 : (List (Int × (List Int)))) : gen3_writer_put.l5 fuel l r0ID r0Inc r0Status r0SpanLo r0SpanHi r0Cut r0Bag last base n x1 x2 x3 x4 x5 x6 x7 x8 x9 = gen3_writer_put.b5 l r0ID r0Inc r0Status r0SpanLo r0SpanHi r0Cut r0Bag last base (gen3_writer_put.l5 fuel l r0ID r0Inc r0Status r0SpanLo r0SpanHi r0Cut r0Bag last base k) (gen3_writer_put.l7 fuel l r0ID r0Inc r0Status r0SpanLo r0SpanHi r0Cut r0Bag last base fuel) x1 x2 x3 x4 x5 x6 x7 x8 x9 := by
  subst hn
  rfl
abbrev REC := Int × Int × Int × (Int × Int) × Bool × LF
theorem big_eq : BIG = (BIG - 1) + 1 := by rw [BIG_eq]
/-- a number's form -/
noncomputable def viF : Nat → Int → List Int
  | 0, v => [v]
  | k + 1, v => if v ≥ 128 then (v % 128 + 128) :: viF k (v / 128) else [v]
noncomputable def vi (v : Int) : List Int := viF 9 v
theorem or128_tab : (List.range 256).all (fun n => bits Go.BinOp.or .u8 (n : Int) 128 == (n : Int) % 128 + 128) = true := by kernel_rfl
theorem or128 (c : Int) (h0 : 0 ≤ c) (h1 : c < 256) : bits Go.BinOp.or .u8 c 128 = c % 128 + 128 := by
  have := List.all_eq_true.1 or128_tab c.toNat (by simp; omega)
  rw [show ((c.toNat : Nat) : Int) = c from by omega] at this
  simpa using this
theorem wrapU8 (n : Int) : Go.IntKind.wrap .u8 n = n % 256 := by
  simp [Go.IntKind.wrap, IntKind.signed, IntKind.bits]
theorem Of.loop (fuel : Nat) (v : Int) : ∀ (j k : Nat) (x0 : Int) (x1 : List Int), 0 ≤ x0 → x0 < 128 ^ (j + 1) → j < k → x1.length + j < 1000 →
    varint_Of.l2 fuel v k x0 x1 = some (x1 ++ viF j x0) := by
  intro j
  induction j with
  | zero =>
    intro k x0 x1 h0 h1 hk hl
    obtain ⟨k, rfl⟩ : ∃ k', k = k' + 1 := ⟨k - 1, by omega⟩
    rw [varint_Of.l2]
    unfold varint_Of.b2
    rw [if_neg (by simp at h1 ⊢; omega), if_pos (by simp [lim]; omega), wrapU8, show x0 % 256 = x0 from by simp at h1; omega]
    rfl
  | succ j ih =>
    intro k x0 x1 h0 h1 hk hl
    obtain ⟨k, rfl⟩ : ∃ k', k = k' + 1 := ⟨k - 1, by omega⟩
    rw [varint_Of.l2]
    unfold varint_Of.b2
    rw [viF]
    by_cases hc : x0 ≥ 128
    · rw [if_pos (by simpa using hc), if_pos (by simp [lim]; omega), if_pos hc, wrapU8, or128 _ (by omega) (by omega)]
      rw [show ((2 : Int) ^ (Min.min (Int.toNat (7 : Int)) (Go.IntKind.bits .u64))) = 128 from rfl, Int.fdiv_eq_ediv_of_nonneg _ (by omega)]
      rw [ih k (x0 / 128) _ (by omega) (by rw [Int.pow_succ] at h1; generalize (128 : Int) ^ (j + 1) = M at h1 ⊢; omega) (by omega) (by simp; omega), show x0 % 256 % 128 = x0 % 128 from by omega]
      simp
    · rw [if_neg (by simpa using hc), if_pos (by simp [lim]; omega), if_neg hc, wrapU8, show x0 % 256 = x0 from by omega]
theorem Of.pure (v : Int) (h0 : 0 ≤ v) (h1 : v < 18446744073709551616) : varint_Of.f BIG v = some (vi v) := by
  unfold varint_Of.f varint_Of.b vi
  rw [Of.loop BIG v 9 BIG v [] h0 (by simp; omega) (by rw [BIG_eq]; omega) (by simp)]
  rfl
theorem viF_len : ∀ (j : Nat) (v : Int), 1 ≤ (viF j v).length ∧ (viF j v).length ≤ j + 1
  | 0, v => by simp [viF]
  | j + 1, v => by
    rw [viF]
    split
    · have := viF_len j (v / 128)
      simp; omega
    · simp
theorem vi_len (v : Int) : 1 ≤ (vi v).length ∧ (vi v).length ≤ 10 := viF_len 9 v
theorem Raw.pure (l b : List Int) (h : l.length + b.length ≤ 1099511627776) : octet_Writer_Raw.f BIG l b = some (l ++ b) := by
  unfold octet_Writer_Raw.f octet_Writer_Raw.b
  rw [if_pos (by simp [lim]; omega)]
theorem wrapU64 (n : Int) (h0 : 0 ≤ n) (h1 : n < 18446744073709551616) : Go.IntKind.wrap .u64 n = n := by
  simp [Go.IntKind.wrap, IntKind.signed, IntKind.bits]
  omega
theorem Form.loop (fuel : Nat) (l0 vs : List Int) (hv : ∀ v ∈ vs, 0 ≤ v ∧ v < 9223372036854775808) (hn : vs.length < 1000) : ∀ (k i : Nat) (acc : List Int), i ≤ vs.length → vs.length - i < k → acc.length + 10 * (vs.length - i) ≤ 1099511627776 →
    gen3_writer_form.l2 fuel l0 vs k (vs.length : Int) (i : Int) acc = some (acc ++ (vs.drop i).flatMap vi) := by
  intro k
  induction k with
  | zero => intro i acc h1 h2; omega
  | succ k ih =>
    intro i acc h1 h2 h3
    rw [gen3_writer_form.l2]
    unfold gen3_writer_form.b2
    simp only [veil_eq]
    by_cases hi : i < vs.length
    · rw [if_pos (by simp; omega), idx_at, List.getElem?_eq_getElem hi]
      dsimp only
      obtain ⟨v0, v1⟩ := hv vs[i] (List.getElem_mem hi)
      have hl := vi_len vs[i]
      rw [wrapU64 _ v0 (by omega), Of.pure _ v0 (by omega)]
      dsimp only
      rw [Raw.pure _ _ (by omega)]
      dsimp only
      rw [wrap_small _ (by omega) (by omega), show ((i : Int) + 1) = ((i + 1 : Nat) : Int) from by omega, ih (i + 1) _ (by omega) (by omega) (by simp; omega), List.drop_eq_getElem_cons hi, List.flatMap_cons]
      simp
    · rw [if_neg (by simp; omega), List.drop_of_length_le (by omega)]
      simp
theorem Form.pure (l vs : List Int) (hv : ∀ v ∈ vs, 0 ≤ v ∧ v < 9223372036854775808) (hn : vs.length < 1000) (hl : l.length + 10 * vs.length ≤ 1099511627776) : gen3_writer_form.f BIG l vs = some (l ++ vs.flatMap vi) := by
  unfold gen3_writer_form.f gen3_writer_form.b
  exact Form.loop BIG l vs hv hn BIG 0 l (by omega) (by rw [BIG_eq]; omega) (by omega)
/-- a number, so that small ones of either sign are small -/
noncomputable def zigF (n : Int) : Int := if n ≥ 0 then 2 * n else -2 * n - 1
theorem xor_zero (a : Int) (h0 : 0 ≤ a) (h1 : a < 18446744073709551616) : bits Go.BinOp.xor .u64 a 0 = a := by
  have e : bits Go.BinOp.xor .u64 a 0 = Go.IntKind.wrap .u64 ((BitVec.ofInt 64 a ^^^ 0#64).toNat : Int) := rfl
  rw [e, BitVec.xor_zero, BitVec.toNat_ofInt, wrapU64]
  · omega
  · omega
  · omega
theorem xor_ones (a : Int) (h0 : 0 ≤ a) (h1 : a < 18446744073709551616) : bits Go.BinOp.xor .u64 a 18446744073709551615 = 18446744073709551615 - a := by
  have e : bits Go.BinOp.xor .u64 a 18446744073709551615 = Go.IntKind.wrap .u64 ((BitVec.ofInt 64 a ^^^ BitVec.ofInt 64 18446744073709551615).toNat : Int) := rfl
  rw [e, show BitVec.ofInt 64 18446744073709551615 = BitVec.allOnes 64 from by decide +kernel, BitVec.xor_allOnes, BitVec.toNat_not, BitVec.toNat_ofInt, wrapU64]
  · omega
  · omega
  · omega
theorem Zig.pure (n : Int) (h0 : -4611686018427387904 ≤ n) (h1 : n < 4611686018427387904) : varint_Zig.f BIG n = some (zigF n) := by
  unfold varint_Zig.f varint_Zig.b zigF
  rw [show ((2 : Int) ^ (Min.min (Int.toNat (1 : Int)) (Go.IntKind.bits .u64))) = 2 from rfl, show ((2 : Int) ^ (Min.min (Int.toNat (63 : Int)) (Go.IntKind.bits .i64))) = 9223372036854775808 from by decide +kernel, Int.fdiv_eq_ediv_of_nonneg _ (by omega)]
  by_cases h : n ≥ 0
  · rw [if_pos h, show n / 9223372036854775808 = 0 from by omega, wrapU64 n (by omega) (by omega), wrapU64 _ (by omega) (by omega), wrapU64 0 (by omega) (by omega), xor_zero _ (by omega) (by omega)]
    congr 1
    omega
  · rw [if_neg h, show n / 9223372036854775808 = -1 from by omega]
    have e1 : Go.IntKind.wrap .u64 n = n + 18446744073709551616 := by simp [Go.IntKind.wrap, IntKind.signed, IntKind.bits]; omega
    have e2 : Go.IntKind.wrap .u64 ((n + 18446744073709551616) * 2) = 2 * n + 18446744073709551616 := by simp [Go.IntKind.wrap, IntKind.signed, IntKind.bits]; omega
    have e3 : Go.IntKind.wrap .u64 (-1) = 18446744073709551615 := by decide +kernel
    rw [e1, e2, e3, xor_ones _ (by omega) (by omega)]
    congr 1
    omega
theorem One.pure (t : Int) (d : List Int) (h : d.length ≤ 1099511627776) : bag_one.f BIG t d = some (t, d) := by
  unfold bag_one.f bag_one.b
  rw [if_pos (by simp; omega), if_pos (by simp)]
  simp
theorem Copy.loop (fuel : Nat) (b : LF) (b2 : ∀ x ∈ b, x.2.length ≤ 1000000) (hn : b.length < 1000000000) : ∀ (k i : Nat) (acc : LF), i ≤ b.length → b.length - i < k → acc.length ≤ i →
    bag_Copy.l3 fuel b k (b.length : Int) (i : Int) acc = some (acc ++ b.drop i) := by
  intro k
  induction k with
  | zero => intro i acc h1 h2; omega
  | succ k ih =>
    intro i acc h1 h2 h3
    rw [bag_Copy.l3]
    unfold bag_Copy.b3
    simp only [veil_eq]
    by_cases hi : i < b.length
    · rw [if_pos (by simp; omega), idx_at, List.getElem?_eq_getElem hi]
      dsimp only
      have hx := b2 b[i] (List.getElem_mem hi)
      rw [One.pure _ _ (by omega)]
      dsimp only
      rw [if_pos (by simp [lim]; omega), wrap_small _ (by omega) (by omega), show ((i : Int) + 1) = ((i + 1 : Nat) : Int) from by omega, ih (i + 1) _ (by omega) (by omega) (by simp; omega), List.drop_eq_getElem_cons hi]
      simp only [List.append_assoc, List.singleton_append]
    · rw [if_neg (by simp; omega), List.drop_of_length_le (by omega)]
      simp
theorem Copy.pure (b : LF) (hb : ∀ x ∈ b, x.2.length ≤ 1000000) (hn : b.length < 1000000000) : bag_Copy.f BIG b = some b := by
  unfold bag_Copy.f bag_Copy.b
  have := Copy.loop BIG b hb hn BIG 0 [] (by omega) (by rw [BIG_eq]; omega) (by simp)
  rw [show ((0 : Nat) : Int) = 0 from rfl] at this
  rw [this]
  simp
theorem Clone.pure (r : REC) (hb : ∀ x ∈ r.2.2.2.2.2, x.2.length ≤ 1000000) (hn : r.2.2.2.2.2.length < 1000000000) : rec_clone.f BIG r.1 r.2.1 r.2.2.1 r.2.2.2.1.1 r.2.2.2.1.2 r.2.2.2.2.1 r.2.2.2.2.2 = some (r.1, r.2.1, r.2.2.1, r.2.2.2.1.1, r.2.2.2.1.2, r.2.2.2.2.1, r.2.2.2.2.2) := by
  unfold rec_clone.f rec_clone.b
  rw [veil_eq, Copy.pure _ hb hn]
theorem WhereF.loop (fuel : Nat) (l : LR) (id : Int) (hn : l.length < 1000000000) : ∀ (k i : Nat), i ≤ l.length → l.length - i < k →
    rec_where_api_Rec_find.l2 fuel l id k (l.length : Int) (i : Int) id = some (((i + (l.drop i).findIdx (fun r => r.1 == id) : Nat) : Int), id) := by
  intro k
  induction k with
  | zero => intro i h1 h2; omega
  | succ k ih =>
    intro i h1 h2
    rw [rec_where_api_Rec_find.l2]
    unfold rec_where_api_Rec_find.b2
    simp only [veil_eq]
    by_cases hi : i < l.length
    · rw [if_pos (by simp; omega), idx_at, List.getElem?_eq_getElem hi]
      dsimp only
      rw [show rec_Find_c1.f BIG l[i].1 l[i].2.1 l[i].2.2.1 l[i].2.2.2.1.1 l[i].2.2.2.1.2 l[i].2.2.2.2.1 l[i].2.2.2.2.2 id = some ((l[i].1 == id), id) from rfl]
      dsimp only
      rw [List.drop_eq_getElem_cons hi, List.findIdx_cons]
      cases hc : (l[i].1 == id)
      · rw [if_neg (by simp), wrap_small _ (by omega) (by omega), show ((i : Int) + 1) = ((i + 1 : Nat) : Int) from by omega, ih (i + 1) (by omega) (by omega)]
        simp only [cond_false]
        congr 2
        omega
      · rw [if_pos rfl]
        simp
    · rw [if_neg (by simp; omega), List.drop_of_length_le (by omega)]
      simp
      omega
/-- the record of an id -/
noncomputable def oldR (base : LR) (id : Int) : REC × Bool :=
  match base.find? (fun r => r.1 == id) with
  | some r => (r, true)
  | none => ((0, 0, 0, (0, 0), false, []), false)
theorem find_idx (l : LR) (id : Int) : l.find? (fun r => r.1 == id) = l[l.findIdx (fun r => r.1 == id)]? := by
  induction l with
  | nil => rfl
  | cons x l ih =>
    rw [List.find?_cons, List.findIdx_cons]
    cases x.1 == id
    · simp [ih]
    · simp
/-- of a size that is written -/
def fineRecs (l : LR) : Prop := l.length < 1000000000 ∧ ∀ r ∈ l, r.2.2.2.2.2.length < 1000000000 ∧ ∀ x ∈ r.2.2.2.2.2, x.2.length ≤ 1000000
theorem Find.pure (l : LR) (id : Int) (hl : fineRecs l) :
    rec_Find.f BIG l id = some ((oldR l id).1.1, (oldR l id).1.2.1, (oldR l id).1.2.2.1, (oldR l id).1.2.2.2.1.1, (oldR l id).1.2.2.2.1.2, (oldR l id).1.2.2.2.2.1, (oldR l id).1.2.2.2.2.2, (oldR l id).2) := by
  obtain ⟨hn, l2⟩ := hl
  unfold rec_Find.f rec_Find.b
  simp only [veil_eq]
  have hw : rec_where_api_Rec_find.f BIG l id = some (((l.findIdx (fun r => r.1 == id) : Nat) : Int), id) := by
    unfold rec_where_api_Rec_find.f rec_where_api_Rec_find.b
    have := WhereF.loop BIG l id hn BIG 0 (by omega) (by rw [BIG_eq]; omega)
    rw [show ((0 : Nat) : Int) = 0 from rfl] at this
    rw [this]
    simp
  rw [hw]
  dsimp only
  unfold oldR
  rw [find_idx]
  by_cases hi : l.findIdx (fun r => r.1 == id) < l.length
  · rw [if_neg (by simp; omega), idx_at, List.getElem?_eq_getElem hi]
    dsimp only
    have hm := List.getElem_mem hi
    generalize l[l.findIdx (fun r => r.1 == id)] = r at hm ⊢
    rw [Clone.pure r (l2 r hm).2 (l2 r hm).1]
  · have : l.findIdx (fun r => r.1 == id) = l.length := by have := List.findIdx_le_length (xs := l) (p := fun r => r.1 == id); omega
    rw [if_pos (by rw [this]; simp), List.getElem?_eq_none (by omega)]
/-- a bag, written -/
noncomputable def fld3 (x : Int × List Int) : List Int := x.1 :: (vi (x.2.length : Int) ++ x.2)
noncomputable def bag3 (b : LF) : List Int := vi (b.length : Int) ++ b.flatMap fld3
noncomputable def sameSpan (o : REC × Bool) (r : REC) : Bool := o.2 && (o.1.2.2.2.1.1 == r.2.2.2.1.1 && o.1.2.2.2.1.2 == r.2.2.2.1.2)
noncomputable def sameBag (o : REC × Bool) (r : REC) : Bool := o.2 && (!r.2.2.2.2.1 && cmpGo o.1.2.2.2.2.2 r.2.2.2.2.2 == 0)
noncomputable def flagV (o : REC × Bool) (r : REC) : Int := r.2.2.1 + (if r.2.2.2.2.1 then 4 else 0) + (if sameSpan o r then 8 else 0) + (if sameBag o r then 16 else 0)
noncomputable def rec3 (o : REC × Bool) (last : Int) (r : REC) : List Int :=
  vi (r.1 - last - 1) ++ (flagV o r :: ((if sameSpan o r then [] else [r.2.2.2.1.1 * 16 + r.2.2.2.1.2]) ++ (vi (zigF (r.2.1 - o.1.2.1)) ++ (if r.2.2.2.2.1 || sameBag o r then [] else bag3 r.2.2.2.2.2))))
theorem flag_tab : (List.range 32).all (fun n => (bits Go.BinOp.and .i64 (n : Int) 8 == if (n : Int) / 8 % 2 = 1 then 8 else 0) && ((bits Go.BinOp.and .i64 (n : Int) 20 == if (n : Int) / 4 % 2 = 1 then (if (n : Int) / 16 = 1 then 20 else 4) else (if (n : Int) / 16 = 1 then 16 else 0)) && ((decide ((n : Int) ≥ 4) || (bits Go.BinOp.or .i64 (n : Int) 4 == (n : Int) + 4)) && ((decide ((n : Int) ≥ 8) || (bits Go.BinOp.or .i64 (n : Int) 8 == (n : Int) + 8)) && (decide ((n : Int) ≥ 16) || (bits Go.BinOp.or .i64 (n : Int) 16 == (n : Int) + 16)))))) = true := by kernel_rfl
theorem flag_at (v : Int) (h0 : 0 ≤ v) (h1 : v < 32) : (bits Go.BinOp.and .i64 v 8 = if v / 8 % 2 = 1 then 8 else 0) ∧ (bits Go.BinOp.and .i64 v 20 = if v / 4 % 2 = 1 then (if v / 16 = 1 then 20 else 4) else (if v / 16 = 1 then 16 else 0)) ∧ (v < 4 → bits Go.BinOp.or .i64 v 4 = v + 4) ∧ (v < 8 → bits Go.BinOp.or .i64 v 8 = v + 8) ∧ (v < 16 → bits Go.BinOp.or .i64 v 16 = v + 16) := by
  have := List.all_eq_true.1 flag_tab v.toNat (by simp; omega)
  rw [show ((v.toNat : Nat) : Int) = v from by omega] at this
  simp only [Bool.and_eq_true, beq_iff_eq, Bool.or_eq_true, decide_eq_true_eq] at this
  obtain ⟨a, b, c, d, e⟩ := this
  exact ⟨a, b, fun h => c.resolve_left (by omega), fun h => d.resolve_left (by omega), fun h => e.resolve_left (by omega)⟩
theorem fitByte (v : Int) (h0 : 0 ≤ v) (h1 : v < 256) : fitsF 1 v = true := (fitsF_iff 1 v).2 ⟨by omega, by omega, h0, by simpa using h1⟩
theorem be_one (v : Int) (h0 : 0 ≤ v) (h1 : v < 256) : be (Int.toNat (1 : Int)) v = [v] := be1 v h0 h1
theorem put_fields (l : List Int) (id inc st lo hi : Int) (cut : Bool) (bag : LF) (last : Int) (base : LR) (hb : ∀ x ∈ bag, 0 ≤ x.1 ∧ x.1 ≤ 255 ∧ x.2.length ≤ 1000000) (hn : bag.length < 1000000) :
    ∀ (k i : Nat) (acc : List Int), i ≤ bag.length → bag.length - i < k → acc.length + 2000000 * (bag.length - i) ≤ 1000000000000 →
    gen3_writer_put.l17 BIG l id inc st lo hi cut bag last base k (bag.length : Int) (i : Int) acc = some (acc ++ (bag.drop i).flatMap fld3) := by
  intro k
  induction k with
  | zero => intro i acc h1 h2; omega
  | succ k ih =>
    intro i acc h1 h2 h3
    rw [gen3_writer_put.l17_at BIG (k + 1) k rfl]
    unfold gen3_writer_put.b17
    simp only [veil_eq]
    by_cases hi' : i < bag.length
    · rw [if_pos (by simp; omega), idx_at, List.getElem?_eq_getElem hi']
      dsimp only
      obtain ⟨t0, t1, t2⟩ := hb bag[i] (List.getElem_mem hi')
      rw [List.drop_eq_getElem_cons hi', List.flatMap_cons]
      generalize bag[i] = x at t0 t1 t2 ⊢
      have hl := vi_len (x.2.length : Int)
      rw [if_pos ⟨fitByte _ t0 (by omega), (roomy_iff _).2 (by omega)⟩, be_one _ t0 (by omega), Form.pure _ _ (by intro v hv; simp at hv; omega) (by simp) (by simp; omega)]
      dsimp only
      simp only [List.flatMap_cons, List.flatMap_nil, List.append_nil]
      rw [Raw.pure _ _ (by simp; omega)]
      dsimp only
      rw [wrap_small _ (by omega) (by omega), show ((i : Int) + 1) = ((i + 1 : Nat) : Int) from by omega, ih (i + 1) _ (by omega) (by omega) (by simp; omega)]
      simp [fld3]
    · rw [if_neg (by simp; omega), List.drop_of_length_le (by omega)]
      simp
/-- the last part: what has changed of the incarnation, and the bag -/
theorem put13 (l : List Int) (id inc st lo hi : Int) (cut : Bool) (bag : LF) (last : Int) (base : LR) (v : Int) (acc : List Int) (a1 old a3 a4 a5 : Int) (a6 : Bool) (a7 : LF)
    (hb : ∀ x ∈ bag, 0 ≤ x.1 ∧ x.1 ≤ 255 ∧ x.2.length ≤ 1000000) (hn : bag.length < 10000) (hi0 : 0 ≤ inc) (hi1 : inc ≤ 281474976710655) (ho0 : 0 ≤ old) (ho1 : old ≤ 281474976710655) (hv0 : 0 ≤ v) (hv1 : v < 32) (hl : acc.length ≤ 100000000000) :
    gen3_writer_put.l13 BIG l id inc st lo hi cut bag last base BIG v acc a1 old a3 a4 a5 a6 a7 = some (acc ++ (vi (zigF (inc - old)) ++ (if v / 4 % 2 = 1 ∨ v / 16 = 1 then [] else bag3 bag))) := by
  rw [gen3_writer_put.l13_at BIG BIG (BIG - 1) big_eq]
  unfold gen3_writer_put.b13
  simp only [veil_eq]
  have hz : 0 ≤ zigF (inc - old) ∧ zigF (inc - old) < 1000000000000000000 := by unfold zigF; split <;> omega
  have hlz := vi_len (zigF (inc - old))
  rw [wrap_small _ (by omega) (by omega), Zig.pure _ (by omega) (by omega)]
  dsimp only
  rw [Of.pure _ hz.1 (by omega)]
  dsimp only
  rw [Raw.pure _ _ (by omega)]
  dsimp only
  rw [(flag_at v hv0 hv1).2.1]
  by_cases h4 : v / 4 % 2 = 1
  · rw [if_pos h4, if_pos (by split <;> decide), if_pos (.inl h4)]
    simp
  · rw [if_neg h4]
    by_cases h16 : v / 16 = 1
    · rw [if_pos h16, if_pos (by decide), if_pos (.inr h16)]
      simp
    · rw [if_neg h16, if_neg (by decide), if_neg (by omega), Form.pure _ _ (by intro x hx; simp at hx; omega) (by simp) (by simp; omega)]
      dsimp only
      simp only [List.flatMap_cons, List.flatMap_nil, List.append_nil]
      have hlb := vi_len (bag.length : Int)
      have := put_fields l id inc st lo hi cut bag last base hb (by omega) BIG 0 (acc ++ vi (zigF (inc - old)) ++ vi (bag.length : Int)) (by omega) (by rw [BIG_eq]; omega) (by simp; omega)
      rw [show ((0 : Nat) : Int) = 0 from rfl, List.drop_zero] at this
      rw [this]
      simp [bag3]
theorem put9 (l : List Int) (id inc st lo hi : Int) (cut : Bool) (bag : LF) (last : Int) (base : LR) (v : Int) (a1 old a3 a4 a5 : Int) (a6 : Bool) (a7 : LF)
    (hb : ∀ x ∈ bag, 0 ≤ x.1 ∧ x.1 ≤ 255 ∧ x.2.length ≤ 1000000) (hn : bag.length < 10000) (hi0 : 0 ≤ inc) (hi1 : inc ≤ 281474976710655) (ho0 : 0 ≤ old) (ho1 : old ≤ 281474976710655) (hv0 : 0 ≤ v) (hv1 : v < 32) (hl : l.length ≤ 10000000000)
    (hs : okS lo hi = true) (hid : id ≤ 4095) (hlast : -1 ≤ last) (hlt : last < id) :
    gen3_writer_put.l9 BIG l id inc st lo hi cut bag last base BIG v a1 old a3 a4 a5 a6 a7 = some (l ++ (vi (id - last - 1) ++ (v :: ((if v / 8 % 2 = 1 then [] else [lo * 16 + hi]) ++ (vi (zigF (inc - old)) ++ (if v / 4 % 2 = 1 ∨ v / 16 = 1 then [] else bag3 bag)))))) := by
  rw [gen3_writer_put.l9_at BIG BIG (BIG - 1) big_eq]
  unfold gen3_writer_put.b9
  simp only [veil_eq]
  have hlv := vi_len (id - last - 1)
  have hs' := (okS_iff _ _).1 hs
  rw [wrap_small (id - last) (by omega) (by omega), wrap_small (id - last - 1) (by omega) (by omega), Form.pure _ _ (by intro x hx; simp at hx; omega) (by simp) (by simp; omega)]
  dsimp only
  simp only [List.flatMap_cons, List.flatMap_nil, List.append_nil]
  rw [if_pos ⟨fitByte _ hv0 (by omega), (roomy_iff _).2 (by simp; omega)⟩, (flag_at v hv0 hv1).1, be_one v hv0 (by omega), code_eq hs]
  by_cases h8 : v / 8 % 2 = 1
  · rw [if_pos h8, if_neg (by decide), put13 _ _ _ _ _ _ _ _ _ _ _ _ _ _ _ _ _ _ _ hb hn hi0 hi1 ho0 ho1 hv0 hv1 (by simp; omega), if_pos h8]
    simp
  · rw [if_neg h8, if_pos (by decide), if_pos ⟨fitByte _ (by omega) (by omega), (roomy_iff _).2 (by simp; omega)⟩, be_one _ (by omega) (by omega), put13 _ _ _ _ _ _ _ _ _ _ _ _ _ _ _ _ _ _ _ hb hn hi0 hi1 ho0 ho1 hv0 hv1 (by simp; omega), if_neg h8]
    simp
theorem oldR_mem {base : LR} {id : Int} : (oldR base id).2 = false ∧ (oldR base id).1 = (0, 0, 0, (0, 0), false, []) ∨ (oldR base id).2 = true ∧ (oldR base id).1 ∈ base ∧ (oldR base id).1.1 = id := by
  unfold oldR
  cases h : base.find? (fun r => r.1 == id) with
  | none => exact .inl ⟨rfl, rfl⟩
  | some r => exact .inr ⟨rfl, List.mem_of_find?_eq_some h, by have := List.find?_some h; simpa using this⟩
theorem fine_of {base : LR} (h : ∀ r ∈ base, recOkT r = true) (hn : base.length < 1000000000) : fineRecs base := by
  refine ⟨hn, fun r hr => ?_⟩
  have hb := (recOk_facts (h r hr)).2.2.2.2.2.2.2.1
  have hl := bagOk_len hb
  exact ⟨by omega, fun x hx => by have := bag_tags hb x hx; omega⟩
theorem put.pure (l : List Int) (r : REC) (last : Int) (base : LR) (hr : recOkT r = true) (hbase : ∀ x ∈ base, recOkT x = true) (hbn : base.length < 1000000000) (hlast : -1 ≤ last) (hlt : last < r.1) (hl : l.length ≤ 10000000000) :
    gen3_writer_put.f BIG l r.1 r.2.1 r.2.2.1 r.2.2.2.1.1 r.2.2.2.1.2 r.2.2.2.2.1 r.2.2.2.2.2 last base = some (l ++ rec3 (oldR base r.1) last r) := by
  obtain ⟨f1, f2, f3, f4, f5, f6, f7, f8, f9⟩ := recOk_facts hr
  have hbl := bagOk_len f8
  have hbt := bag_tags f8
  have hb : ∀ x ∈ r.2.2.2.2.2, 0 ≤ x.1 ∧ x.1 ≤ 255 ∧ x.2.length ≤ 1000000 := fun x hx => by have := hbt x hx; omega
  have hold : 0 ≤ (oldR base r.1).1.2.1 ∧ (oldR base r.1).1.2.1 ≤ 281474976710655 ∧ smallBag (oldR base r.1).1.2.2.2.2.2 = true := by
    rcases oldR_mem (base := base) (id := r.1) with ⟨_, h⟩ | ⟨_, h, _⟩
    · rw [h]; exact ⟨by simp, by simp, rfl⟩
    · have := recOk_facts (hbase _ h)
      have hb2 := bagOk_len this.2.2.2.2.2.2.2.1
      exact ⟨this.2.2.1, this.2.2.2.1, (smallBag_iff _).2 ⟨by omega, fun x hx => by have := bag_tags this.2.2.2.2.2.2.2.1 x hx; omega⟩⟩
  have hsb : smallBag r.2.2.2.2.2 = true := (smallBag_iff _).2 ⟨by omega, fun x hx => by have := hbt x hx; omega⟩
  unfold gen3_writer_put.f gen3_writer_put.b
  simp only [veil_eq]
  rw [Find.pure base r.1 (fine_of hbase hbn)]
  dsimp only
  unfold rec3 flagV sameSpan sameBag
  generalize oldR base r.1 = o at hold ⊢
  obtain ⟨o0, o1, o2⟩ := hold
  -- what comes behind the first flag
  have h9 : ∀ v a1 a3 a4 a5 a6 a7, 0 ≤ v → v < 32 → gen3_writer_put.l9 BIG l r.1 r.2.1 r.2.2.1 r.2.2.2.1.1 r.2.2.2.1.2 r.2.2.2.2.1 r.2.2.2.2.2 last base BIG v a1 o.1.2.1 a3 a4 a5 a6 a7 = _ :=
    fun v a1 a3 a4 a5 a6 a7 hv0 hv1 => put9 l r.1 r.2.1 r.2.2.1 r.2.2.2.1.1 r.2.2.2.1.2 r.2.2.2.2.1 r.2.2.2.2.2 last base v a1 o.1.2.1 a3 a4 a5 a6 a7 hb (by omega) f3 f4 o0 o1 hv0 hv1 hl f7 f2 hlast hlt
  have h7 : ∀ v, 0 ≤ v → v < 16 → gen3_writer_put.l7 BIG l r.1 r.2.1 r.2.2.1 r.2.2.2.1.1 r.2.2.2.1.2 r.2.2.2.2.1 r.2.2.2.2.2 last base BIG o.2 v o.1.1 o.1.2.1 o.1.2.2.1 o.1.2.2.2.1.1 o.1.2.2.2.1.2 o.1.2.2.2.2.1 o.1.2.2.2.2.2 =
      gen3_writer_put.l9 BIG l r.1 r.2.1 r.2.2.1 r.2.2.2.1.1 r.2.2.2.1.2 r.2.2.2.2.1 r.2.2.2.2.2 last base BIG (v + if (o.2 && (!r.2.2.2.2.1 && cmpGo o.1.2.2.2.2.2 r.2.2.2.2.2 == 0)) = true then 16 else 0) o.1.1 o.1.2.1 o.1.2.2.1 o.1.2.2.2.1.1 o.1.2.2.2.1.2 o.1.2.2.2.2.1 o.1.2.2.2.2.2 := by
    intro v hv0 hv1
    rw [gen3_writer_put.l7_at BIG BIG (BIG - 1) big_eq]
    unfold gen3_writer_put.b7
    cases o.2
    · simp
    · cases r.2.2.2.2.1
      · simp only [Bool.not_false, if_true, o2, hsb, Bool.and_self, Bool.true_and]
        by_cases hc : cmpGo o.1.2.2.2.2.2 r.2.2.2.2.2 = 0
        · simp only [hc, beq_self_eq_true, if_true]
          rw [(flag_at v hv0 (by omega)).2.2.2.2 hv1]
        · have : (cmpGo o.1.2.2.2.2.2 r.2.2.2.2.2 == 0) = false := by simpa using hc
          simp [this]
      · simp
  have h5 : ∀ v, 0 ≤ v → v < 8 → gen3_writer_put.l5 BIG l r.1 r.2.1 r.2.2.1 r.2.2.2.1.1 r.2.2.2.1.2 r.2.2.2.2.1 r.2.2.2.2.2 last base BIG o.2 v o.1.1 o.1.2.1 o.1.2.2.1 o.1.2.2.2.1.1 o.1.2.2.2.1.2 o.1.2.2.2.2.1 o.1.2.2.2.2.2 =
      gen3_writer_put.l7 BIG l r.1 r.2.1 r.2.2.1 r.2.2.2.1.1 r.2.2.2.1.2 r.2.2.2.2.1 r.2.2.2.2.2 last base BIG o.2 (v + if (o.2 && (o.1.2.2.2.1.1 == r.2.2.2.1.1 && o.1.2.2.2.1.2 == r.2.2.2.1.2)) = true then 8 else 0) o.1.1 o.1.2.1 o.1.2.2.1 o.1.2.2.2.1.1 o.1.2.2.2.1.2 o.1.2.2.2.2.1 o.1.2.2.2.2.2 := by
    intro v hv0 hv1
    rw [gen3_writer_put.l5_at BIG BIG (BIG - 1) big_eq]
    unfold gen3_writer_put.b5
    cases o.2
    · simp
    · cases h1 : (o.1.2.2.2.1.1 == r.2.2.2.1.1)
      · simp
      · cases h2 : (o.1.2.2.2.1.2 == r.2.2.2.1.2)
        · simp
        · simp only [if_true, Bool.and_self]
          rw [(flag_at v hv0 (by omega)).2.2.2.1 hv1]
  have hst : ∀ A : Int → Option (List Int), (if r.2.2.2.2.1 then A (bits Go.BinOp.or .i64 r.2.2.1 4) else A r.2.2.1) = A (r.2.2.1 + if r.2.2.2.2.1 then 4 else 0) := by
    intro A
    cases r.2.2.2.2.1
    · simp
    · simp only [if_true]
      rw [(flag_at r.2.2.1 f5 (by omega)).2.2.1 (by omega)]
  rw [hst (fun v => gen3_writer_put.l5 BIG l r.1 r.2.1 r.2.2.1 r.2.2.2.1.1 r.2.2.2.1.2 r.2.2.2.2.1 r.2.2.2.2.2 last base BIG o.2 v o.1.1 o.1.2.1 o.1.2.2.1 o.1.2.2.2.1.1 o.1.2.2.2.1.2 o.1.2.2.2.2.1 o.1.2.2.2.2.2)]
  generalize hs1 : (o.2 && (o.1.2.2.2.1.1 == r.2.2.2.1.1 && o.1.2.2.2.1.2 == r.2.2.2.1.2)) = s1 at h5 ⊢
  generalize hs2 : (o.2 && (!r.2.2.2.2.1 && cmpGo o.1.2.2.2.2.2 r.2.2.2.2.2 == 0)) = s2 at h7 ⊢
  have hcut : s2 = true → r.2.2.2.2.1 = false := by
    intro h
    rw [← hs2] at h
    simp at h
    exact h.2.1
  rw [h5 _ (by split <;> omega) (by split <;> omega), h7 _ (by split <;> split <;> omega) (by split <;> split <;> omega), h9 _ _ _ _ _ _ _ (by split <;> split <;> split <;> omega) (by split <;> split <;> split <;> omega)]
  congr 2
  congr 1
  generalize r.2.2.2.2.1 = c at hcut ⊢
  generalize r.2.2.1 = st at f5 f6 ⊢
  have hst4 : st = 0 ∨ st = 1 ∨ st = 2 ∨ st = 3 := by omega
  cases c <;> cases s1 <;> cases s2 <;> rcases hst4 with rfl | rfl | rfl | rfl <;> first | rfl | simp at hcut
theorem viF_le : ∀ (j k : Nat) (v : Int), 0 ≤ v → v < 128 ^ (k + 1) → (viF j v).length ≤ k + 1
  | 0, k, v, _, _ => by simp [viF]
  | j + 1, k, v, h0, h => by
    rw [viF]
    split
    · rename_i hc
      cases k with
      | zero => simp at h; omega
      | succ k =>
        have := viF_le j k (v / 128) (by omega) (by rw [Int.pow_succ] at h; generalize (128 : Int) ^ (k + 1) = M at h ⊢; omega)
        simp; omega
    · simp
theorem vi_le (k : Nat) (v : Int) (h0 : 0 ≤ v) (h : v < 128 ^ (k + 1)) : (vi v).length ≤ k + 1 := viF_le 9 k v h0 h
noncomputable def recs3 (base : LR) : Int → LR → List Int
  | _, [] => []
  | last, r :: rs => rec3 (oldR base r.1) last r ++ recs3 base r.1 rs
noncomputable def head3 (kind from0 inc lo hi seq target life epoch base : Int) (n : Int) : List Int :=
  kind :: (vi from0 ++ (vi inc ++ ((lo * 16 + hi) :: ((if hasF kind 0 then vi seq else []) ++ ((if hasF kind 1 then vi target else []) ++ ((if hasF kind 2 then vi life ++ vi epoch else []) ++ ((if hasF kind 3 then vi base else []) ++ (if hasF kind 4 then vi n else []))))))))
noncomputable def baseF (base : Int) (l : LR) : LR := if base == 0 then [] else l
noncomputable def body3 (kind from0 inc lo hi seq target life epoch base : Int) (recs : LR) (l : LR) : List Int :=
  head3 kind from0 inc lo hi seq target life epoch base (recs.length : Int) ++ recs3 (baseF base l) (-1) recs
theorem fld3_len {x : Int × List Int} (h : x.2.length ≤ 4096) : (fld3 x).length ≤ 3 + x.2.length := by
  have := vi_le 1 (x.2.length : Int) (by omega) (by simp; omega)
  simp [fld3]; omega
theorem flat3_len : ∀ (b : LF), (∀ x ∈ b, x.2.length ≤ 4096) → (((b.flatMap fld3).length : Nat) : Int) ≤ bagLen b
  | [], _ => by simp [bagLen]
  | x :: b, h => by
    have h1 := fld3_len (h x (by simp))
    have h2 := flat3_len b fun y hy => h y (by simp [hy])
    have e : bagLen (x :: b) = 3 + x.2.length + bagLen b := by simp [bagLen]
    rw [List.flatMap_cons, List.length_append, e]
    omega
theorem bag3_len {b : LF} (h : bagOk b = true) : ((bag3 b).length : Int) ≤ 1 + bagLen b := by
  have hl := bagOk_len h
  have ht := bag_tags h
  have h1 := vi_le 0 (b.length : Int) (by omega) (by simp; omega)
  have h2 := flat3_len b fun x hx => (ht x hx).2.2
  unfold bag3
  rw [List.length_append]
  omega
/-- a record without a base -/
theorem rec3_len {r : REC} {last : Int} (hr : recOkT r = true) (h1 : -1 ≤ last) (h2 : last < r.1) (k : Nat) (hk : 2 * r.2.1 < 128 ^ (k + 1)) : ((rec3 ((0, 0, 0, (0, 0), false, []), false) last r).length : Int) ≤ 6 + k + bagLen r.2.2.2.2.2 := by
  obtain ⟨f1, f2, f3, f4, f5, f6, f7, f8, f9⟩ := recOk_facts hr
  have a1 := vi_le 1 (r.1 - last - 1) (by omega) (by simp; omega)
  have hz : zigF (r.2.1 - 0) = 2 * r.2.1 := by unfold zigF; rw [if_pos (by omega)]; omega
  have a2 := vi_le k (2 * r.2.1) (by omega) hk
  have a3 := bag3_len f8
  have a4 := (bagOk_len f8).2.1
  unfold rec3
  simp only [sameSpan, sameBag, Bool.false_and, Bool.false_eq_true, if_false, Bool.or_false, hz, List.length_append, List.length_cons, List.length_nil]
  cases r.2.2.2.2.1
  · simp only [Bool.false_eq_true, if_false]
    omega
  · simp only [if_true, List.length_nil]
    omega
theorem oldR_nil (id : Int) : oldR [] id = ((0, 0, 0, (0, 0), false, []), false) := rfl
/-- by rising ids -/
def risen : Int → LR → Prop
  | _, [] => True
  | last, r :: rs => last < r.1 ∧ risen r.1 rs
theorem whGo_risen : ∀ (l : LR) (i last : Int), (whGo l i last).1 = i + (l.length : Int) → risen last l
  | [], _, _, _ => trivial
  | x :: l, i, last, h => by
    unfold whGo at h
    split at h
    · simp at h; omega
    · rename_i hc
      simp only [Bool.or_eq_true, not_or, Bool.not_eq_true', Bool.not_eq_false] at hc
      exact ⟨by simpa using hc.2, whGo_risen l (i + 1) x.1 (by simp only [List.length_cons] at h; omega)⟩
theorem sorted_facts {l : LR} (h : sortedF l = true) : (∀ r ∈ l, recOkT r = true) ∧ risen (-1) l := by
  unfold sortedF at h
  have h' : (whGo l 0 (-1)).1 = 0 + (l.length : Int) := by simpa using h
  exact ⟨whGo_all l 0 (-1) h', whGo_risen l 0 (-1) h'⟩
theorem lives_facts {kind life epoch base : Int} (h : livesF kind life epoch base = true) : 0 ≤ life ∧ life ≤ 281474976710655 ∧ 0 ≤ epoch ∧ epoch ≤ 65535 ∧ 0 ≤ base ∧ base ≤ 65535 ∧ (hasF kind 2 = false → life = 0 ∧ epoch = 0) ∧ (hasF kind 3 = false → base = 0) ∧ (base = 0 ∨ base < epoch) ∧ (epoch = 0 → life = 0 ∧ kind ≠ 9) := by
  unfold livesF at h
  split at h
  · cases h
  rename_i c1
  split at h
  · cases h
  rename_i c2
  simp only [Bool.or_eq_true, Bool.not_eq_true', not_or, Bool.not_eq_false] at c1
  have w1 := within_facts c1.1 (by omega)
  have w2 := within_facts c1.2 (by omega)
  simp only [Bool.or_eq_true, Bool.and_eq_true, beq_iff_eq, decide_eq_true_eq, bne_iff_ne, ne_eq] at h c2
  refine ⟨w1.1, w1.2, w2.1, w2.2, by omega, by omega, ?_, ?_, by omega, ?_⟩
  · intro h2
    rw [h2] at c1
    simp [withinF] at c1
    exact ⟨c1.1, c1.2⟩
  · intro h3
    rw [h3] at h
    simpa using h
  · intro he
    refine ⟨?_, ?_⟩
    · exact Classical.byContradiction fun hl => c2 ⟨he, .inl hl⟩
    · exact fun hk => c2 ⟨he, .inr hk⟩
theorem valid_recs {kind from0 inc lo hi seq target life epoch base : Int} {recs : LR} (h : validF kind from0 inc lo hi seq target life epoch base recs = true) :
    (hasF kind 4 = false → recs = []) ∧ risen (-1) recs := by
  unfold validF at h
  have h1 : ((ofF kind).1.toList == (⟨#[]⟩ : ByteArray).toList || (decide (from0 < 0) || (decide (from0 > 4095) || (decide (inc < 0) || (decide (inc > 281474976710655) || !okS lo hi))))) = false := by
    cases hc : ((ofF kind).1.toList == (⟨#[]⟩ : ByteArray).toList || (decide (from0 < 0) || (decide (from0 > 4095) || (decide (inc < 0) || (decide (inc > 281474976710655) || !okS lo hi))))) with
    | false => rfl
    | true => rw [hc] at h; cases h
  rw [h1] at h
  have h2 : (!withinF (hasF kind 0) seq 0 65535 || (!withinF (hasF kind 1) target (if kind == 3 then 1 else 0) (if kind == 3 then 3 else 4095) || !livesF kind life epoch base)) = false := by
    cases hc : (!withinF (hasF kind 0) seq 0 65535 || (!withinF (hasF kind 1) target (if kind == 3 then 1 else 0) (if kind == 3 then 3 else 4095) || !livesF kind life epoch base)) with
    | false => rfl
    | true => rw [hc] at h; cases h
  rw [h2] at h
  simp only [Bool.false_eq_true, if_false] at h
  cases h4 : hasF kind 4
  · rw [h4] at h
    have : recs = [] := List.eq_nil_of_length_eq_zero (by simpa using h)
    subst this
    exact ⟨fun _ => rfl, trivial⟩
  · rw [h4] at h
    simp at h
    exact ⟨by simp, (sorted_facts h.2).2⟩
theorem rec3_any {o : REC × Bool} {r : REC} {last : Int} (hr : recOkT r = true) : (rec3 o last r).length ≤ 5000 := by
  obtain ⟨f1, f2, f3, f4, f5, f6, f7, f8, f9⟩ := recOk_facts hr
  have a1 := vi_len (r.1 - last - 1)
  have a2 := vi_len (zigF (r.2.1 - o.1.2.1))
  have a3 := bag3_len f8
  have a4 := bagOk_len f8
  unfold rec3
  simp only [List.length_append, List.length_cons]
  have e1 : (if sameSpan o r = true then ([] : List Int) else [r.2.2.2.1.1 * 16 + r.2.2.2.1.2]).length ≤ 1 := by split <;> simp
  have e2 : (if (r.2.2.2.2.1 || sameBag o r) = true then ([] : List Int) else bag3 r.2.2.2.2.2).length ≤ 4300 := by
    split
    · simp
    · omega
  omega
theorem lay_recs (kind from0 inc lo hi seq target life epoch base : Int) (recs l base' : LR) (hr : ∀ r ∈ recs, recOkT r = true) (hb : ∀ r ∈ base', recOkT r = true) (hbn : base'.length < 1000000000) (hn : recs.length ≤ 1000) :
    ∀ (k i : Nat) (last : Int) (acc : List Int), i ≤ recs.length → recs.length - i < k → -1 ≤ last → risen last (recs.drop i) → acc.length + 5000 * (recs.length - i) ≤ 1000000000 →
    gen3_lay.l19 BIG kind from0 inc lo hi seq target life epoch base recs l k base' last (recs.length : Int) (i : Int) acc = some (acc ++ recs3 base' last (recs.drop i)) := by
  intro k
  induction k with
  | zero => intro i last acc h1 h2; omega
  | succ k ih =>
    intro i last acc h1 h2 h3 h4 h5
    rw [gen3_lay.l19]
    unfold gen3_lay.b19
    simp only [veil_eq]
    by_cases hi' : i < recs.length
    · rw [if_pos (by simp; omega), idx_at, List.getElem?_eq_getElem hi']
      dsimp only
      have hm := hr recs[i] (List.getElem_mem hi')
      rw [List.drop_eq_getElem_cons hi'] at h4 ⊢
      generalize recs[i] = r at hm h4 ⊢
      obtain ⟨h6, h7⟩ := h4
      have hlen := rec3_any (o := oldR base' r.1) (last := last) hm
      rw [put.pure acc r last base' hm hb hbn h3 h6 (by omega)]
      dsimp only
      have hid := (recOk_facts hm).1
      rw [wrap_small _ (by omega) (by omega), show ((i : Int) + 1) = ((i + 1 : Nat) : Int) from by omega, ih (i + 1) r.1 _ (by omega) (by omega) (by omega) h7 (by simp; omega)]
      simp [recs3]
    · rw [if_neg (by simp; omega), List.drop_of_length_le (by omega), if_pos ((roomy_iff _).2 (by omega))]
      simp [recs3]
theorem kind_byte {kind : Int} (h1 : 1 ≤ kind) (h2 : kind ≤ 9) : fitsF 1 kind = true := fitByte kind (by omega) (by omega)
theorem Form1 (l : List Int) (a : Int) (h0 : 0 ≤ a) (h1 : a < 9223372036854775808) (hl : l.length ≤ 1000000) : gen3_writer_form.f BIG l [a] = some (l ++ vi a) := by
  rw [Form.pure l [a] (by intro v hv; simp at hv; omega) (by simp) (by simp; omega)]
  simp
theorem Form2 (l : List Int) (a b : Int) (h0 : 0 ≤ a) (h1 : a < 9223372036854775808) (h2 : 0 ≤ b) (h3 : b < 9223372036854775808) (hl : l.length ≤ 1000000) : gen3_writer_form.f BIG l [a, b] = some (l ++ (vi a ++ vi b)) := by
  rw [Form.pure l [a, b] (by intro v hv; simp at hv; omega) (by simp) (by simp; omega)]
  simp
set_option maxHeartbeats 4000000 in
theorem lay.pure (kind from0 inc lo hi seq target life epoch base : Int) (recs l : LR) (hv : validF kind from0 inc lo hi seq target life epoch base recs = true) (hl : ∀ r ∈ l, recOkT r = true) (hln : l.length < 1000000000) :
    gen3_lay.f BIG kind from0 inc lo hi seq target life epoch base recs l = some (body3 kind from0 inc lo hi seq target life epoch base recs l) := by
  obtain ⟨v1, v2, v3, v4, v5, v6, v7, v8, v9, v10, v11, v12, v13, v14⟩ := valid_facts hv
  obtain ⟨w1, w2, w3, w4, w5, w6, _⟩ := lives_facts v12
  obtain ⟨_, hris⟩ := valid_recs hv
  have hs := (okS_iff _ _).1 v7
  have n1 := vi_len from0
  have n2 := vi_len inc
  have n3 := vi_len seq
  have n4 := vi_len target
  have n5 := vi_len life
  have n6 := vi_len epoch
  have n7 := vi_len base
  have n8 := vi_len (recs.length : Int)
  have hlp : ∀ (base' : LR) (hb : ∀ r ∈ base', recOkT r = true) (hbn : base'.length < 1000000000) (acc : List Int), acc.length ≤ 1000 → gen3_lay.l19 BIG kind from0 inc lo hi seq target life epoch base recs l BIG base' (-1) (recs.length : Int) 0 acc = some (acc ++ recs3 base' (-1) recs) := by
    intro base' hb hbn acc ha
    have := lay_recs kind from0 inc lo hi seq target life epoch base recs l base' v14 hb hbn (by omega) BIG 0 (-1) acc (by omega) (by rw [BIG_eq]; omega) (by omega) (by simpa using hris) (by omega)
    simpa using this
  have hb0 : ∀ acc : List Int, acc.length ≤ 1000 → gen3_lay.l19 BIG kind from0 inc lo hi seq target life epoch base recs l BIG [] (-1) (recs.length : Int) 0 acc = some (acc ++ recs3 [] (-1) recs) := fun acc ha => hlp [] (by simp) (by simp) acc ha
  have hb1 : ∀ acc : List Int, acc.length ≤ 1000 → gen3_lay.l19 BIG kind from0 inc lo hi seq target life epoch base recs l BIG l (-1) (recs.length : Int) 0 acc = some (acc ++ recs3 l (-1) recs) := fun acc ha => hlp l hl hln acc ha
  clear hlp
  unfold gen3_lay.f gen3_lay.b
  simp only [veil_eq]
  rw [kind_byte v1 v2, be_one kind (by omega) (by omega), code_eq v7, fitByte (lo * 16 + hi) (by omega) (by omega), be_one (lo * 16 + hi) (by omega) (by omega), Form2 [kind] from0 inc (by omega) (by omega) (by omega) (by omega) (by simp)]
  dsimp only
  have hro : roomy ([kind] ++ (vi from0 ++ vi inc)) = true := (roomy_iff _).2 (by simp; omega)
  unfold body3 head3 baseF
  simp only [if_true, hro, and_self]
  cases hb : (base == 0) <;> cases h0 : hasF kind 0 <;> cases h1 : hasF kind 1 <;> cases h2 : hasF kind 2 <;> cases h3 : hasF kind 3 <;> cases h4 : hasF kind 4 <;>
    simp only [Bool.false_eq_true, if_false, if_true] <;>
    repeat (first | (rw [Form1 _ _ (by omega) (by omega) (by simp; omega)]; dsimp only) | (rw [Form2 _ _ _ (by omega) (by omega) (by omega) (by omega) (by simp; omega)]; dsimp only))
  all_goals (first | rw [hb0 _ (by simp; omega)] | rw [hb1 _ (by simp; omega)])
  all_goals simp
noncomputable def size3 (kind from0 inc lo hi seq target life epoch base : Int) (recs l : LR) : Int :=
  if validF kind from0 inc lo hi seq target life epoch base recs && sortedF l then ((body3 kind from0 inc lo hi seq target life epoch base recs l).length : Int) else 0
noncomputable def enc3 (kind from0 inc lo hi seq target life epoch base : Int) (recs l : LR) : List Int × Int :=
  if validF kind from0 inc lo hi seq target life epoch base recs && sortedF l then (if (body3 kind from0 inc lo hi seq target life epoch base recs l).length > 65499 then ([], 14) else (body3 kind from0 inc lo hi seq target life epoch base recs l, 0)) else ([], 1)
theorem Enc3.pure (kind from0 inc lo hi seq target life epoch base : Int) (recs l : LR) (hr : smallRecs recs = true) (hl : smallRecs l = true) (hln : l.length < 1000000000) :
    gen3_Encode.f BIG kind from0 inc lo hi seq target life epoch base recs l = some ((enc3 kind from0 inc lo hi seq target life epoch base recs l).1, (enc3 kind from0 inc lo hi seq target life epoch base recs l).2) := by
  unfold gen3_Encode.f gen3_Encode.b enc3
  simp only [veil_eq]
  rw [hr, hl]
  cases hv : validF kind from0 inc lo hi seq target life epoch base recs
  · rfl
  · cases hs : sortedF l
    · rfl
    · rw [lay.pure kind from0 inc lo hi seq target life epoch base recs l hv (sorted_facts hs).1 hln]
      simp only [Bool.not_true, Bool.false_eq_true, if_false, if_true, Bool.and_self]
      by_cases hc : (body3 kind from0 inc lo hi seq target life epoch base recs l).length > 65499
      · rw [if_pos (by simp; omega), if_pos hc]
      · rw [if_neg (by simp; omega), if_neg hc]
theorem recs3_len : ∀ (recs : LR) (last : Int), (∀ r ∈ recs, recOkT r = true ∧ r.2.1 ≤ 4294967295) → -1 ≤ last → risen last recs → ((recs3 [] last recs).length : Int) + 13 * (recs.length : Int) ≤ recsLen recs
  | [], last, _, _, _ => by simp [recs3, recsLen]
  | r :: recs, last, h, h1, ⟨h2, h3⟩ => by
    obtain ⟨a, b⟩ := h r (by simp)
    have ih := recs3_len recs r.1 (fun x hx => h x (by simp [hx])) (by omega) h3
    have hb := rec3_len a h1 h2 4 (by simp; omega)
    rw [recs3, oldR_nil, List.length_append, recsLen, recLen, List.length_cons]
    omega
theorem head3_len {kind from0 inc lo hi seq target life epoch base : Int} {recs : LR} (hv : validF kind from0 inc lo hi seq target life epoch base recs = true) :
    (head3 kind from0 inc lo hi seq target life epoch base (recs.length : Int)).length ≤ 11 + (if hasF kind 0 then 3 else 0) + (if hasF kind 1 then 2 else 0) + (if hasF kind 2 then (vi life).length + (vi epoch).length else 0) + (if hasF kind 3 then (vi base).length else 0) + 2 := by
  obtain ⟨v1, v2, v3, v4, v5, v6, v7, v8, v9, v10, v11, v12, v13, v14⟩ := valid_facts hv
  have a1 := vi_le 1 from0 v3 (by simp; omega)
  have a2 := vi_le 6 inc v5 (by simp; omega)
  have a3 := vi_le 2 seq v8 (by simp; omega)
  have a4 := vi_le 1 target v10 (by simp; omega)
  have a5 := vi_le 1 (recs.length : Int) (by omega) (by simp; omega)
  unfold head3
  cases hasF kind 0 <;> cases hasF kind 1 <;> cases hasF kind 2 <;> cases hasF kind 3 <;> cases hasF kind 4 <;> simp only [Bool.false_eq_true, if_false, if_true, List.length_cons, List.length_append, List.length_nil] <;> omega
theorem vi_zero : (vi 0).length = 1 := by simp [vi, viF]
theorem baseF_nil (base : Int) : baseF base [] = [] := by unfold baseF; split <;> rfl
/-- what fits generation 2 has less bytes in generation 3 -/
theorem size3_lt {kind from0 inc lo hi seq target life epoch base : Int} {recs : LR} (h : fits2 kind from0 inc lo hi seq target life epoch base recs = true) :
    size3 kind from0 inc lo hi seq target life epoch base recs [] < size2 kind from0 inc lo hi seq target life epoch base recs := by
  obtain ⟨hv, h9, he, hz, hf⟩ := fits2_facts h
  subst he
  obtain ⟨v1, v2, v3, v4, v5, v6, v7, v8, v9, v10, v11, v12, v13, v14⟩ := valid_facts hv
  obtain ⟨w1, w2, w3, w4, w5, w6, w7, w8, w9, w10⟩ := lives_facts v12
  have hl : life = 0 := (w10 rfl).1
  have hb : base = 0 := by omega
  subst hl hb
  have hh := head3_len hv
  have hr := recs3_len recs (-1) (fun r hr => ⟨v14 r hr, fit2_all recs hf r hr⟩) (by omega) (valid_recs hv).2
  unfold size3
  rw [hv, show sortedF [] = true from rfl]
  simp only [Bool.and_self, if_true]
  rw [size_body hv]
  have hfl := flatR_len recs
  unfold body3 body2
  rw [baseF_nil]
  simp only [vi_zero] at hh
  simp only [List.length_append, itB, List.length_cons, be_length]
  cases h0 : hasF kind 0 <;> cases h1 : hasF kind 1 <;> cases h2 : hasF kind 2 <;> cases h3 : hasF kind 3 <;> rw [h0, h1, h2, h3] at hh <;> simp only [Bool.false_eq_true, if_false, if_true, List.length_cons, List.length_append, List.length_nil, be_length] at hh ⊢ <;> omega
theorem Awake15.pure : law15_awake.f BIG () = some true := by
  unfold law15_awake.f law15_awake.b
  simp only [veil_eq]
  rw [Enc3.pure _ _ _ _ _ _ _ _ _ _ _ [] rfl rfl (by simp), Enc3.pure _ _ _ _ _ _ _ _ _ _ _ [(2, (0, (0, ((1, 3), (false, [])))))] rfl rfl (by simp)]
  rw [show enc3 4 5 300 1 3 7 0 0 0 0 [] [] = ([4, 5, 172, 2, 19, 7, 0], 0) from by kernel_rfl, show enc3 7 0 0 1 3 0 0 0 2 1 [(2, (1, (0, ((1, 3), (false, [])))))] [(2, (0, (0, ((1, 3), (false, [])))))] = ([7, 0, 0, 19, 0, 2, 1, 1, 2, 24, 2], 0) from by kernel_rfl]
  simp
theorem Gen3Less.pure (kind from0 inc lo hi seq target life epoch base : Int) (recs : LR) (hr : smallRecs recs = true) : law15_Gen3Less.f 0 kind from0 inc lo hi seq target life epoch base recs = some true := by
  unfold law15_Gen3Less.f law15_Gen3Less.b
  simp only [veil_eq]
  rw [hr, Awake15.pure, Enc3.pure kind from0 inc lo hi seq target life epoch base recs [] hr rfl (by simp)]
  cases few8 recs
  · rfl
  cases hf : fits2 kind from0 inc lo hi seq target life epoch base recs
  · rfl
  obtain ⟨hv, h9, he, hz, _⟩ := fits2_facts hf
  have hlt := size3_lt hf
  have s0 : sortedF [] = true := rfl
  have e2 : enc2 kind from0 inc lo hi seq target life epoch base recs = (body2 kind from0 inc lo hi seq target recs, 0) := by
    unfold enc2
    rw [hv, hf]
    rfl
  have e3 : enc3 kind from0 inc lo hi seq target life epoch base recs [] = (body3 kind from0 inc lo hi seq target life epoch base recs [], 0) := by
    unfold enc3
    unfold size3 at hlt
    rw [hv, s0] at hlt ⊢
    simp only [Bool.and_self, if_true] at hlt ⊢
    rw [if_neg (by omega)]
  have hb := size_body hv
  unfold size3 at hlt
  rw [hv, s0, hb] at hlt
  simp only [Bool.and_self, if_true] at hlt
  rw [e2, e3]
  have : (body3 kind from0 inc lo hi seq target life epoch base recs []).length < (body2 kind from0 inc lo hi seq target recs).length := by omega
  simp [this]
theorem gen3Less_envOk : EnvOk Try.prog law15_Gen3Less_E := env_ok (l := [(16, s_few10), (18, s_law15_awake), (19, s_gen3_Encode), (24, s_fits2), (25, s_enc2)]) th_ok any_ok ⟨⟨s_few10_ok, s_few10_det⟩, ⟨s_law15_awake_ok, s_law15_awake_det⟩, ⟨s_gen3_Encode_ok, s_gen3_Encode_det⟩, ⟨s_fits2_ok, s_fits2_det⟩, ⟨s_enc2_ok, s_enc2_det⟩, trivial⟩ _
theorem gen3Less_tells (mKind : Int) (mFrom : Int) (mInc : Int) (mSpanLo : Int) (mSpanHi : Int) (mSeq : Int) (mTarget : Int) (mLife : Int) (mEpoch : Int) (mBase : Int) (mRecs : List (Int × Int × Int × (Int × Int) × Bool × List (Int × List Int))) (hl : smallRecs mRecs = true) : denF law15_Gen3Less_E loopN 0 Try.f4 [.raw] [.agg [.d (.int .i64) mKind, .d (.int .i64) mFrom, .d (.int .i64) mInc, .d (.int .i64) mSpanLo, .d (.int .i64) mSpanHi, .d (.int .i64) mSeq, .d (.int .i64) mTarget, .d (.int .i64) mLife, .d (.int .i64) mEpoch, .d (.int .i64) mBase, .d (.sl (.pair (.int .i64) (.pair (.int .i64) (.pair (.int .i64) (.pair (.pair (.int .i64) (.int .i64)) (.pair .bool (.sl (.pair (.int .i64) (.sl (.int .u8)))))))))) mRecs]] [] isTrue = some () := by
  rw [denF_any gen3Less_envOk.D ((law15_Gen3Less.eq 0 mKind mFrom mInc mSpanLo mSpanHi mSeq mTarget mLife mEpoch mBase mRecs).trans (Gen3Less.pure mKind mFrom mInc mSpanLo mSpanHi mSeq mTarget mLife mEpoch mBase mRecs hl)) (out := [.d .bool true]) (os := []) (fun rs ros hk => by
    unfold law15_Gen3Less.k at hk
    split at hk
    · first | (cases hk; exact ⟨rfl, rfl⟩) | (have e := Option.some.inj hk; rw [← e]; exact ⟨rfl, rfl⟩)
    · cases hk)]
  rfl
set_option maxRecDepth 100000 in
theorem gen3Less_lifted (os : Os) (started : os.Started) (H : Type) (enc : TypeId × Value → H) :
    ReturnsInHanded {} Try.checked os 4 .any (Rows.gen3LessSpec.pre6 enc Try.prog Try.f4 Rows.gen3LessRow.domain false) (Rows.gen3LessSpec.post enc Try.prog Try.f4 false true false false) := by
  refine returnsInHanded_of_change_sized (C := Try.checked) Try.own started (by kernel_rfl) Try.func4
    (ChangeSpec.witness6 (enc := enc) (C := Try.checked) false ⟨#[], #[.agg #[.int .i64 0, .int .i64 0, .int .i64 0, .int .i64 0, .int .i64 0, .int .i64 0, .int .i64 0, .int .i64 0, .int .i64 0, .int .i64 0, .slice none 0 0]], []⟩ 8 (by kernel_rfl) (by kernel_rfl) (by kernel_rfl) (by kernel_rfl)) ?_
  intro W base args ds gs before hval hW _ hwt _
  exact law_contract gen3Less_envOk Try.func4 rfl [((.pair (.int .i64) (.pair (.int .i64) (.pair (.int .i64) (.pair (.pair (.int .i64) (.int .i64)) (.pair (.int .i64) (.pair (.int .i64) (.pair (.int .i64) (.pair (.int .i64) (.pair (.int .i64) (.sl (.pair (.int .i64) (.pair (.int .i64) (.pair (.int .i64) (.pair (.pair (.int .i64) (.int .i64)) (.pair .bool (.sl (.pair (.int .i64) (.sl (.int .u8))))))))))))))))))), true)] (tb := 4) (by kernel_rfl) (by kernel_rfl) (by kernel_rfl) rfl
    (fun ds h => by match ds, h with | [_], _ => rfl) Try.laidOut Try.mapsRow Try.slicesSize (fun y hg => ⟨0, gen3Less_tells y.1.1 y.1.2.1 y.1.2.2.1 y.1.2.2.2.1.1 y.1.2.2.2.1.2 y.1.2.2.2.2.1 y.1.2.2.2.2.2.1 y.1.2.2.2.2.2.2.1 y.1.2.2.2.2.2.2.2.1 y.1.2.2.2.2.2.2.2.2.1 y.1.2.2.2.2.2.2.2.2.2 (good_recs (hg.1.2.2.2.2.2.2.2.2.2))⟩) W base args ds gs before hval hW hwt
theorem gen3Less_holds : Rows.Gen3LessSaid :=
  OpenClaim.holds_of_wide 4 Try.f4 rfl rfl rfl rfl rfl rfl rfl ⟨rfl, rfl, rfl, rfl, rfl⟩ rfl rfl rfl rfl rfl (by kernel_rfl) Try.func4 (by kernel_rfl)
    (of_decide_eq_true (by kernel_rfl)) (by unfold Func.isWrapper; first | (rw [if_pos (by decide +kernel)]; kernel_rfl) | (rw [if_neg (by decide +kernel)]; exact ⟨rfl, rfl⟩))
    (fun os started H enc _ => gen3Less_lifted os started H enc)
end Go.Proofs.Ytnlkghcibpopgaa
