/- LabelMsgs: whatever message is given, the law returns true, and the input reads as it did. There is no condition. -/
import Derived.Test.YtnlkghcibpopgaaEv3
import Derived.Test.YtnlkghcibpopgaaRows
import Derived.Test.YtnlkghcibpopgaaTh
import Derived.Laws.BitsLemmas
import Derived.KernelRfl
import Derived.Test.YtnlkghcibpopgaaJ0
import Derived.Shelf.Lays
set_option linter.unusedVariables false
set_option linter.unusedSimpArgs false
set_option maxRecDepth 100000
namespace Go.Proofs.Ytnlkghcibpopgaa
open Go.Den
theorem any_ok : Try.prog.follows .mixedOrders = true := by kernel_rfl
theorem wrap_small (n : Int) (h0 : -9223372036854775808 ≤ n) (h1 : n < 9223372036854775808) : Go.IntKind.wrap .i64 n = n := by
  rw [Go.IntKind.wrap_i64]; omega
theorem idx_at {α : Type} (l : List α) (i : Nat) : idx l (i : Int) = l[i]? := by
  unfold idx
  rw [if_pos (by omega)]
  simp
theorem getD_at {α : Type} (l : List α) (d : α) (i : Nat) (h : i < l.length) : idx l (i : Int) = some (l.getD i d) := by
  rw [idx_at, List.getElem?_eq_getElem h]; simp [List.getD, List.getElem?_eq_getElem h]
noncomputable def okS (lo hi : Int) : Bool := decide (1 ≤ lo) && decide (lo ≤ hi) && decide (hi ≤ 3)
noncomputable def tableL : List (ByteArray × Int) := [(⟨#[]⟩, 0), (⟨#[104, 101, 108, 108, 111]⟩, 1), (⟨#[119, 101, 108, 99, 111, 109, 101]⟩, 1), (⟨#[114, 101, 106, 101, 99, 116]⟩, 2), (⟨#[112, 105, 110, 103]⟩, 17), (⟨#[97, 99, 107]⟩, 17), (⟨#[97, 115, 107]⟩, 19), (⟨#[112, 117, 115, 104]⟩, 28), (⟨#[112, 117, 108, 108]⟩, 20), (⟨#[114, 101, 115, 101, 116]⟩, 4)]
noncomputable def ofF (k : Int) : ByteArray × Int := if decide (k < 1) || decide (k > 9) then (⟨#[]⟩, 0) else tableL.getD k.toNat (⟨#[]⟩, 0)
noncomputable def smallBag (b : List (Int × List Int)) : Bool := decide (b.length < 281474976710656) && b.all fun x => decide (x.2.length < 281474976710656)
noncomputable def s_sv : Den.Sum := ⟨[.dat (.pair (.int .i64) (.int .i64)) true], fun args objs κ => match args, objs with
  | [.agg [.d (.int .i64) lo, .d (.int .i64) hi]], [] => κ [.d .bool (okS lo hi)] []
  | _, _ => none⟩
noncomputable def s_table : Den.Sum := ⟨[], fun args objs κ => match args, objs with
  | [], [] => κ [.d (.arr 10 (.pair .str (.int .u8))) tableL] []
  | _, _ => none⟩
noncomputable def s_of : Den.Sum := ⟨[.raw], fun args objs κ => match args, objs with
  | [.d (.int .i64) k], [] => κ [.agg [.d .str (ofF k).1, .d (.int .u8) (ofF k).2]] []
  | _, _ => none⟩
noncomputable def SpanValid_E : Env := ⟨th, gam [], fun i => ⟨[], [], []⟩⟩
noncomputable def SpanValid.k (rs : List AV) (os : List Den.Obj) : Option Bool :=
  match rs, os with
  | [.d .bool r0], [] => some r0
  | _, _ => none
noncomputable def SpanValid.b (lo : Int) (hi : Int) : Option Bool :=
  (if (decide (lo ≥ (1 : Int))) then (if (decide (lo ≤ hi)) then some ((decide (hi ≤ (3 : Int)))) else some (false)) else some (false))
noncomputable def SpanValid.f (fuel : Nat) (lo : Int) (hi : Int) : Option Bool := SpanValid.b lo hi
theorem SpanValid.eq (fuel : Nat) (lo : Int) (hi : Int) : (denF SpanValid_E loopN fuel Try.f58 [.raw] [.agg [.d (.int .i64) lo, .d (.int .i64) hi]] [] SpanValid.k) = SpanValid.f fuel lo hi := by
  kernel_rfl
noncomputable def MsgTable_E : Env := ⟨th, gam [], fun i => ⟨[], [], []⟩⟩
noncomputable def MsgTable.k (rs : List AV) (os : List Den.Obj) : Option (List (ByteArray × Int)) :=
  match rs, os with
  | [.d (.arr 10 (.pair .str (.int .u8))) r0], [] => some r0
  | _, _ => none
noncomputable def MsgTable.b (u : Unit) : Option (List (ByteArray × Int)) :=
  some ((((⟨([]).toArray⟩ : ByteArray), 0) :: (((⟨((104 :: (101 :: (108 :: (108 :: (111 :: [])))))).toArray⟩ : ByteArray), (1 : Int)) :: (((⟨((119 :: (101 :: (108 :: (99 :: (111 :: (109 :: (101 :: [])))))))).toArray⟩ : ByteArray), (1 : Int)) :: (((⟨((114 :: (101 :: (106 :: (101 :: (99 :: (116 :: []))))))).toArray⟩ : ByteArray), (2 : Int)) :: (((⟨((112 :: (105 :: (110 :: (103 :: []))))).toArray⟩ : ByteArray), (17 : Int)) :: (((⟨((97 :: (99 :: (107 :: [])))).toArray⟩ : ByteArray), (17 : Int)) :: (((⟨((97 :: (115 :: (107 :: [])))).toArray⟩ : ByteArray), (19 : Int)) :: (((⟨((112 :: (117 :: (115 :: (104 :: []))))).toArray⟩ : ByteArray), (28 : Int)) :: (((⟨((112 :: (117 :: (108 :: (108 :: []))))).toArray⟩ : ByteArray), (20 : Int)) :: (((⟨((114 :: (101 :: (115 :: (101 :: (116 :: [])))))).toArray⟩ : ByteArray), (4 : Int)) :: [])))))))))))
noncomputable def MsgTable.f (fuel : Nat) (u : Unit) : Option (List (ByteArray × Int)) := MsgTable.b u
theorem MsgTable.eq (fuel : Nat) (u : Unit) : (denF MsgTable_E loopN fuel Try.f94 [.raw] [] [] MsgTable.k) = MsgTable.f fuel u := by
  kernel_rfl
noncomputable def MsgOf_E : Env := ⟨th, gam [(94, s_table)], fun i => ⟨[], [], []⟩⟩
noncomputable def MsgOf.k (rs : List AV) (os : List Den.Obj) : Option (ByteArray × Int) :=
  match rs, os with
  | [.agg [.d .str r0, .d (.int .u8) r1]], [] => some (r0, r1)
  | _, _ => none
noncomputable def MsgOf.b (k : Int) : Option (ByteArray × Int) :=
  (if (decide (k < (1 : Int))) then some ((⟨([]).toArray⟩ : ByteArray), 0) else (if (decide (k > (9 : Int))) then some ((⟨([]).toArray⟩ : ByteArray), 0) else (match (idx tableL k) with | none => none | some y0 => some (y0.1, y0.2))))
noncomputable def MsgOf.f (fuel : Nat) (k : Int) : Option (ByteArray × Int) := MsgOf.b k
theorem MsgOf.eq (fuel : Nat) (k : Int) : (denF MsgOf_E loopN fuel Try.f57 [.dat (.pair .str (.int .u8)) true] [.d (.int .i64) k] [] MsgOf.k) = MsgOf.f fuel k := by
  kernel_rfl
noncomputable def MsgHas_E : Env := ⟨th, gam [(57, s_of)], fun i => ⟨[], [], []⟩⟩
noncomputable def MsgHas.k (rs : List AV) (os : List Den.Obj) : Option Bool :=
  match rs, os with
  | [.d .bool r0], [] => some r0
  | _, _ => none
noncomputable def MsgHas.b (k : Int) (p : Int) : Option Bool :=
  (if (decide (p ≥ (0 : Int))) then (if (decide (p ≤ (4 : Int))) then (if (p < (0 : Int)) then none else some (((bits Go.BinOp.and .u8 (Int.fdiv (ofF k).2 ((2 : Int) ^ (Min.min (Int.toNat p) (Go.IntKind.bits .u8)))) (1 : Int)) == (1 : Int)))) else some (false)) else some (false))
noncomputable def MsgHas.f (fuel : Nat) (k : Int) (p : Int) : Option Bool := MsgHas.b k p
theorem MsgHas.eq (fuel : Nat) (k : Int) (p : Int) : (denF MsgHas_E loopN fuel Try.f50 [.raw] [.d (.int .i64) k, .d (.int .i64) p] [] MsgHas.k) = MsgHas.f fuel k p := by
  kernel_rfl
theorem okS_iff (a b : Int) : okS a b = true ↔ 1 ≤ a ∧ a ≤ b ∧ b ≤ 3 := by
  unfold okS
  simp only [Bool.and_eq_true, decide_eq_true_eq]
  omega
theorem SpanValid.pure (lo hi : Int) : SpanValid.f 0 lo hi = some (okS lo hi) := by
  unfold SpanValid.f SpanValid.b okS
  by_cases h1 : 1 ≤ lo
  · by_cases h2 : lo ≤ hi <;> simp [h1, h2]
  · simp [h1]
theorem MsgOf.pure (k : Int) : MsgOf.f 0 k = some ((ofF k).1, (ofF k).2) := by
  unfold MsgOf.f MsgOf.b ofF
  by_cases h1 : k < 1
  · simp [h1]
  · by_cases h2 : k > 9
    · simp [h1, h2]
    · have := getD_at tableL (⟨#[]⟩, 0) k.toNat (by show k.toNat < 10; omega)
      rw [Int.toNat_of_nonneg (by omega)] at this
      simp [h1, h2, this]
theorem smallBag_iff (b : List (Int × List Int)) : smallBag b = true ↔ b.length < 281474976710656 ∧ ∀ x ∈ b, x.2.length < 281474976710656 := by
  unfold smallBag
  simp [List.all_eq_true]
theorem s_sv_det : SumDet s_sv := fun avs objs R κ => by
  show s_sv.run avs objs (two κ) = (s_sv.run avs objs (two some)).bind κ
  unfold s_sv
  simp only
  split
  · first | rfl | (split <;> rfl)
  · rfl
theorem s_sv_ok : SumOk Try.prog 58 s_sv := by
  have hE : EnvOk Try.prog SpanValid_E := env_ok (l := []) th_ok any_ok trivial _
  refine sum_ok hE Try.func58 rfl (by kernel_rfl) s_sv [.raw] SpanValid.k ?_
  intro R avs objs κ r h
  unfold s_sv at h
  simp only at h
  split at h
  · rename_i lo hi
    refine ⟨0, _, _, _, (SpanValid.eq (0) lo hi).trans (SpanValid.pure lo hi), ?_, h⟩
    intro rs ros hk
    unfold SpanValid.k at hk
    split at hk
    · first | (cases hk; exact ⟨rfl, rfl⟩) | (have e := Option.some.inj hk; rw [← e]; exact ⟨rfl, rfl⟩)
    · cases hk
  · cases h
theorem s_table_det : SumDet s_table := fun avs objs R κ => by
  show s_table.run avs objs (two κ) = (s_table.run avs objs (two some)).bind κ
  unfold s_table
  simp only
  split
  · first | rfl | (split <;> rfl)
  · rfl
theorem s_table_ok : SumOk Try.prog 94 s_table := by
  have hE : EnvOk Try.prog MsgTable_E := env_ok (l := []) th_ok any_ok trivial _
  refine sum_ok hE Try.func94 rfl (by kernel_rfl) s_table [.raw] MsgTable.k ?_
  intro R avs objs κ r h
  unfold s_table at h
  simp only at h
  split at h
  · skip
    refine ⟨0, _, _, _, (MsgTable.eq (0) ()).trans (rfl), ?_, h⟩
    intro rs ros hk
    unfold MsgTable.k at hk
    split at hk
    · first | (cases hk; exact ⟨rfl, rfl⟩) | (have e := Option.some.inj hk; rw [← e]; exact ⟨rfl, rfl⟩)
    · cases hk
  · cases h
theorem s_of_det : SumDet s_of := fun avs objs R κ => by
  show s_of.run avs objs (two κ) = (s_of.run avs objs (two some)).bind κ
  unfold s_of
  simp only
  split
  · first | rfl | (split <;> rfl)
  · rfl
theorem s_of_ok : SumOk Try.prog 57 s_of := by
  have hE : EnvOk Try.prog MsgOf_E := env_ok (l := [(94, s_table)]) th_ok any_ok ⟨⟨s_table_ok, s_table_det⟩, trivial⟩ _
  refine sum_ok hE Try.func57 rfl (by kernel_rfl) s_of [.dat (.pair .str (.int .u8)) true] MsgOf.k ?_
  intro R avs objs κ r h
  unfold s_of at h
  simp only at h
  split at h
  · rename_i k
    refine ⟨0, _, _, _, (MsgOf.eq (0) k).trans (MsgOf.pure k), ?_, h⟩
    intro rs ros hk
    unfold MsgOf.k at hk
    split at hk
    · first | (cases hk; exact ⟨rfl, rfl⟩) | (have e := Option.some.inj hk; rw [← e]; exact ⟨rfl, rfl⟩)
    · cases hk
  · cases h
noncomputable def hasF (k p : Int) : Bool := if decide (p ≥ 0) && decide (p ≤ 4) then (bits Go.BinOp.and .u8 (Int.fdiv (ofF k).2 ((2 : Int) ^ (Min.min (Int.toNat p) (Go.IntKind.bits .u8)))) (1 : Int)) == (1 : Int) else false
noncomputable def smallRec (r : (Int × Int × Int × (Int × Int) × Bool × List (Int × List Int))) : Bool := smallBag r.2.2.2.2.2
noncomputable def smallRecs (l : List (Int × Int × Int × (Int × Int) × Bool × List (Int × List Int))) : Bool := decide (l.length < 281474976710656) && l.all smallRec
noncomputable def few6Go : List (Int × List Int) → Int → Bool
  | [], _ => true
  | x :: l, n => if decide (n + (x.2.length : Int) > 5000) then false else few6Go l (n + (x.2.length : Int))
noncomputable def few6 (b : List (Int × List Int)) : Bool := if decide ((b.length : Int) > 40) then false else few6Go b 0
noncomputable def few8 (l : List (Int × Int × Int × (Int × Int) × Bool × List (Int × List Int))) : Bool := if decide ((l.length : Int) > 20) then false else l.all fun r => few6 r.2.2.2.2.2
noncomputable def s_has : Den.Sum := ⟨[.raw, .raw], fun args objs κ => match args, objs with
  | [.d (.int .i64) k, .d (.int .i64) p], [] => κ [.d .bool (hasF k p)] []
  | _, _ => none⟩
noncomputable def s_few6 : Den.Sum := ⟨[.dat (.sl (.pair (.int .i64) (.sl (.int .u8)))) false], fun args objs κ => match args, objs with
  | [.d (.sl (.pair (.int .i64) (.sl (.int .u8)))) b], [] => if smallBag b = true then κ [.d .bool (few6 b)] [] else none
  | _, _ => none⟩
noncomputable def s_few8 : Den.Sum := ⟨[.dat (.sl (.pair (.int .i64) (.pair (.int .i64) (.pair (.int .i64) (.pair (.pair (.int .i64) (.int .i64)) (.pair .bool (.sl (.pair (.int .i64) (.sl (.int .u8)))))))))) false], fun args objs κ => match args, objs with
  | [.d (.sl (.pair (.int .i64) (.pair (.int .i64) (.pair (.int .i64) (.pair (.pair (.int .i64) (.int .i64)) (.pair .bool (.sl (.pair (.int .i64) (.sl (.int .u8)))))))))) l], [] => if smallRecs l = true then κ [.d .bool (few8 l)] [] else none
  | _, _ => none⟩
noncomputable def Few6_E : Env := ⟨th, gam [], fun i => if i = 5 then ⟨[0, 3, 4], [], []⟩ else ⟨[], [], []⟩⟩
noncomputable def Few6.k (rs : List AV) (os : List Den.Obj) : Option Bool :=
  match rs, os with
  | [.d .bool r0], [] => some r0
  | _, _ => none
noncomputable def Few6.s5 (b : List (Int × List Int)) (x0 : Int) (x1 : Int) : St := ⟨[.d (.sl (.pair (.int .i64) (.sl (.int .u8)))) (b), .dead, .dead, .d (.int .i64) x0, .d (.int .i64) x1, .dead, .dead, .dead, .dead, .dead, .dead, .dead, .dead, .dead, .dead, .dead, .dead, .dead, .dead, .dead, .dead, .dead, .dead, .dead], ofL [], 0⟩
noncomputable def Few6.b5 (b : List (Int × List Int)) (A5 : Int → Int → Option Bool) (x0 : Int) (x1 : Int) : Option Bool :=
  (if (decide (x1 < ((((List.length b)) : Nat) : Int))) then (match (idx b x1) with | none => none | some y2 => (if (decide ((Go.IntKind.wrap .i64 (x0 + ((((List.length y2.2)) : Nat) : Int))) > (5000 : Int))) then some (false) else A5 (Go.IntKind.wrap .i64 (x0 + ((((List.length y2.2)) : Nat) : Int))) (Go.IntKind.wrap .i64 (x1 + (1 : Int))))) else some (true))
noncomputable def Few6.l5 (fuel : Nat) (b : List (Int × List Int)) : Nat → Int → Int → Option Bool
  | 0, _, _ => none
  | k + 1, x0, x1 => Few6.b5 b (Few6.l5 fuel b k) x0 x1
noncomputable def Few6.b (b : List (Int × List Int)) (E5 : Int → Int → Option Bool) : Option Bool :=
  (if (decide (((((List.length b)) : Nat) : Int) > (40 : Int))) then some (false) else E5 (0 : Int) (0 : Int))
noncomputable def Few6.f (fuel : Nat) (b : List (Int × List Int)) : Option Bool := Few6.b b (Few6.l5 fuel b fuel)
theorem Few6.l5_eq (fuel : Nat) (b : List (Int × List Int)) : ∀ (k : Nat) (x0 : Int) (x1 : Int), lp Few6_E fuel Try.f55 [.raw] 0 Few6.k 5 [] k (Few6.s5 b x0 x1) = Few6.l5 fuel b k x0 x1 := by
  intro k
  induction k with
  | zero => intro x0 x1; rfl
  | succ k ih =>
    intro x0 x1
    have h : lp Few6_E fuel Try.f55 [.raw] 0 Few6.k 5 [] (k + 1) (Few6.s5 b x0 x1) = Few6.b5 b (fun x0 x1 => lp Few6_E fuel Try.f55 [.raw] 0 Few6.k 5 [] k (Few6.s5 b x0 x1)) x0 x1 := by kernel_rfl
    rw [h]
    have e5 : (fun x0 x1 => lp Few6_E fuel Try.f55 [.raw] 0 Few6.k 5 [] k (Few6.s5 b x0 x1)) = Few6.l5 fuel b k := (funext fun x0 => (funext fun x1 => ih x0 x1))
    rw [e5]
    rfl
theorem Few6.eq (fuel : Nat) (b : List (Int × List Int)) : (denF Few6_E loopN fuel Try.f55 [.raw] [.d (.sl (.pair (.int .i64) (.sl (.int .u8)))) b] [] Few6.k) = Few6.f fuel b := by
  have h : (denF Few6_E loopN fuel Try.f55 [.raw] [.d (.sl (.pair (.int .i64) (.sl (.int .u8)))) b] [] Few6.k) = Few6.b b (fun x0 x1 => lp Few6_E fuel Try.f55 [.raw] 0 Few6.k 5 [] fuel (Few6.s5 b x0 x1)) := by kernel_rfl
  rw [h]
  have e5 : (fun x0 x1 => lp Few6_E fuel Try.f55 [.raw] 0 Few6.k 5 [] fuel (Few6.s5 b x0 x1)) = Few6.l5 fuel b fuel := (funext fun x0 => (funext fun x1 => Few6.l5_eq fuel b fuel x0 x1))
  rw [e5]
  rfl
noncomputable def Few8_E : Env := ⟨th, gam [(55, s_few6)], fun i => if i = 4 then ⟨[0, 3], [], []⟩ else ⟨[], [], []⟩⟩
noncomputable def Few8.k (rs : List AV) (os : List Den.Obj) : Option Bool :=
  match rs, os with
  | [.d .bool r0], [] => some r0
  | _, _ => none
noncomputable def Few8.s4 (l : List (Int × Int × Int × (Int × Int) × Bool × List (Int × List Int))) (x0 : Int) : St := ⟨[.d (.sl (.pair (.int .i64) (.pair (.int .i64) (.pair (.int .i64) (.pair (.pair (.int .i64) (.int .i64)) (.pair .bool (.sl (.pair (.int .i64) (.sl (.int .u8)))))))))) (l), .dead, .dead, .d (.int .i64) x0, .dead, .dead, .dead, .dead, .dead, .dead, .dead, .dead, .dead, .dead, .dead, .dead, .dead, .dead, .dead, .dead], ofL [], 0⟩
noncomputable def Few8.b4 (l : List (Int × Int × Int × (Int × Int) × Bool × List (Int × List Int))) (A4 : Int → Option Bool) (x0 : Int) : Option Bool :=
  (if (decide (x0 < ((((List.length l)) : Nat) : Int))) then (match (idx l x0) with | none => none | some y1 => (if (smallBag y1.2.2.2.2.2) then (if (!(few6 y1.2.2.2.2.2)) then some (false) else A4 (Go.IntKind.wrap .i64 (x0 + (1 : Int)))) else none)) else some (true))
noncomputable def Few8.l4 (fuel : Nat) (l : List (Int × Int × Int × (Int × Int) × Bool × List (Int × List Int))) : Nat → Int → Option Bool
  | 0, _ => none
  | k + 1, x0 => Few8.b4 l (Few8.l4 fuel l k) x0
noncomputable def Few8.b (l : List (Int × Int × Int × (Int × Int) × Bool × List (Int × List Int))) (E4 : Int → Option Bool) : Option Bool :=
  (if (decide (((((List.length l)) : Nat) : Int) > (20 : Int))) then some (false) else E4 (0 : Int))
noncomputable def Few8.f (fuel : Nat) (l : List (Int × Int × Int × (Int × Int) × Bool × List (Int × List Int))) : Option Bool := Few8.b l (Few8.l4 fuel l fuel)
theorem Few8.l4_eq (fuel : Nat) (l : List (Int × Int × Int × (Int × Int) × Bool × List (Int × List Int))) : ∀ (k : Nat) (x0 : Int), lp Few8_E fuel Try.f17 [.raw] 0 Few8.k 4 [] k (Few8.s4 l x0) = Few8.l4 fuel l k x0 := by
  intro k
  induction k with
  | zero => intro x0; rfl
  | succ k ih =>
    intro x0
    have h : lp Few8_E fuel Try.f17 [.raw] 0 Few8.k 4 [] (k + 1) (Few8.s4 l x0) = Few8.b4 l (fun x0 => lp Few8_E fuel Try.f17 [.raw] 0 Few8.k 4 [] k (Few8.s4 l x0)) x0 := by kernel_rfl
    rw [h]
    have e4 : (fun x0 => lp Few8_E fuel Try.f17 [.raw] 0 Few8.k 4 [] k (Few8.s4 l x0)) = Few8.l4 fuel l k := (funext fun x0 => ih x0)
    rw [e4]
    rfl
theorem Few8.eq (fuel : Nat) (l : List (Int × Int × Int × (Int × Int) × Bool × List (Int × List Int))) : (denF Few8_E loopN fuel Try.f17 [.raw] [.d (.sl (.pair (.int .i64) (.pair (.int .i64) (.pair (.int .i64) (.pair (.pair (.int .i64) (.int .i64)) (.pair .bool (.sl (.pair (.int .i64) (.sl (.int .u8)))))))))) l] [] Few8.k) = Few8.f fuel l := by
  have h : (denF Few8_E loopN fuel Try.f17 [.raw] [.d (.sl (.pair (.int .i64) (.pair (.int .i64) (.pair (.int .i64) (.pair (.pair (.int .i64) (.int .i64)) (.pair .bool (.sl (.pair (.int .i64) (.sl (.int .u8)))))))))) l] [] Few8.k) = Few8.b l (fun x0 => lp Few8_E fuel Try.f17 [.raw] 0 Few8.k 4 [] fuel (Few8.s4 l x0)) := by kernel_rfl
  rw [h]
  have e4 : (fun x0 => lp Few8_E fuel Try.f17 [.raw] 0 Few8.k 4 [] fuel (Few8.s4 l x0)) = Few8.l4 fuel l fuel := (funext fun x0 => Few8.l4_eq fuel l fuel x0)
  rw [e4]
  rfl
theorem MsgHas.pure (k p : Int) : MsgHas.f 0 k p = some (hasF k p) := by
  unfold MsgHas.f MsgHas.b hasF
  by_cases h1 : p ≥ 0
  · by_cases h2 : p ≤ 4
    · rw [if_pos (by simpa using h1), if_pos (by simpa using h2), if_neg (by omega), if_pos (by simp; omega)]
    · simp [h1, h2]
  · simp [h1]
theorem smallRecs_iff (l : List (Int × Int × Int × (Int × Int) × Bool × List (Int × List Int))) : smallRecs l = true ↔ l.length < 281474976710656 ∧ ∀ r ∈ l, smallBag r.2.2.2.2.2 = true := by
  unfold smallRecs
  simp [List.all_eq_true, smallRec]
theorem Few6.loop (fuel : Nat) (b : List (Int × List Int)) (hl : smallBag b = true) : ∀ (k i : Nat) (n : Int), i ≤ b.length → b.length - i < k → 0 ≤ n → n ≤ 5000 → Few6.l5 fuel b k n (i : Int) = some (few6Go (b.drop i) n) := by
  obtain ⟨hb, hx⟩ := (smallBag_iff b).1 hl
  intro k
  induction k with
  | zero => intro i n h1 h2; omega
  | succ k ih =>
    intro i n h1 h2 h3 h4
    rw [Few6.l5]
    unfold Few6.b5
    by_cases hi : i < b.length
    · rw [if_pos (by simp; omega), idx_at, List.getElem?_eq_getElem hi]
      dsimp only
      rw [List.drop_eq_getElem_cons hi]
      have hxl := hx b[i] (List.getElem_mem hi)
      unfold few6Go
      rw [wrap_small (n + _) (by omega) (by omega), wrap_small ((i : Int) + 1) (by omega) (by omega)]
      split
      · rfl
      · rename_i hh
        exact ih (i + 1) _ (by omega) (by omega) (by omega) (by simpa using hh)
    · rw [if_neg (by simp; omega), List.drop_of_length_le (by omega)]
      rfl
theorem Few6.pure (b : List (Int × List Int)) (hl : smallBag b = true) : Few6.f (b.length + 1) b = some (few6 b) := by
  unfold Few6.f Few6.b few6
  split
  · rfl
  · exact Few6.loop _ b hl _ 0 0 (by omega) (by omega) (by omega) (by omega)
theorem Few8.loop (fuel : Nat) (l : List (Int × Int × Int × (Int × Int) × Bool × List (Int × List Int))) (hl : smallRecs l = true) : ∀ (k i : Nat), i ≤ l.length → l.length - i < k → Few8.l4 fuel l k (i : Int) = some ((l.drop i).all fun r => few6 r.2.2.2.2.2) := by
  obtain ⟨hb, hx⟩ := (smallRecs_iff l).1 hl
  intro k
  induction k with
  | zero => intro i h1 h2; omega
  | succ k ih =>
    intro i h1 h2
    rw [Few8.l4]
    unfold Few8.b4
    by_cases hi : i < l.length
    · rw [if_pos (by simp; omega), idx_at, List.getElem?_eq_getElem hi]
      dsimp only
      rw [List.drop_eq_getElem_cons hi, hx l[i] (List.getElem_mem hi), if_pos rfl, wrap_small ((i : Int) + 1) (by omega) (by omega), List.all_cons]
      cases few6 l[i].2.2.2.2.2
      · rfl
      · simp only [Bool.not_true, Bool.false_eq_true, if_false, Bool.true_and]
        exact ih (i + 1) (by omega) (by omega)
    · rw [if_neg (by simp; omega), List.drop_of_length_le (by omega)]
      rfl
theorem Few8.pure (l : List (Int × Int × Int × (Int × Int) × Bool × List (Int × List Int))) (hl : smallRecs l = true) : Few8.f (l.length + 1) l = some (few8 l) := by
  unfold Few8.f Few8.b few8
  split
  · rfl
  · exact Few8.loop _ l hl _ 0 (by omega) (by omega)
theorem s_has_det : SumDet s_has := fun avs objs R κ => by
  show s_has.run avs objs (two κ) = (s_has.run avs objs (two some)).bind κ
  unfold s_has
  simp only
  split
  · first | rfl | (split <;> rfl)
  · rfl
theorem s_has_ok : SumOk Try.prog 50 s_has := by
  have hE : EnvOk Try.prog MsgHas_E := env_ok (l := [(57, s_of)]) th_ok any_ok ⟨⟨s_of_ok, s_of_det⟩, trivial⟩ _
  refine sum_ok hE Try.func50 rfl (by kernel_rfl) s_has [.raw] MsgHas.k ?_
  intro R avs objs κ r h
  unfold s_has at h
  simp only at h
  split at h
  · rename_i k p
    refine ⟨0, _, _, _, (MsgHas.eq (0) k p).trans (MsgHas.pure k p), ?_, h⟩
    intro rs ros hk
    unfold MsgHas.k at hk
    split at hk
    · first | (cases hk; exact ⟨rfl, rfl⟩) | (have e := Option.some.inj hk; rw [← e]; exact ⟨rfl, rfl⟩)
    · cases hk
  · cases h
theorem s_few6_det : SumDet s_few6 := fun avs objs R κ => by
  show s_few6.run avs objs (two κ) = (s_few6.run avs objs (two some)).bind κ
  unfold s_few6
  simp only
  split
  · first | rfl | (split <;> rfl)
  · rfl
theorem s_few6_ok : SumOk Try.prog 55 s_few6 := by
  have hE : EnvOk Try.prog Few6_E := env_ok (l := []) th_ok any_ok trivial _
  refine sum_ok hE Try.func55 rfl (by kernel_rfl) s_few6 [.raw] Few6.k ?_
  intro R avs objs κ r h
  unfold s_few6 at h
  simp only at h
  split at h
  · rename_i b
    split at h
    case isFalse => cases h
    rename_i hl
    refine ⟨b.length + 1, _, _, _, (Few6.eq (b.length + 1) b).trans (Few6.pure b hl), ?_, h⟩
    intro rs ros hk
    unfold Few6.k at hk
    split at hk
    · first | (cases hk; exact ⟨rfl, rfl⟩) | (have e := Option.some.inj hk; rw [← e]; exact ⟨rfl, rfl⟩)
    · cases hk
  · cases h
theorem s_few8_det : SumDet s_few8 := fun avs objs R κ => by
  show s_few8.run avs objs (two κ) = (s_few8.run avs objs (two some)).bind κ
  unfold s_few8
  simp only
  split
  · first | rfl | (split <;> rfl)
  · rfl
theorem s_few8_ok : SumOk Try.prog 17 s_few8 := by
  have hE : EnvOk Try.prog Few8_E := env_ok (l := [(55, s_few6)]) th_ok any_ok ⟨⟨s_few6_ok, s_few6_det⟩, trivial⟩ _
  refine sum_ok hE Try.func17 rfl (by kernel_rfl) s_few8 [.raw] Few8.k ?_
  intro R avs objs κ r h
  unfold s_few8 at h
  simp only at h
  split at h
  · rename_i l
    split at h
    case isFalse => cases h
    rename_i hl
    refine ⟨l.length + 1, _, _, _, (Few8.eq (l.length + 1) l).trans (Few8.pure l hl), ?_, h⟩
    intro rs ros hk
    unfold Few8.k at hk
    split at hk
    · first | (cases hk; exact ⟨rfl, rfl⟩) | (have e := Option.some.inj hk; rw [← e]; exact ⟨rfl, rfl⟩)
    · cases hk
  · cases h
theorem n1 : Int.toNat (1 : Int) = 1 := rfl
theorem n2 : Int.toNat (2 : Int) = 2 := rfl
theorem Try.own : ownKnob Try.prog.godebug = none := by kernel_rfl
theorem Try.laidOut : laidOutB Try.prog = true := by kernel_rfl
theorem Try.mapsRow : mapsRowed Try.prog = true := by kernel_rfl
theorem Try.slicesSize : slicesSized Try.prog = true := by kernel_rfl
theorem good_bag {b : List (Int × List Int)} (h : Go.Den.Good (.sl (.pair (.int .i64) (.sl (.int .u8)))) b) : smallBag b = true := by
  obtain ⟨h1, h2⟩ := h
  refine (smallBag_iff b).2 ⟨by have : reachBytes = 140737488351232 := rfl; omega, fun x hx => ?_⟩
  have := (h2 x hx).2.1
  have e : reachBytes = 140737488351232 := rfl
  omega
theorem good_recs {l : List (Int × Int × Int × (Int × Int) × Bool × List (Int × List Int))} (h : Go.Den.Good (.sl (.pair (.int .i64) (.pair (.int .i64) (.pair (.int .i64) (.pair (.pair (.int .i64) (.int .i64)) (.pair .bool (.sl (.pair (.int .i64) (.sl (.int .u8))))))))) ) l) : smallRecs l = true := by
  obtain ⟨h1, h2⟩ := h
  refine (smallRecs_iff l).2 ⟨by have : reachBytes = 140737488351232 := rfl; omega, fun r hr => ?_⟩
  exact good_bag (h2 r hr).2.2.2.2.2
noncomputable def BIG : Nat := veil 1099511627776
theorem BIG_eq : BIG = 1099511627776 := veil_eq _
abbrev LR := List (Int × Int × Int × (Int × Int) × Bool × List (Int × List Int))
abbrev LF := List (Int × List Int)
abbrev REC := Int × Int × Int × (Int × Int) × Bool × LF
theorem big_eq : BIG = (BIG - 1) + 1 := by rw [BIG_eq]
theorem wrapU8 (n : Int) : Go.IntKind.wrap .u8 n = n % 256 := by
  simp [Go.IntKind.wrap, IntKind.signed, IntKind.bits]
theorem wrapU64 (n : Int) (h0 : 0 ≤ n) (h1 : n < 18446744073709551616) : Go.IntKind.wrap .u64 n = n := by
  simp [Go.IntKind.wrap, IntKind.signed, IntKind.bits]
  omega
def renn156 : Go.Shelf.Ren where
  f := fun x => match x with
    | 156 => 87
    | 165 => 127
    | 166 => 128
    | 169 => 129
    | 240 => 139
    | 241 => 140
    | 276 => 143
    | 277 => 144
    | n => n
  t := fun x => match x with
    | 31 => 72
    | 9 => 9
    | 3 => 3
    | 4 => 4
    | 0 => 0
    | 20 => 20
    | 72 => 162
    | 76 => 166
    | 70 => 160
    | 37 => 30
    | 75 => 165
    | 127 => 180
    | 164 => 183
    | 5 => 5
    | 80 => 168
    | n => n
  g := fun x => x
theorem laysn156 : Go.Proofs.Lays.n156 Try.prog renn156 where
  mixed := by kernel_rfl
  f156 := Try.func87
  f165 := Try.func127
  f166 := Try.func128
  f169 := Try.func129
  f240 := Try.func139
  f241 := Try.func140
  f276 := Try.func143
  f277 := Try.func144
  t0 := Try.underlying0
  a0 := Try.isAgg0
  z0 := Try.sizeOf0
  v0 := Try.zeroValue0
  t3 := Try.underlying3
  a3 := Try.isAgg3
  z3 := Try.sizeOf3
  v3 := Try.zeroValue3
  t4 := Try.underlying4
  a4 := Try.isAgg4
  z4 := Try.sizeOf4
  v4 := Try.zeroValue4
  t9 := Try.underlying9
  a9 := Try.isAgg9
  z9 := Try.sizeOf9
  v9 := Try.zeroValue9
  t20 := Try.underlying20
  a20 := Try.isAgg20
  z20 := Try.sizeOf20
  v20 := Try.zeroValue20
  t31 := Try.underlying72
  a31 := Try.isAgg72
  z31 := Try.sizeOf72
  v31 := Try.zeroValue72
  t37 := Try.underlying30
  a37 := Try.isAgg30
  z37 := Try.sizeOf30
  v37 := Try.zeroValue30
  t70 := Try.underlying160
  a70 := Try.isAgg160
  z70 := Try.sizeOf160
  v70 := Try.zeroValue160
  t72 := Try.underlying162
  a72 := Try.isAgg162
  z72 := Try.sizeOf162
  v72 := Try.zeroValue162
  t75 := Try.underlying165
  a75 := Try.isAgg165
  z75 := Try.sizeOf165
  v75 := Try.zeroValue165
  t76 := Try.underlying166
  a76 := Try.isAgg166
  z76 := Try.sizeOf166
  v76 := Try.zeroValue166
  t127 := Try.underlying180
  a127 := Try.isAgg180
  z127 := Try.sizeOf180
  v127 := Try.zeroValue180
  t164 := Try.underlying183
  a164 := Try.isAgg183
  z164 := Try.sizeOf183
  v164 := Try.zeroValue183
theorem extran156 : Go.Proofs.Builder.Extra Try.prog renn156 where
  sizeBuilder := by kernel_rfl
  liesBuilder := by kernel_rfl
  t5 := Try.underlying5
  a5 := Try.isAgg5
  z5 := Try.sizeOf5
  v5 := Try.zeroValue5
  infoByte := by kernel_rfl
  cellsByte := by kernel_rfl
  sizeByte := by kernel_rfl
  neB5 := by decide
noncomputable def s_joinS : Den.Sum := Go.Den.s_join
theorem s_joinS_det : SumDet s_joinS := Go.Den.s_join_det
theorem s_joinS_ok : SumOk Try.prog 87 s_joinS := Go.Den.s_join_ok laysn156 extran156 Try.func87 rfl (by kernel_rfl)
noncomputable def msg_Name_E : Env := ⟨th, gam [(57, s_of)], fun i => ⟨[], [], []⟩⟩
noncomputable def msg_Name.k (rs : List AV) (os : List Den.Obj) : Option ByteArray :=
  match rs, os with
  | [.d .str r0], [] => some r0
  | _, _ => none
noncomputable def msg_Name.b (kind : Int) : Option ByteArray :=
  some ((ofF kind).1)
noncomputable def msg_Name.f (fuel : Nat) (kind : Int) : Option ByteArray := msg_Name.b kind
theorem msg_Name.eq (fuel : Nat) (kind : Int) : (denF msg_Name_E loopN fuel Try.f49 [.raw] [.d (.int .i64) kind] [] msg_Name.k) = msg_Name.f fuel kind := by
  kernel_rfl
noncomputable def s_msg_Name : Den.Sum := ⟨[.raw], fun args objs κ => match args, objs with
  | [.d (.int .i64) kind], [] => (match veil (msg_Name.f BIG kind) with | none => none | some y => κ [.d .str y] [])
  | _, _ => none⟩
theorem s_msg_Name_det : SumDet s_msg_Name := fun avs objs R κ => by
  show s_msg_Name.run avs objs (two κ) = (s_msg_Name.run avs objs (two some)).bind κ
  unfold s_msg_Name
  simp only [veil_eq]
  split
  · split <;> rfl
  · rfl
theorem s_msg_Name_ok : SumOk Try.prog 49 s_msg_Name := by
  have hE : EnvOk Try.prog msg_Name_E := env_ok (l := [(57, s_of)]) th_ok any_ok ⟨⟨s_of_ok, s_of_det⟩, trivial⟩ _
  refine sum_ok hE Try.func49 rfl (by kernel_rfl) s_msg_Name [.raw] msg_Name.k ?_
  intro R avs objs κ r h
  unfold s_msg_Name at h
  simp only [veil_eq] at h
  split at h
  · rename_i kind
    split at h
    · cases h
    · rename_i y hy
      refine ⟨BIG, _, _, _, (msg_Name.eq BIG kind).trans hy, ?_, h⟩
      intro rs ros hk
      unfold msg_Name.k at hk
      split at hk
      · first | (cases hk; exact ⟨rfl, rfl⟩) | (have e := Option.some.inj hk; rw [← e]; exact ⟨rfl, rfl⟩)
      · cases hk
  · cases h
noncomputable def label_Num_E : Env := ⟨th, gam [], fun i => if i = 6 then ⟨[0, 3, 4, 5], [], []⟩ else ⟨[], [], []⟩⟩
noncomputable def label_Num.k (rs : List AV) (os : List Den.Obj) : Option ByteArray :=
  match rs, os with
  | [.d .str r0], [] => some r0
  | _, _ => none
noncomputable def label_Num.s6 (v : Int) (x0 : Int) (x1 : Int) (x2 : (List Int)) : St := ⟨[.d (.int .i64) (v), .dead, .dead, .ptr 64 0, .d (.int .i64) x0, .d (.int .u64) x1, .dead, .dead, .dead, .dead, .dead, .dead, .dead, .dead, .dead, .dead, .dead, .dead, .dead, .dead, .dead, .dead, .dead, .dead, .dead, .dead, .dead, .dead, .dead, .dead, .dead, .dead, .dead], ofL [(64, .arr 20 (.int .u8) x2)], 0⟩
noncomputable def label_Num.b6 (v : Int) (A6 : Int → Int → (List Int) → Option ByteArray) (x0 : Int) (x1 : Int) (x2 : (List Int)) : Option ByteArray :=
  (match (idx x2 (Go.IntKind.wrap .i64 (x0 - (1 : Int)))) with | none => none | some y3 => (match (idx x2 (Go.IntKind.wrap .i64 (x0 - (1 : Int)))) with | none => none | some y4 => (if ((Go.IntKind.wrap .u64 (Int.tdiv x1 (10 : Int))) == (0 : Int)) then (if (decide (v < (0 : Int))) then (match (idx (List.set x2 (Int.toNat (Go.IntKind.wrap .i64 (x0 - (1 : Int)))) (Go.IntKind.wrap .u8 (Go.IntKind.wrap .u64 ((48 : Int) + (Int.tmod x1 (10 : Int)))))) (Go.IntKind.wrap .i64 ((Go.IntKind.wrap .i64 (x0 - (1 : Int))) - (1 : Int)))) with | none => none | some y5 => (match (idx (List.set x2 (Int.toNat (Go.IntKind.wrap .i64 (x0 - (1 : Int)))) (Go.IntKind.wrap .u8 (Go.IntKind.wrap .u64 ((48 : Int) + (Int.tmod x1 (10 : Int)))))) (Go.IntKind.wrap .i64 ((Go.IntKind.wrap .i64 (x0 - (1 : Int))) - (1 : Int)))) with | none => none | some y6 => (if (((0 : Int) ≤ (Go.IntKind.wrap .i64 ((Go.IntKind.wrap .i64 (x0 - (1 : Int))) - (1 : Int)))) ∧ ((Go.IntKind.wrap .i64 ((Go.IntKind.wrap .i64 (x0 - (1 : Int))) - (1 : Int))) ≤ ((((List.length (List.set (List.set x2 (Int.toNat (Go.IntKind.wrap .i64 (x0 - (1 : Int)))) (Go.IntKind.wrap .u8 (Go.IntKind.wrap .u64 ((48 : Int) + (Int.tmod x1 (10 : Int)))))) (Int.toNat (Go.IntKind.wrap .i64 ((Go.IntKind.wrap .i64 (x0 - (1 : Int))) - (1 : Int)))) (45 : Int)))) : Nat) : Int))) then some ((strOf (List.drop (Int.toNat (Go.IntKind.wrap .i64 ((Go.IntKind.wrap .i64 (x0 - (1 : Int))) - (1 : Int)))) (List.take (List.length (List.set (List.set x2 (Int.toNat (Go.IntKind.wrap .i64 (x0 - (1 : Int)))) (Go.IntKind.wrap .u8 (Go.IntKind.wrap .u64 ((48 : Int) + (Int.tmod x1 (10 : Int)))))) (Int.toNat (Go.IntKind.wrap .i64 ((Go.IntKind.wrap .i64 (x0 - (1 : Int))) - (1 : Int)))) (45 : Int))) (List.set (List.set x2 (Int.toNat (Go.IntKind.wrap .i64 (x0 - (1 : Int)))) (Go.IntKind.wrap .u8 (Go.IntKind.wrap .u64 ((48 : Int) + (Int.tmod x1 (10 : Int)))))) (Int.toNat (Go.IntKind.wrap .i64 ((Go.IntKind.wrap .i64 (x0 - (1 : Int))) - (1 : Int)))) (45 : Int)))))) else none))) else (if (((0 : Int) ≤ (Go.IntKind.wrap .i64 (x0 - (1 : Int)))) ∧ ((Go.IntKind.wrap .i64 (x0 - (1 : Int))) ≤ ((((List.length (List.set x2 (Int.toNat (Go.IntKind.wrap .i64 (x0 - (1 : Int)))) (Go.IntKind.wrap .u8 (Go.IntKind.wrap .u64 ((48 : Int) + (Int.tmod x1 (10 : Int)))))))) : Nat) : Int))) then some ((strOf (List.drop (Int.toNat (Go.IntKind.wrap .i64 (x0 - (1 : Int)))) (List.take (List.length (List.set x2 (Int.toNat (Go.IntKind.wrap .i64 (x0 - (1 : Int)))) (Go.IntKind.wrap .u8 (Go.IntKind.wrap .u64 ((48 : Int) + (Int.tmod x1 (10 : Int))))))) (List.set x2 (Int.toNat (Go.IntKind.wrap .i64 (x0 - (1 : Int)))) (Go.IntKind.wrap .u8 (Go.IntKind.wrap .u64 ((48 : Int) + (Int.tmod x1 (10 : Int)))))))))) else none)) else A6 (Go.IntKind.wrap .i64 (x0 - (1 : Int))) (Go.IntKind.wrap .u64 (Int.tdiv x1 (10 : Int))) (List.set x2 (Int.toNat (Go.IntKind.wrap .i64 (x0 - (1 : Int)))) (Go.IntKind.wrap .u8 (Go.IntKind.wrap .u64 ((48 : Int) + (Int.tmod x1 (10 : Int)))))))))
noncomputable def label_Num.l6 (fuel : Nat) (v : Int) : Nat → Int → Int → (List Int) → Option ByteArray
  | 0, _, _, _ => none
  | k + 1, x0, x1, x2 => label_Num.b6 v (label_Num.l6 fuel v k) x0 x1 x2
noncomputable def label_Num.b (v : Int) (E6 : Int → Int → (List Int) → Option ByteArray) : Option ByteArray :=
  (if (decide (v < (0 : Int))) then E6 (20 : Int) (Go.IntKind.wrap .u64 ((0 : Int) - (Go.IntKind.wrap .u64 v))) (List.replicate (20 : Nat) (zeroI (Go.Den.Ty.int .u8))) else E6 (20 : Int) (Go.IntKind.wrap .u64 v) (List.replicate (20 : Nat) (zeroI (Go.Den.Ty.int .u8))))
noncomputable def label_Num.f (fuel : Nat) (v : Int) : Option ByteArray := label_Num.b v (label_Num.l6 fuel v fuel)
theorem label_Num.l6_eq (fuel : Nat) (v : Int) : ∀ (k : Nat) (x0 : Int) (x1 : Int) (x2 : (List Int)), lp label_Num_E fuel Try.f52 [.raw] 0 label_Num.k 6 [] k (label_Num.s6 v x0 x1 x2) = label_Num.l6 fuel v k x0 x1 x2 := by
  intro k
  induction k with
  | zero => intro x0 x1 x2; rfl
  | succ k ih =>
    intro x0 x1 x2
    have h : lp label_Num_E fuel Try.f52 [.raw] 0 label_Num.k 6 [] (k + 1) (label_Num.s6 v x0 x1 x2) = label_Num.b6 v (fun x0 x1 x2 => lp label_Num_E fuel Try.f52 [.raw] 0 label_Num.k 6 [] k (label_Num.s6 v x0 x1 x2)) x0 x1 x2 := by kernel_rfl
    rw [h]
    have e6 : (fun x0 x1 x2 => lp label_Num_E fuel Try.f52 [.raw] 0 label_Num.k 6 [] k (label_Num.s6 v x0 x1 x2)) = label_Num.l6 fuel v k := (funext fun x0 => (funext fun x1 => (funext fun x2 => ih x0 x1 x2)))
    rw [e6]
    rfl
theorem label_Num.eq (fuel : Nat) (v : Int) : (denF label_Num_E loopN fuel Try.f52 [.raw] [.d (.int .i64) v] [] label_Num.k) = label_Num.f fuel v := by
  have h : (denF label_Num_E loopN fuel Try.f52 [.raw] [.d (.int .i64) v] [] label_Num.k) = label_Num.b v (fun x0 x1 x2 => lp label_Num_E fuel Try.f52 [.raw] 0 label_Num.k 6 [] fuel (label_Num.s6 v x0 x1 x2)) := by kernel_rfl
  rw [h]
  have e6 : (fun x0 x1 x2 => lp label_Num_E fuel Try.f52 [.raw] 0 label_Num.k 6 [] fuel (label_Num.s6 v x0 x1 x2)) = label_Num.l6 fuel v fuel := (funext fun x0 => (funext fun x1 => (funext fun x2 => label_Num.l6_eq fuel v fuel x0 x1 x2)))
  rw [e6]
  rfl
noncomputable def s_label_Num : Den.Sum := ⟨[.raw], fun args objs κ => match args, objs with
  | [.d (.int .i64) v], [] => (match veil (label_Num.f BIG v) with | none => none | some y => κ [.d .str y] [])
  | _, _ => none⟩
theorem s_label_Num_det : SumDet s_label_Num := fun avs objs R κ => by
  show s_label_Num.run avs objs (two κ) = (s_label_Num.run avs objs (two some)).bind κ
  unfold s_label_Num
  simp only [veil_eq]
  split
  · split <;> rfl
  · rfl
theorem s_label_Num_ok : SumOk Try.prog 52 s_label_Num := by
  have hE : EnvOk Try.prog label_Num_E := env_ok (l := []) th_ok any_ok trivial _
  refine sum_ok hE Try.func52 rfl (by kernel_rfl) s_label_Num [.raw] label_Num.k ?_
  intro R avs objs κ r h
  unfold s_label_Num at h
  simp only [veil_eq] at h
  split at h
  · rename_i v
    split at h
    · cases h
    · rename_i y hy
      refine ⟨BIG, _, _, _, (label_Num.eq BIG v).trans hy, ?_, h⟩
      intro rs ros hk
      unfold label_Num.k at hk
      split at hk
      · first | (cases hk; exact ⟨rfl, rfl⟩) | (have e := Option.some.inj hk; rw [← e]; exact ⟨rfl, rfl⟩)
      · cases hk
  · cases h
noncomputable def label_or_E : Env := ⟨th, gam [], fun i => ⟨[], [], []⟩⟩
noncomputable def label_or.k (rs : List AV) (os : List Den.Obj) : Option ByteArray :=
  match rs, os with
  | [.d .str r0], [] => some r0
  | _, _ => none
noncomputable def label_or.b (t : ByteArray) : Option ByteArray :=
  (if ((ByteArray.toList t) == (ByteArray.toList (⟨(([] : List UInt8)).toArray⟩ : ByteArray))) then some ((⟨((63 :: ([] : List UInt8))).toArray⟩ : ByteArray)) else some (t))
noncomputable def label_or.f (fuel : Nat) (t : ByteArray) : Option ByteArray := label_or.b t
theorem label_or.eq (fuel : Nat) (t : ByteArray) : (denF label_or_E loopN fuel Try.f84 [.raw] [.d .str t] [] label_or.k) = label_or.f fuel t := by
  kernel_rfl
noncomputable def s_label_or : Den.Sum := ⟨[.raw], fun args objs κ => match args, objs with
  | [.d .str t], [] => (match veil (label_or.f BIG t) with | none => none | some y => κ [.d .str y] [])
  | _, _ => none⟩
theorem s_label_or_det : SumDet s_label_or := fun avs objs R κ => by
  show s_label_or.run avs objs (two κ) = (s_label_or.run avs objs (two some)).bind κ
  unfold s_label_or
  simp only [veil_eq]
  split
  · split <;> rfl
  · rfl
theorem s_label_or_ok : SumOk Try.prog 84 s_label_or := by
  have hE : EnvOk Try.prog label_or_E := env_ok (l := []) th_ok any_ok trivial _
  refine sum_ok hE Try.func84 rfl (by kernel_rfl) s_label_or [.raw] label_or.k ?_
  intro R avs objs κ r h
  unfold s_label_or at h
  simp only [veil_eq] at h
  split at h
  · rename_i t
    split at h
    · cases h
    · rename_i y hy
      refine ⟨BIG, _, _, _, (label_or.eq BIG t).trans hy, ?_, h⟩
      intro rs ros hk
      unfold label_or.k at hk
      split at hk
      · first | (cases hk; exact ⟨rfl, rfl⟩) | (have e := Option.some.inj hk; rw [← e]; exact ⟨rfl, rfl⟩)
      · cases hk
  · cases h
noncomputable def span_Text_E : Env := ⟨th, gam [(58, s_sv)], fun i => ⟨[], [], []⟩⟩
noncomputable def span_Text.k (rs : List AV) (os : List Den.Obj) : Option ByteArray :=
  match rs, os with
  | [.d .str r0], [] => some r0
  | _, _ => none
noncomputable def span_Text.b (sLo : Int) (sHi : Int) : Option ByteArray :=
  (if (!(okS sLo sHi)) then some ((⟨(([] : List UInt8)).toArray⟩ : ByteArray)) else some ((strOf ((Go.IntKind.wrap .u8 (Go.IntKind.wrap .i64 ((48 : Int) + sLo))) :: ((45 : Int) :: ((Go.IntKind.wrap .u8 (Go.IntKind.wrap .i64 ((48 : Int) + sHi))) :: ([] : List Int)))))))
noncomputable def span_Text.f (fuel : Nat) (sLo : Int) (sHi : Int) : Option ByteArray := span_Text.b sLo sHi
theorem span_Text.eq (fuel : Nat) (sLo : Int) (sHi : Int) : (denF span_Text_E loopN fuel Try.f86 [.raw] [.agg [.d (.int .i64) sLo, .d (.int .i64) sHi]] [] span_Text.k) = span_Text.f fuel sLo sHi := by
  kernel_rfl
noncomputable def s_span_Text : Den.Sum := ⟨[.dat (.pair (.int .i64) (.int .i64)) true], fun args objs κ => match args, objs with
  | [.agg [.d (.int .i64) sLo, .d (.int .i64) sHi]], [] => (match veil (span_Text.f BIG sLo sHi) with | none => none | some y => κ [.d .str y] [])
  | _, _ => none⟩
theorem s_span_Text_det : SumDet s_span_Text := fun avs objs R κ => by
  show s_span_Text.run avs objs (two κ) = (s_span_Text.run avs objs (two some)).bind κ
  unfold s_span_Text
  simp only [veil_eq]
  split
  · split <;> rfl
  · rfl
theorem s_span_Text_ok : SumOk Try.prog 86 s_span_Text := by
  have hE : EnvOk Try.prog span_Text_E := env_ok (l := [(58, s_sv)]) th_ok any_ok ⟨⟨s_sv_ok, s_sv_det⟩, trivial⟩ _
  refine sum_ok hE Try.func86 rfl (by kernel_rfl) s_span_Text [.raw] span_Text.k ?_
  intro R avs objs κ r h
  unfold s_span_Text at h
  simp only [veil_eq] at h
  split at h
  · rename_i sLo sHi
    split at h
    · cases h
    · rename_i y hy
      refine ⟨BIG, _, _, _, (span_Text.eq BIG sLo sHi).trans hy, ?_, h⟩
      intro rs ros hk
      unfold span_Text.k at hk
      split at hk
      · first | (cases hk; exact ⟨rfl, rfl⟩) | (have e := Option.some.inj hk; rw [← e]; exact ⟨rfl, rfl⟩)
      · cases hk
  · cases h
noncomputable def label_words_E : Env := ⟨th, gam [], fun i => ⟨[], [], []⟩⟩
noncomputable def label_words.k (rs : List AV) (os : List Den.Obj) : Option (List ByteArray) :=
  match rs, os with
  | [.d (.arr 18 .str) r0], [] => some r0
  | _, _ => none
noncomputable def label_words.b (u : Unit) : Option (List ByteArray) :=
  some (((⟨((111 :: (107 :: ([] : List UInt8)))).toArray⟩ : ByteArray) :: ((⟨((97 :: (114 :: (103 :: ([] : List UInt8))))).toArray⟩ : ByteArray) :: ((⟨((115 :: (104 :: (111 :: (114 :: (116 :: ([] : List UInt8))))))).toArray⟩ : ByteArray) :: ((⟨((108 :: (111 :: (110 :: (103 :: ([] : List UInt8)))))).toArray⟩ : ByteArray) :: ((⟨((102 :: (111 :: (114 :: (109 :: ([] : List UInt8)))))).toArray⟩ : ByteArray) :: ((⟨((114 :: (97 :: (110 :: (103 :: (101 :: ([] : List UInt8))))))).toArray⟩ : ByteArray) :: ((⟨((102 :: (117 :: (108 :: (108 :: ([] : List UInt8)))))).toArray⟩ : ByteArray) :: ((⟨((110 :: (111 :: (110 :: (101 :: ([] : List UInt8)))))).toArray⟩ : ByteArray) :: ((⟨((115 :: (117 :: (109 :: ([] : List UInt8))))).toArray⟩ : ByteArray) :: ((⟨((103 :: (101 :: (110 :: ([] : List UInt8))))).toArray⟩ : ByteArray) :: ((⟨((107 :: (105 :: (110 :: (100 :: ([] : List UInt8)))))).toArray⟩ : ByteArray) :: ((⟨((111 :: (114 :: (100 :: (101 :: (114 :: ([] : List UInt8))))))).toArray⟩ : ByteArray) :: ((⟨((98 :: (97 :: (115 :: (101 :: ([] : List UInt8)))))).toArray⟩ : ByteArray) :: ((⟨((112 :: (101 :: (101 :: (114 :: ([] : List UInt8)))))).toArray⟩ : ByteArray) :: ((⟨((114 :: (101 :: (112 :: ([] : List UInt8))))).toArray⟩ : ByteArray) :: ((⟨((115 :: (116 :: (97 :: (116 :: (101 :: ([] : List UInt8))))))).toArray⟩ : ByteArray) :: ((⟨((119 :: (111 :: (114 :: (100 :: ([] : List UInt8)))))).toArray⟩ : ByteArray) :: ((⟨((109 :: (111 :: (118 :: (101 :: ([] : List UInt8)))))).toArray⟩ : ByteArray) :: ([] : List ByteArray))))))))))))))))))))
noncomputable def label_words.f (fuel : Nat) (u : Unit) : Option (List ByteArray) := label_words.b u
theorem label_words.eq (fuel : Nat) (u : Unit) : (denF label_words_E loopN fuel Try.f88 [.raw] [] [] label_words.k) = label_words.f fuel u := by
  kernel_rfl
noncomputable def s_label_words : Den.Sum := ⟨[], fun args objs κ => match args, objs with
  | [], [] => (match veil (label_words.f BIG ()) with | none => none | some y => κ [.d (.arr 18 .str) y] [])
  | _, _ => none⟩
theorem s_label_words_det : SumDet s_label_words := fun avs objs R κ => by
  show s_label_words.run avs objs (two κ) = (s_label_words.run avs objs (two some)).bind κ
  unfold s_label_words
  simp only [veil_eq]
  split
  · split <;> rfl
  · rfl
theorem s_label_words_ok : SumOk Try.prog 88 s_label_words := by
  have hE : EnvOk Try.prog label_words_E := env_ok (l := []) th_ok any_ok trivial _
  refine sum_ok hE Try.func88 rfl (by kernel_rfl) s_label_words [.raw] label_words.k ?_
  intro R avs objs κ r h
  unfold s_label_words at h
  simp only [veil_eq] at h
  split at h
  · skip
    split at h
    · cases h
    · rename_i y hy
      refine ⟨BIG, _, _, _, (label_words.eq BIG ()).trans hy, ?_, h⟩
      intro rs ros hk
      unfold label_words.k at hk
      split at hk
      · first | (cases hk; exact ⟨rfl, rfl⟩) | (have e := Option.some.inj hk; rw [← e]; exact ⟨rfl, rfl⟩)
      · cases hk
  · cases h
noncomputable def rec_names_E : Env := ⟨th, gam [], fun i => ⟨[], [], []⟩⟩
noncomputable def rec_names.k (rs : List AV) (os : List Den.Obj) : Option (List ByteArray) :=
  match rs, os with
  | [.d (.arr 4 .str) r0], [] => some r0
  | _, _ => none
noncomputable def rec_names.b (u : Unit) : Option (List ByteArray) :=
  some (((⟨((97 :: (108 :: (105 :: (118 :: (101 :: ([] : List UInt8))))))).toArray⟩ : ByteArray) :: ((⟨((115 :: (117 :: (115 :: (112 :: (101 :: (99 :: (116 :: ([] : List UInt8))))))))).toArray⟩ : ByteArray) :: ((⟨((100 :: (101 :: (97 :: (100 :: ([] : List UInt8)))))).toArray⟩ : ByteArray) :: ((⟨((108 :: (101 :: (102 :: (116 :: ([] : List UInt8)))))).toArray⟩ : ByteArray) :: ([] : List ByteArray))))))
noncomputable def rec_names.f (fuel : Nat) (u : Unit) : Option (List ByteArray) := rec_names.b u
theorem rec_names.eq (fuel : Nat) (u : Unit) : (denF rec_names_E loopN fuel Try.f126 [.raw] [] [] rec_names.k) = rec_names.f fuel u := by
  kernel_rfl
noncomputable def s_rec_names : Den.Sum := ⟨[], fun args objs κ => match args, objs with
  | [], [] => (match veil (rec_names.f BIG ()) with | none => none | some y => κ [.d (.arr 4 .str) y] [])
  | _, _ => none⟩
theorem s_rec_names_det : SumDet s_rec_names := fun avs objs R κ => by
  show s_rec_names.run avs objs (two κ) = (s_rec_names.run avs objs (two some)).bind κ
  unfold s_rec_names
  simp only [veil_eq]
  split
  · split <;> rfl
  · rfl
theorem s_rec_names_ok : SumOk Try.prog 126 s_rec_names := by
  have hE : EnvOk Try.prog rec_names_E := env_ok (l := []) th_ok any_ok trivial _
  refine sum_ok hE Try.func126 rfl (by kernel_rfl) s_rec_names [.raw] rec_names.k ?_
  intro R avs objs κ r h
  unfold s_rec_names at h
  simp only [veil_eq] at h
  split at h
  · skip
    split at h
    · cases h
    · rename_i y hy
      refine ⟨BIG, _, _, _, (rec_names.eq BIG ()).trans hy, ?_, h⟩
      intro rs ros hk
      unfold rec_names.k at hk
      split at hk
      · first | (cases hk; exact ⟨rfl, rfl⟩) | (have e := Option.some.inj hk; rw [← e]; exact ⟨rfl, rfl⟩)
      · cases hk
  · cases h
noncomputable def s_law40_numr (recG : Int → Option (ByteArray)) : Den.Sum := ⟨[.raw], fun args objs κ => match args, objs with
  | [.d (.int .i64) v], [] => (match veil (recG v) with | none => none | some y => κ [.d .str y] [])
  | _, _ => none⟩
theorem s_law40_numr_det (recG : Int → Option (ByteArray)) : SumDet (s_law40_numr recG) := fun avs objs R κ => by
  show (s_law40_numr recG).run avs objs (two κ) = ((s_law40_numr recG).run avs objs (two some)).bind κ
  unfold s_law40_numr
  simp only [veil_eq]
  split
  · split <;> rfl
  · rfl
noncomputable def law40_num_E (recG : Int → Option (ByteArray)) : Env := ⟨th, gam [(44, (s_law40_numr recG))], fun i => ⟨[], [], []⟩⟩
noncomputable def law40_num.k (rs : List AV) (os : List Den.Obj) : Option ByteArray :=
  match rs, os with
  | [.d .str r0], [] => some r0
  | _, _ => none
noncomputable def law40_num.b (recG : Int → Option (ByteArray)) (v : Int) : Option ByteArray :=
  (if (decide (v > (-(10 : Int)))) then (if (decide (v < (0 : Int))) then (match (veil (recG (Go.IntKind.wrap .i64 ((0 : Int) - v)))) with | none => none | some y0 => (if (((ByteArray.size (⟨((45 :: ([] : List UInt8))).toArray⟩ : ByteArray)) + (ByteArray.size y0)) ≤ (1099511627776 : Nat)) then some (((⟨((45 :: ([] : List UInt8))).toArray⟩ : ByteArray) ++ y0)) else none)) else (if (decide (v ≥ (0 : Int))) then (if (decide (v < (10 : Int))) then some ((strOf ((Go.IntKind.wrap .u8 (Go.IntKind.wrap .i64 ((48 : Int) + v))) :: ([] : List Int)))) else (if (decide ((Int.tmod v (10 : Int)) < (0 : Int))) then (match (veil (recG (Go.IntKind.wrap .i64 (Int.tdiv v (10 : Int))))) with | none => none | some y1 => (match (veil (recG (Go.IntKind.wrap .i64 ((0 : Int) - (Int.tmod v (10 : Int)))))) with | none => none | some y2 => (if (((ByteArray.size y1) + (ByteArray.size y2)) ≤ (1099511627776 : Nat)) then some ((y1 ++ y2)) else none))) else (match (veil (recG (Go.IntKind.wrap .i64 (Int.tdiv v (10 : Int))))) with | none => none | some y3 => (match (veil (recG (Int.tmod v (10 : Int)))) with | none => none | some y4 => (if (((ByteArray.size y3) + (ByteArray.size y4)) ≤ (1099511627776 : Nat)) then some ((y3 ++ y4)) else none))))) else (if (decide ((Int.tmod v (10 : Int)) < (0 : Int))) then (match (veil (recG (Go.IntKind.wrap .i64 (Int.tdiv v (10 : Int))))) with | none => none | some y5 => (match (veil (recG (Go.IntKind.wrap .i64 ((0 : Int) - (Int.tmod v (10 : Int)))))) with | none => none | some y6 => (if (((ByteArray.size y5) + (ByteArray.size y6)) ≤ (1099511627776 : Nat)) then some ((y5 ++ y6)) else none))) else (match (veil (recG (Go.IntKind.wrap .i64 (Int.tdiv v (10 : Int))))) with | none => none | some y7 => (match (veil (recG (Int.tmod v (10 : Int)))) with | none => none | some y8 => (if (((ByteArray.size y7) + (ByteArray.size y8)) ≤ (1099511627776 : Nat)) then some ((y7 ++ y8)) else none)))))) else (if (decide (v ≥ (0 : Int))) then (if (decide (v < (10 : Int))) then some ((strOf ((Go.IntKind.wrap .u8 (Go.IntKind.wrap .i64 ((48 : Int) + v))) :: ([] : List Int)))) else (if (decide ((Int.tmod v (10 : Int)) < (0 : Int))) then (match (veil (recG (Go.IntKind.wrap .i64 (Int.tdiv v (10 : Int))))) with | none => none | some y9 => (match (veil (recG (Go.IntKind.wrap .i64 ((0 : Int) - (Int.tmod v (10 : Int)))))) with | none => none | some y10 => (if (((ByteArray.size y9) + (ByteArray.size y10)) ≤ (1099511627776 : Nat)) then some ((y9 ++ y10)) else none))) else (match (veil (recG (Go.IntKind.wrap .i64 (Int.tdiv v (10 : Int))))) with | none => none | some y11 => (match (veil (recG (Int.tmod v (10 : Int)))) with | none => none | some y12 => (if (((ByteArray.size y11) + (ByteArray.size y12)) ≤ (1099511627776 : Nat)) then some ((y11 ++ y12)) else none))))) else (if (decide ((Int.tmod v (10 : Int)) < (0 : Int))) then (match (veil (recG (Go.IntKind.wrap .i64 (Int.tdiv v (10 : Int))))) with | none => none | some y13 => (match (veil (recG (Go.IntKind.wrap .i64 ((0 : Int) - (Int.tmod v (10 : Int)))))) with | none => none | some y14 => (if (((ByteArray.size y13) + (ByteArray.size y14)) ≤ (1099511627776 : Nat)) then some ((y13 ++ y14)) else none))) else (match (veil (recG (Go.IntKind.wrap .i64 (Int.tdiv v (10 : Int))))) with | none => none | some y15 => (match (veil (recG (Int.tmod v (10 : Int)))) with | none => none | some y16 => (if (((ByteArray.size y15) + (ByteArray.size y16)) ≤ (1099511627776 : Nat)) then some ((y15 ++ y16)) else none))))))
noncomputable def law40_num.f (recG : Int → Option (ByteArray)) (fuel : Nat) (v : Int) : Option ByteArray := (law40_num.b recG) v
theorem law40_num.eq (recG : Int → Option (ByteArray)) (fuel : Nat) (v : Int) : (denF (law40_num_E recG) loopN fuel Try.f44 [.raw] [.d (.int .i64) v] [] law40_num.k) = (law40_num.f recG) fuel v := by
  kernel_rfl
theorem s_law40_numr_step (recG : Int → Option (ByteArray)) (hG : SumOk Try.prog 44 (s_law40_numr recG)) : SumOk Try.prog 44 (s_law40_numr (fun v => law40_num.f recG BIG v)) := by
  have hE : EnvOk Try.prog (law40_num_E recG) := env_ok (l := [(44, s_law40_numr recG)]) th_ok any_ok ⟨⟨hG, s_law40_numr_det recG⟩, trivial⟩ _
  refine sum_ok hE Try.func44 rfl (by kernel_rfl) (s_law40_numr (fun v => law40_num.f recG BIG v)) [.raw] law40_num.k ?_
  intro R avs objs κ r h
  unfold s_law40_numr at h
  simp only [veil_eq] at h
  split at h
  · rename_i v
    split at h
    · cases h
    · rename_i y hy
      refine ⟨BIG, _, _, _, (law40_num.eq recG BIG v).trans hy, ?_, h⟩
      intro rs ros hk
      unfold law40_num.k at hk
      split at hk
      · first | (cases hk; exact ⟨rfl, rfl⟩) | (have e := Option.some.inj hk; rw [← e]; exact ⟨rfl, rfl⟩)
      · cases hk
  · cases h
noncomputable def law40_num.it : Nat → (Int → Option (ByteArray))
  | 0 => fun _ => none
  | k + 1 => fun v => law40_num.f (law40_num.it k) BIG v
theorem law40_num.it_ok : ∀ k, SumOk Try.prog 44 (s_law40_numr (law40_num.it k))
  | 0 => ⟨⟨_, _, Try.func44, rfl, by kernel_rfl⟩, fun avs objs κ r h => by
    unfold s_law40_numr law40_num.it at h
    simp only [veil_eq] at h
    split at h <;> cases h⟩
  | k + 1 => s_law40_numr_step (law40_num.it k) (law40_num.it_ok k)
noncomputable def s_law40_num : Den.Sum := s_law40_numr (law40_num.it 64)
theorem s_law40_num_det : SumDet s_law40_num := s_law40_numr_det _
theorem s_law40_num_ok : SumOk Try.prog 44 s_law40_num := law40_num.it_ok 64
theorem strOf_app (l m : List Int) : strOf l ++ strOf m = strOf (l ++ m) := by
  apply ByteArray.ext
  rw [ByteArray.data_append]
  simp [strOf, strOfNums]
theorem strOf_size (l : List Int) : (strOf l).size = l.length := strOfNums_size l
noncomputable def natD : Nat → Int → List Int
  | 0, u => [48 + u]
  | j + 1, u => if u < 10 then [48 + u] else natD j (u / 10) ++ [48 + u % 10]
/-- a number's text -/
noncomputable def numL (v : Int) : List Int := if v < 0 then 45 :: natD 18 (-v) else natD 18 v
noncomputable def numT (v : Int) : ByteArray := strOf (numL v)
theorem natD_small (j : Nat) (u : Int) (h : u < 10) : natD j u = [48 + u] := by
  cases j with
  | zero => rfl
  | succ j => rw [natD, if_pos h]
theorem natD_len : ∀ (j : Nat) (u : Int), (natD j u).length ≤ j + 1
  | 0, u => by simp [natD]
  | j + 1, u => by
    rw [natD]
    split
    · simp
    · have := natD_len j (u / 10)
      simp; omega
theorem numT_size (v : Int) : (numT v).size ≤ 20 := by
  unfold numT
  rw [strOf_size]
  unfold numL
  have h1 := natD_len 18 v
  have h2 := natD_len 18 (-v)
  split
  · simp; omega
  · omega
theorem Num.loop (fuel : Nat) (v : Int) : ∀ (j k : Nat) (u : Int) (b : List Int), 0 ≤ u → u < 10 ^ (j + 1) → j ≤ 18 → j < k → b.length = 20 →
    label_Num.l6 fuel v k ((j + 2 : Nat) : Int) u b = some (strOf ((if v < 0 then [45] else []) ++ (natD j u ++ b.drop (j + 2)))) := by
  intro j
  induction j with
  | zero =>
    intro k u b h0 h1 hj hk hb
    obtain ⟨k, rfl⟩ : ∃ k', k = k' + 1 := ⟨k - 1, by omega⟩
    have h1 : u < 10 := by simpa using h1
    rw [label_Num.l6]
    unfold label_Num.b6
    rw [show Go.IntKind.wrap .i64 (((0 + 2 : Nat) : Int) - 1) = ((1 : Nat) : Int) from by decide, idx_at, List.getElem?_eq_getElem (by omega)]
    dsimp only
    rw [Int.tdiv_eq_ediv_of_nonneg h0, Int.tmod_eq_emod_of_nonneg h0, show u / 10 = 0 from by omega, show u % 10 = u from by omega, if_pos (by decide), wrapU64 (48 + u) (by omega) (by omega), show Go.IntKind.wrap .u8 (48 + u) = 48 + u from by rw [wrapU8]; omega]
    have hd : (b.set 1 (48 + u)).drop 1 = (48 + u) :: b.drop 2 := by
      rw [List.drop_eq_getElem_cons (by simp; omega), List.getElem_set_self, List.drop_set_of_lt (by omega)]
    by_cases hv : v < 0
    · rw [if_pos (by simpa using hv), show Go.IntKind.wrap .i64 (((1 : Nat) : Int) - 1) = ((0 : Nat) : Int) from by decide, idx_at, Int.toNat_natCast, List.getElem?_eq_getElem (by simp; omega)]
      dsimp only
      rw [if_pos (by simp), if_pos hv, Int.toNat_natCast, List.take_length, natD]
      refine congrArg (fun l => some (strOf l)) ?_
      rw [List.drop_zero]
      have e : (b.set 1 (48 + u)).set 0 45 = 45 :: (b.set 1 (48 + u)).drop 1 := by
        cases b with
        | nil => simp at hb
        | cons x b => simp
      rw [e, hd]
      all_goals rfl
    · rw [if_neg (by simpa using hv), if_pos (by simp; omega), if_neg hv, Int.toNat_natCast, List.take_length, hd, natD]
      all_goals rfl
  | succ j ih =>
    intro k u b h0 h1 hj hk hb
    obtain ⟨k, rfl⟩ : ∃ k', k = k' + 1 := ⟨k - 1, by omega⟩
    have hu : u < 10000000000000000000 := by
      have : (10 : Int) ^ (j + 1 + 1) ≤ 10 ^ 19 := by
        have : (10 : Nat) ^ (j + 1 + 1) ≤ 10 ^ 19 := Nat.pow_le_pow_right (by decide) (by omega)
        exact_mod_cast this
      have e : (10 : Int) ^ 19 = 10000000000000000000 := by decide
      omega
    rw [label_Num.l6]
    unfold label_Num.b6
    rw [show Go.IntKind.wrap .i64 (((j + 1 + 2 : Nat) : Int) - 1) = ((j + 2 : Nat) : Int) from by rw [wrap_small _ (by omega) (by omega)]; omega, idx_at, List.getElem?_eq_getElem (by omega)]
    dsimp only
    rw [Int.tdiv_eq_ediv_of_nonneg h0, Int.tmod_eq_emod_of_nonneg h0, wrapU64 (u / 10) (by omega) (by omega), wrapU64 (48 + u % 10) (by omega) (by omega), show Go.IntKind.wrap .u8 (48 + u % 10) = 48 + u % 10 from by rw [wrapU8]; omega, Int.toNat_natCast]
    have hd : (b.set (j + 2) (48 + u % 10)).drop (j + 2) = (48 + u % 10) :: b.drop (j + 3) := by
      rw [List.drop_eq_getElem_cons (by simp; omega), List.getElem_set_self, List.drop_set_of_lt (by omega)]
    by_cases h10 : u < 10
    · have e10 : u % 10 = u := by omega
      rw [e10] at hd ⊢
      rw [if_pos (c := (u / 10 == 0) = true) (by simp; omega)]
      by_cases hv : v < 0
      · rw [if_pos (by simpa using hv), show Go.IntKind.wrap .i64 (((j + 2 : Nat) : Int) - 1) = ((j + 1 : Nat) : Int) from by rw [wrap_small _ (by omega) (by omega)]; omega, idx_at, List.getElem?_eq_getElem (by simp; omega)]
        dsimp only
        rw [if_pos (by simp; omega), if_pos hv, Int.toNat_natCast, List.take_length, natD_small _ u h10]
        refine congrArg (fun l => some (strOf l)) ?_
        rw [List.drop_eq_getElem_cons (by simp; omega), List.getElem_set_self]
        rw [List.drop_set_of_lt (by omega), hd]
        all_goals rfl
      · rw [if_neg (by simpa using hv), if_pos (by simp; omega), if_neg hv, List.take_length, hd, natD_small _ u h10]
        all_goals rfl
    · rw [if_neg (by simp; omega), ih k (u / 10) (b.set (j + 2) (48 + u % 10)) (by omega) (by rw [Int.pow_succ] at h1; generalize (10 : Int) ^ (j + 1) = M at h1 ⊢; omega) (by omega) (by omega) (by simpa using hb), hd, natD, if_neg h10]
      simp
theorem LNum.pure (v : Int) (h0 : -9223372036854775808 ≤ v) (h1 : v < 9223372036854775808) : label_Num.f BIG v = some (numT v) := by
  have hB : 18 < BIG := by rw [BIG_eq]; omega
  have e19 : (10 : Int) ^ (18 + 1) = 10000000000000000000 := by decide
  unfold label_Num.f label_Num.b numT numL
  by_cases hv : v < 0
  · rw [if_pos (by simpa using hv), if_pos hv]
    have e1 : Go.IntKind.wrap .u64 v = v + 18446744073709551616 := by simp [Go.IntKind.wrap, IntKind.signed, IntKind.bits]; omega
    have e2 : Go.IntKind.wrap .u64 (0 - (v + 18446744073709551616)) = -v := by simp [Go.IntKind.wrap, IntKind.signed, IntKind.bits]; omega
    have := Num.loop BIG v 18 BIG (-v) (List.replicate 20 (zeroI (Ty.int .u8))) (by omega) (by rw [e19]; omega) (by omega) hB (by simp)
    rw [e1, e2]
    rw [if_pos hv] at this
    simpa using this
  · rw [if_neg (by simpa using hv), if_neg hv]
    have := Num.loop BIG v 18 BIG v (List.replicate 20 (zeroI (Ty.int .u8))) (by omega) (by rw [e19]; omega) (by omega) hB (by simp)
    rw [wrapU64 v (by omega) (by omega)]
    rw [if_neg hv] at this
    simpa using this
theorem num_small (k : Nat) (v : Int) (h0 : 0 ≤ v) (h1 : v < 10) (hk : 0 < k) : law40_num.it k v = some (strOf [48 + v]) := by
  obtain ⟨k, rfl⟩ : ∃ k', k = k' + 1 := ⟨k - 1, by omega⟩
  show law40_num.f (law40_num.it k) BIG v = _
  unfold law40_num.f law40_num.b
  rw [if_pos (by simp; omega), if_neg (by simp; omega), if_pos (by simpa using h0), if_pos (by simpa using h1), wrap_small _ (by omega) (by omega), show Go.IntKind.wrap .u8 (48 + v) = 48 + v from by rw [wrapU8]; omega]
theorem dash : (⟨((45 :: ([] : List UInt8))).toArray⟩ : ByteArray) = strOf [45] := rfl
theorem num_it : ∀ (j k : Nat) (v : Int), -(10 ^ (j + 1)) < v → v < 10 ^ (j + 1) → j ≤ 18 → j + 1 < k → -9223372036854775808 ≤ v → v < 9223372036854775808 → law40_num.it k v = some (strOf (if v < 0 then 45 :: natD j (-v) else natD j v)) := by
  intro j
  induction j with
  | zero =>
    intro k v h0 h1 hj hk _ _
    obtain ⟨k, rfl⟩ : ∃ k', k = k' + 1 := ⟨k - 1, by omega⟩
    have h0 : -10 < v := by simpa using h0
    have h1 : v < 10 := by simpa using h1
    by_cases hv : v < 0
    · show law40_num.f (law40_num.it k) BIG v = _
      unfold law40_num.f law40_num.b
      simp only [veil_eq]
      rw [if_pos (by simp; omega), if_pos (by simpa using hv), wrap_small _ (by omega) (by omega), num_small k (0 - v) (by omega) (by omega) (by omega)]
      dsimp only
      rw [dash, strOf_size, strOf_size, if_pos (by simp), strOf_app, if_pos hv, natD_small _ _ (by omega), show 0 - v = -v from by omega]
      all_goals rfl
    · rw [num_small (k + 1) v (by omega) h1 (by omega), if_neg hv, natD_small _ _ h1]
  | succ j ih =>
    intro k v h0 h1 hj hk b0 b1
    obtain ⟨k, rfl⟩ : ∃ k', k = k' + 1 := ⟨k - 1, by omega⟩
    by_cases hs : -10 < v ∧ v < 10
    · by_cases hv : v < 0
      · show law40_num.f (law40_num.it k) BIG v = _
        unfold law40_num.f law40_num.b
        simp only [veil_eq]
        rw [if_pos (by simp; omega), if_pos (by simpa using hv), wrap_small _ (by omega) (by omega), num_small k (0 - v) (by omega) (by omega) (by omega)]
        dsimp only
        rw [dash, strOf_size, strOf_size, if_pos (by simp), strOf_app, if_pos hv, natD_small _ _ (by omega), show 0 - v = -v from by omega]
        all_goals rfl
      · rw [num_small (k + 1) v (by omega) hs.2 (by omega), if_neg hv, natD_small _ _ hs.2]
    · have hp : (10 : Int) ^ (j + 1 + 1) = 10 ^ (j + 1) * 10 := Int.pow_succ ..
      have key : ∀ u : Int, 0 ≤ u → u < 10 ^ (j + 1 + 1) → u / 10 < 10 ^ (j + 1) := by
        intro u hu h
        rw [hp] at h
        generalize (10 : Int) ^ (j + 1) = M at h ⊢
        omega
      have hM : (0 : Int) < 10 ^ (j + 1) := Int.pow_pos (by decide)
      by_cases hv : v < 0
      · have hu := key (-v) (by omega) (by omega)
        have ed : Int.tdiv v 10 = -((-v) / 10) := by
          have := Int.neg_tdiv (a := -v) (b := 10)
          rw [Int.neg_neg] at this
          rw [this, Int.tdiv_eq_ediv_of_nonneg (by omega)]
        have em : Int.tmod v 10 = -((-v) % 10) := by
          have := Int.neg_tmod (a := -v) (b := 10)
          rw [Int.neg_neg] at this
          rw [this, Int.tmod_eq_emod_of_nonneg (by omega)]
        have hi := ih k (-((-v) / 10)) (by omega) (by omega) (by omega) (by omega) (by omega) (by omega)
        rw [if_pos (by omega), Int.neg_neg] at hi
        have hl := natD_len j (-v / 10)
        have fin : natD (j + 1) (-v) = natD j (-v / 10) ++ [48 + -v % 10] := by rw [natD, if_neg (by omega)]
        have step : law40_num.it (k + 1) v = (match law40_num.it k (-((-v) / 10)) with
          | none => none
          | some y => match law40_num.it k ((-v) % 10) with
            | none => none
            | some z => if y.size + z.size ≤ 1099511627776 then some (y ++ z) else none) := by
          show law40_num.f (law40_num.it k) BIG v = _
          unfold law40_num.f law40_num.b
          simp only [veil_eq]
          rw [if_neg (c := decide (v > -10) = true) (by simp; omega), if_neg (c := decide (v ≥ 0) = true) (by simp; omega), ed, em, wrap_small (-(-v / 10)) (by omega) (by omega), wrap_small (0 - -(-v % 10)) (by omega) (by omega), show 0 - -(-v % 10) = -v % 10 from by omega]
          by_cases hz : -v % 10 = 0
          · rw [hz]; all_goals rfl
          · rw [if_pos (c := decide (-(-v % 10) < 0) = true) (by simp; omega)]
            all_goals rfl
        rw [step, hi, num_small k (-v % 10) (by omega) (by omega) (by omega)]
        dsimp only
        rw [strOf_size, strOf_size, if_pos (by simp; omega), strOf_app, if_pos hv, fin]
        all_goals rfl
      · have hu := key v (by omega) (by omega)
        have hi := ih k (v / 10) (by omega) (by omega) (by omega) (by omega) (by omega) (by omega)
        rw [if_neg (by omega)] at hi
        have hl := natD_len j (v / 10)
        have fin : natD (j + 1) v = natD j (v / 10) ++ [48 + v % 10] := by rw [natD, if_neg (by omega)]
        have step : law40_num.it (k + 1) v = (match law40_num.it k (v / 10) with
          | none => none
          | some y => match law40_num.it k (v % 10) with
            | none => none
            | some z => if y.size + z.size ≤ 1099511627776 then some (y ++ z) else none) := by
          show law40_num.f (law40_num.it k) BIG v = _
          unfold law40_num.f law40_num.b
          simp only [veil_eq]
          rw [if_pos (c := decide (v > -10) = true) (by simp; omega), if_neg (c := decide (v < 0) = true) (by simp; omega), if_pos (c := decide (v ≥ 0) = true) (by simp; omega), if_neg (c := decide (v < 10) = true) (by simp; omega), Int.tdiv_eq_ediv_of_nonneg (by omega), Int.tmod_eq_emod_of_nonneg (by omega), wrap_small (v / 10) (by omega) (by omega), if_neg (c := decide (v % 10 < 0) = true) (by simp; omega)]
          all_goals rfl
        rw [step, hi, num_small k (v % 10) (by omega) (by omega) (by omega)]
        dsimp only
        rw [strOf_size, strOf_size, if_pos (by simp; omega), strOf_app, if_neg hv, fin]
theorem Num40.pure (v : Int) (h0 : -9223372036854775808 ≤ v) (h1 : v < 9223372036854775808) : law40_num.it 64 v = some (numT v) := by
  have e19 : (10 : Int) ^ (18 + 1) = 10000000000000000000 := by decide
  exact num_it 18 64 v (by rw [e19]; omega) (by rw [e19]; omega) (by omega) (by omega) h0 h1
theorem byteW (v : Int) (h0 : 0 ≤ v) (h1 : v < 256) : Go.IntKind.wrap .u8 v = v := by rw [wrapU8]; omega
def enc : Option Nat → Int
  | some a => (a : Int)
  | none => -1
noncomputable def label_Err_E : Env := ⟨th, gam [(88, s_label_words)], fun i => ⟨[], [], []⟩⟩
noncomputable def label_Err.k (rs : List AV) (os : List Den.Obj) : Option ByteArray :=
  match rs, os with
  | [.d .str r0], [] => some r0
  | _, _ => none
noncomputable def label_Err.b (e : Int) : Option ByteArray :=
  (match (veil (label_words.f BIG ())) with | none => none | some y0 => (if (decide (e < (0 : Int))) then some ((⟨((63 :: ([] : List UInt8))).toArray⟩ : ByteArray)) else (if (decide (e ≥ (18 : Int))) then some ((⟨((63 :: ([] : List UInt8))).toArray⟩ : ByteArray)) else (match (idx y0 e) with | none => none | some y1 => (match (idx y0 e) with | none => none | some y2 => some (y2))))))
noncomputable def label_Err.f (fuel : Nat) (e : Int) : Option ByteArray := label_Err.b e
theorem label_Err.eq (fuel : Nat) (e : Int) : (denF label_Err_E loopN fuel Try.f54 [.raw] [.d (.int .i64) e] [] label_Err.k) = label_Err.f fuel e := by
  kernel_rfl
noncomputable def s_label_Err : Den.Sum := ⟨[.raw], fun args objs κ => match args, objs with
  | [.d (.int .i64) e], [] => (match veil (label_Err.f BIG e) with | none => none | some y => κ [.d .str y] [])
  | _, _ => none⟩
theorem s_label_Err_det : SumDet s_label_Err := fun avs objs R κ => by
  show s_label_Err.run avs objs (two κ) = (s_label_Err.run avs objs (two some)).bind κ
  unfold s_label_Err
  simp only [veil_eq]
  split
  · split <;> rfl
  · rfl
theorem s_label_Err_ok : SumOk Try.prog 54 s_label_Err := by
  have hE : EnvOk Try.prog label_Err_E := env_ok (l := [(88, s_label_words)]) th_ok any_ok ⟨⟨s_label_words_ok, s_label_words_det⟩, trivial⟩ _
  refine sum_ok hE Try.func54 rfl (by kernel_rfl) s_label_Err [.raw] label_Err.k ?_
  intro R avs objs κ r h
  unfold s_label_Err at h
  simp only [veil_eq] at h
  split at h
  · rename_i e
    split at h
    · cases h
    · rename_i y hy
      refine ⟨BIG, _, _, _, (label_Err.eq BIG e).trans hy, ?_, h⟩
      intro rs ros hk
      unfold label_Err.k at hk
      split at hk
      · first | (cases hk; exact ⟨rfl, rfl⟩) | (have e := Option.some.inj hk; rw [← e]; exact ⟨rfl, rfl⟩)
      · cases hk
  · cases h
noncomputable def rec_Name_E : Env := ⟨th, gam [(126, s_rec_names)], fun i => ⟨[], [], []⟩⟩
noncomputable def rec_Name.k (rs : List AV) (os : List Den.Obj) : Option ByteArray :=
  match rs, os with
  | [.d .str r0], [] => some r0
  | _, _ => none
noncomputable def rec_Name.b (status : Int) : Option ByteArray :=
  (if (decide (status < (0 : Int))) then some ((⟨(([] : List UInt8)).toArray⟩ : ByteArray)) else (if (decide (status > (3 : Int))) then some ((⟨(([] : List UInt8)).toArray⟩ : ByteArray)) else (match (veil (rec_names.f BIG ())) with | none => none | some y0 => (match (idx y0 status) with | none => none | some y1 => some (y1)))))
noncomputable def rec_Name.f (fuel : Nat) (status : Int) : Option ByteArray := rec_Name.b status
theorem rec_Name.eq (fuel : Nat) (status : Int) : (denF rec_Name_E loopN fuel Try.f85 [.raw] [.d (.int .i64) status] [] rec_Name.k) = rec_Name.f fuel status := by
  kernel_rfl
noncomputable def s_rec_Name : Den.Sum := ⟨[.raw], fun args objs κ => match args, objs with
  | [.d (.int .i64) status], [] => (match veil (rec_Name.f BIG status) with | none => none | some y => κ [.d .str y] [])
  | _, _ => none⟩
theorem s_rec_Name_det : SumDet s_rec_Name := fun avs objs R κ => by
  show s_rec_Name.run avs objs (two κ) = (s_rec_Name.run avs objs (two some)).bind κ
  unfold s_rec_Name
  simp only [veil_eq]
  split
  · split <;> rfl
  · rfl
theorem s_rec_Name_ok : SumOk Try.prog 85 s_rec_Name := by
  have hE : EnvOk Try.prog rec_Name_E := env_ok (l := [(126, s_rec_names)]) th_ok any_ok ⟨⟨s_rec_names_ok, s_rec_names_det⟩, trivial⟩ _
  refine sum_ok hE Try.func85 rfl (by kernel_rfl) s_rec_Name [.raw] rec_Name.k ?_
  intro R avs objs κ r h
  unfold s_rec_Name at h
  simp only [veil_eq] at h
  split at h
  · rename_i status
    split at h
    · cases h
    · rename_i y hy
      refine ⟨BIG, _, _, _, (rec_Name.eq BIG status).trans hy, ?_, h⟩
      intro rs ros hk
      unfold rec_Name.k at hk
      split at hk
      · first | (cases hk; exact ⟨rfl, rfl⟩) | (have e := Option.some.inj hk; rw [← e]; exact ⟨rfl, rfl⟩)
      · cases hk
  · cases h
def isB (l : List Int) : Prop := ∀ c ∈ l, 0 ≤ c ∧ c ≤ 255
noncomputable def label_Field_E : Env := ⟨th, gam [(52, s_label_Num)], fun i => if i = 3 then ⟨[3, 12, 13, 14], [], []⟩ else ⟨[], [], []⟩⟩
noncomputable def label_Field.k (rs : List AV) (os : List Den.Obj) : Option ByteArray :=
  match rs, os with
  | [.d .str r0], [] => some r0
  | _, _ => none
noncomputable def label_Field.s3 (fTag : Int) (fData : List Int) (x1 : Int) (x2 : Int) (x3 : (List Int)) : St := ⟨[.dead, .dead, .dead, .row 64, .dead, .dead, .dead, .dead, .dead, .dead, .dead, .dead, .d (.sl (.int .u8)) (fData), .d (.int .i64) x1, .d (.int .i64) x2, .dead, .dead, .dead, .dead, .dead, .dead, .dead, .dead, .dead, .dead, .dead, .dead, .dead, .dead, .dead], ofL [(64, .row 5 (.int .u8) x3 false)], 0⟩
noncomputable def label_Field.b3 (fTag : Int) (fData : List Int) (A3 : Int → Int → (List Int) → Option ByteArray) (x1 : Int) (x2 : Int) (x3 : (List Int)) : Option ByteArray :=
  (if (decide (x2 < x1)) then (match (idx fData x2) with | none => none | some y4 => (match (idx (Array.toList (ByteArray.data (⟨((48 :: (49 :: (50 :: (51 :: (52 :: (53 :: (54 :: (55 :: (56 :: (57 :: (97 :: (98 :: (99 :: (100 :: (101 :: (102 :: ([] : List UInt8)))))))))))))))))).toArray⟩ : ByteArray))) (Int.fdiv y4 ((2 : Int) ^ (Min.min (Int.toNat (4 : Int)) (Go.IntKind.bits .u8))))) with | none => none | some y5 => (match (idx (Array.toList (ByteArray.data (⟨((48 :: (49 :: (50 :: (51 :: (52 :: (53 :: (54 :: (55 :: (56 :: (57 :: (97 :: (98 :: (99 :: (100 :: (101 :: (102 :: ([] : List UInt8)))))))))))))))))).toArray⟩ : ByteArray))) (bits Go.BinOp.and .u8 y4 (15 : Int))) with | none => none | some y6 => (if ((((List.length x3) + (List.length (((((UInt8.toNat y5)) : Nat) : Int) :: (((((UInt8.toNat y6)) : Nat) : Int) :: ([] : List Int))))) * (1 : Nat)) ≤ lim) then A3 x1 (Go.IntKind.wrap .i64 (x2 + (1 : Int))) (x3 ++ (((((UInt8.toNat y5)) : Nat) : Int) :: (((((UInt8.toNat y6)) : Nat) : Int) :: ([] : List Int)))) else none)))) else some ((strOf x3)))
noncomputable def label_Field.l3 (fuel : Nat) (fTag : Int) (fData : List Int) : Nat → Int → Int → (List Int) → Option ByteArray
  | 0, _, _, _ => none
  | k + 1, x1, x2, x3 => label_Field.b3 fTag fData (label_Field.l3 fuel fTag fData k) x1 x2 x3
noncomputable def label_Field.b (fTag : Int) (fData : List Int) (E3 : Int → Int → (List Int) → Option ByteArray) : Option ByteArray :=
  (match (veil (label_Num.f BIG fTag)) with | none => none | some y0 => (if (((ByteArray.size y0) + (ByteArray.size (⟨((58 :: ([] : List UInt8))).toArray⟩ : ByteArray))) ≤ (1099511627776 : Nat)) then (if ((ByteArray.size (y0 ++ (⟨((58 :: ([] : List UInt8))).toArray⟩ : ByteArray))) ≤ lim) then E3 ((((List.length fData)) : Nat) : Int) (0 : Int) (bytesOf (y0 ++ (⟨((58 :: ([] : List UInt8))).toArray⟩ : ByteArray))) else none) else none))
noncomputable def label_Field.f (fuel : Nat) (fTag : Int) (fData : List Int) : Option ByteArray := label_Field.b fTag fData (label_Field.l3 fuel fTag fData fuel)
theorem label_Field.l3_eq (fuel : Nat) (fTag : Int) (fData : List Int) : ∀ (k : Nat) (x1 : Int) (x2 : Int) (x3 : (List Int)), lp label_Field_E fuel Try.f46 [.raw] 0 label_Field.k 3 [] k (label_Field.s3 fTag fData x1 x2 x3) = label_Field.l3 fuel fTag fData k x1 x2 x3 := by
  intro k
  induction k with
  | zero => intro x1 x2 x3; rfl
  | succ k ih =>
    intro x1 x2 x3
    have h : lp label_Field_E fuel Try.f46 [.raw] 0 label_Field.k 3 [] (k + 1) (label_Field.s3 fTag fData x1 x2 x3) = label_Field.b3 fTag fData (fun x1 x2 x3 => lp label_Field_E fuel Try.f46 [.raw] 0 label_Field.k 3 [] k (label_Field.s3 fTag fData x1 x2 x3)) x1 x2 x3 := by kernel_rfl
    rw [h]
    have e3 : (fun x1 x2 x3 => lp label_Field_E fuel Try.f46 [.raw] 0 label_Field.k 3 [] k (label_Field.s3 fTag fData x1 x2 x3)) = label_Field.l3 fuel fTag fData k := (funext fun x1 => (funext fun x2 => (funext fun x3 => ih x1 x2 x3)))
    rw [e3]
    rfl
theorem label_Field.eq (fuel : Nat) (fTag : Int) (fData : List Int) : (denF label_Field_E loopN fuel Try.f46 [.raw] [.agg [.d (.int .i64) fTag, .d (.sl (.int .u8)) fData]] [] label_Field.k) = label_Field.f fuel fTag fData := by
  have h : (denF label_Field_E loopN fuel Try.f46 [.raw] [.agg [.d (.int .i64) fTag, .d (.sl (.int .u8)) fData]] [] label_Field.k) = label_Field.b fTag fData (fun x1 x2 x3 => lp label_Field_E fuel Try.f46 [.raw] 0 label_Field.k 3 [] fuel (label_Field.s3 fTag fData x1 x2 x3)) := by kernel_rfl
  rw [h]
  have e3 : (fun x1 x2 x3 => lp label_Field_E fuel Try.f46 [.raw] 0 label_Field.k 3 [] fuel (label_Field.s3 fTag fData x1 x2 x3)) = label_Field.l3 fuel fTag fData fuel := (funext fun x1 => (funext fun x2 => (funext fun x3 => label_Field.l3_eq fuel fTag fData fuel x1 x2 x3)))
  rw [e3]
  rfl
noncomputable def s_label_Field : Den.Sum := ⟨[.dat (.pair (.int .i64) (.sl (.int .u8))) true], fun args objs κ => match args, objs with
  | [.agg [.d (.int .i64) fTag, .d (.sl (.int .u8)) fData]], [] => (match veil (label_Field.f BIG fTag fData) with | none => none | some y => κ [.d .str y] [])
  | _, _ => none⟩
theorem s_label_Field_det : SumDet s_label_Field := fun avs objs R κ => by
  show s_label_Field.run avs objs (two κ) = (s_label_Field.run avs objs (two some)).bind κ
  unfold s_label_Field
  simp only [veil_eq]
  split
  · split <;> rfl
  · rfl
theorem s_label_Field_ok : SumOk Try.prog 46 s_label_Field := by
  have hE : EnvOk Try.prog label_Field_E := env_ok (l := [(52, s_label_Num)]) th_ok any_ok ⟨⟨s_label_Num_ok, s_label_Num_det⟩, trivial⟩ _
  refine sum_ok hE Try.func46 rfl (by kernel_rfl) s_label_Field [.raw] label_Field.k ?_
  intro R avs objs κ r h
  unfold s_label_Field at h
  simp only [veil_eq] at h
  split at h
  · rename_i fTag fData
    split at h
    · cases h
    · rename_i y hy
      refine ⟨BIG, _, _, _, (label_Field.eq BIG fTag fData).trans hy, ?_, h⟩
      intro rs ros hk
      unfold label_Field.k at hk
      split at hk
      · first | (cases hk; exact ⟨rfl, rfl⟩) | (have e := Option.some.inj hk; rw [← e]; exact ⟨rfl, rfl⟩)
      · cases hk
  · cases h
noncomputable def label_Msg_E : Env := ⟨th, gam [(49, s_msg_Name), (50, s_has), (52, s_label_Num), (84, s_label_or), (86, s_span_Text), (87, s_joinS)], fun i => if i = 4 then ⟨[1, 3], [], [777777]⟩ else if i = 6 then ⟨[1, 3], [], [777777]⟩ else if i = 8 then ⟨[1, 3], [], [777777]⟩ else if i = 10 then ⟨[3], [], [777777]⟩ else ⟨[], [], []⟩⟩
noncomputable def label_Msg.k (rs : List AV) (os : List Den.Obj) : Option ByteArray :=
  match rs, os with
  | [.d .str r0], [] => some r0
  | _, _ => none
noncomputable def label_Msg.s10 (mKind : Int) (mFrom : Int) (mInc : Int) (mSpanLo : Int) (mSpanHi : Int) (mSeq : Int) (mTarget : Int) (mLife : Int) (mEpoch : Int) (mBase : Int) (mRecs : List (Int × Int × Int × (Int × Int) × Bool × List (Int × List Int))) (x14 : (List ByteArray)) : St := ⟨[.dead, .dead, .dead, .row 64, .dead, .dead, .dead, .dead, .dead, .dead, .dead, .dead, .dead, .dead, .dead, .dead, .dead, .dead, .dead, .dead, .dead, .dead, .dead, .dead, .dead, .dead, .dead, .dead, .dead, .dead, .dead, .dead, .dead, .dead, .dead, .dead, .dead, .dead, .dead, .dead, .dead, .dead, .dead, .dead, .dead, .dead, .dead, .dead, .dead, .dead, .dead, .dead, .dead, .dead, .dead, .dead, .dead, .dead, .dead, .dead], ofL [(64, .row 9 .str x14 false)], 0⟩
noncomputable def label_Msg.b10 (mKind : Int) (mFrom : Int) (mInc : Int) (mSpanLo : Int) (mSpanHi : Int) (mSeq : Int) (mTarget : Int) (mLife : Int) (mEpoch : Int) (mBase : Int) (mRecs : List (Int × Int × Int × (Int × Int) × Bool × List (Int × List Int))) (A10 : (List ByteArray) → Option ByteArray) (x14 : (List ByteArray)) : Option ByteArray :=
  (if (joinFits x14 (⟨((32 :: ([] : List UInt8))).toArray⟩ : ByteArray)) then some ((joinB x14 (⟨((32 :: ([] : List UInt8))).toArray⟩ : ByteArray))) else none)
noncomputable def label_Msg.l10 (fuel : Nat) (mKind : Int) (mFrom : Int) (mInc : Int) (mSpanLo : Int) (mSpanHi : Int) (mSeq : Int) (mTarget : Int) (mLife : Int) (mEpoch : Int) (mBase : Int) (mRecs : List (Int × Int × Int × (Int × Int) × Bool × List (Int × List Int))) : Nat → (List ByteArray) → Option ByteArray
  | 0, _ => none
  | k + 1, x14 => label_Msg.b10 mKind mFrom mInc mSpanLo mSpanHi mSeq mTarget mLife mEpoch mBase mRecs (label_Msg.l10 fuel mKind mFrom mInc mSpanLo mSpanHi mSeq mTarget mLife mEpoch mBase mRecs k) x14
noncomputable def label_Msg.s8 (mKind : Int) (mFrom : Int) (mInc : Int) (mSpanLo : Int) (mSpanHi : Int) (mSeq : Int) (mTarget : Int) (mLife : Int) (mEpoch : Int) (mBase : Int) (mRecs : List (Int × Int × Int × (Int × Int) × Bool × List (Int × List Int))) (x12 : (List ByteArray)) : St := ⟨[.dead, .ptr 64 0, .dead, .row 65, .dead, .dead, .dead, .dead, .dead, .dead, .dead, .dead, .dead, .dead, .dead, .dead, .dead, .dead, .dead, .dead, .dead, .dead, .dead, .dead, .dead, .dead, .dead, .dead, .dead, .dead, .dead, .dead, .dead, .dead, .dead, .dead, .dead, .dead, .dead, .dead, .dead, .dead, .dead, .dead, .dead, .dead, .dead, .dead, .dead, .dead, .dead, .dead, .dead, .dead, .dead, .dead, .dead, .dead, .dead, .dead], ofL [(64, .box [.d (.int .i64) (mKind), .d (.int .i64) (mFrom), .d (.int .i64) (mInc), .d (.int .i64) (mSpanLo), .d (.int .i64) (mSpanHi), .d (.int .i64) (mSeq), .d (.int .i64) (mTarget), .d (.int .i64) (mLife), .d (.int .i64) (mEpoch), .d (.int .i64) (mBase), .d (.sl (.pair (.int .i64) (.pair (.int .i64) (.pair (.int .i64) (.pair (.pair (.int .i64) (.int .i64)) (.pair .bool (.sl (.pair (.int .i64) (.sl (.int .u8)))))))))) (mRecs)]), (65, .row 9 .str x12 false)], 0⟩
noncomputable def label_Msg.b8 (mKind : Int) (mFrom : Int) (mInc : Int) (mSpanLo : Int) (mSpanHi : Int) (mSeq : Int) (mTarget : Int) (mLife : Int) (mEpoch : Int) (mBase : Int) (mRecs : List (Int × Int × Int × (Int × Int) × Bool × List (Int × List Int))) (A8 : (List ByteArray) → Option ByteArray) (E10 : (List ByteArray) → Option ByteArray) (x12 : (List ByteArray)) : Option ByteArray :=
  (if (hasF mKind (3 : Int)) then (match (veil (label_Num.f BIG mBase)) with | none => none | some y13 => (if ((((List.length x12) + (List.length ((⟨((98 :: (97 :: (115 :: (101 :: ([] : List UInt8)))))).toArray⟩ : ByteArray) :: (y13 :: ([] : List ByteArray))))) * (16 : Nat)) ≤ lim) then E10 (x12 ++ ((⟨((98 :: (97 :: (115 :: (101 :: ([] : List UInt8)))))).toArray⟩ : ByteArray) :: (y13 :: ([] : List ByteArray)))) else none)) else E10 x12)
noncomputable def label_Msg.l8 (fuel : Nat) (mKind : Int) (mFrom : Int) (mInc : Int) (mSpanLo : Int) (mSpanHi : Int) (mSeq : Int) (mTarget : Int) (mLife : Int) (mEpoch : Int) (mBase : Int) (mRecs : List (Int × Int × Int × (Int × Int) × Bool × List (Int × List Int))) : Nat → (List ByteArray) → Option ByteArray
  | 0, _ => none
  | k + 1, x12 => label_Msg.b8 mKind mFrom mInc mSpanLo mSpanHi mSeq mTarget mLife mEpoch mBase mRecs (label_Msg.l8 fuel mKind mFrom mInc mSpanLo mSpanHi mSeq mTarget mLife mEpoch mBase mRecs k) (label_Msg.l10 fuel mKind mFrom mInc mSpanLo mSpanHi mSeq mTarget mLife mEpoch mBase mRecs fuel) x12
noncomputable def label_Msg.s6 (mKind : Int) (mFrom : Int) (mInc : Int) (mSpanLo : Int) (mSpanHi : Int) (mSeq : Int) (mTarget : Int) (mLife : Int) (mEpoch : Int) (mBase : Int) (mRecs : List (Int × Int × Int × (Int × Int) × Bool × List (Int × List Int))) (x9 : (List ByteArray)) : St := ⟨[.dead, .ptr 64 0, .dead, .row 65, .dead, .dead, .dead, .dead, .dead, .dead, .dead, .dead, .dead, .dead, .dead, .dead, .dead, .dead, .dead, .dead, .dead, .dead, .dead, .dead, .dead, .dead, .dead, .dead, .dead, .dead, .dead, .dead, .dead, .dead, .dead, .dead, .dead, .dead, .dead, .dead, .dead, .dead, .dead, .dead, .dead, .dead, .dead, .dead, .dead, .dead, .dead, .dead, .dead, .dead, .dead, .dead, .dead, .dead, .dead, .dead], ofL [(64, .box [.d (.int .i64) (mKind), .d (.int .i64) (mFrom), .d (.int .i64) (mInc), .d (.int .i64) (mSpanLo), .d (.int .i64) (mSpanHi), .d (.int .i64) (mSeq), .d (.int .i64) (mTarget), .d (.int .i64) (mLife), .d (.int .i64) (mEpoch), .d (.int .i64) (mBase), .d (.sl (.pair (.int .i64) (.pair (.int .i64) (.pair (.int .i64) (.pair (.pair (.int .i64) (.int .i64)) (.pair .bool (.sl (.pair (.int .i64) (.sl (.int .u8)))))))))) (mRecs)]), (65, .row 9 .str x9 false)], 0⟩
noncomputable def label_Msg.b6 (mKind : Int) (mFrom : Int) (mInc : Int) (mSpanLo : Int) (mSpanHi : Int) (mSeq : Int) (mTarget : Int) (mLife : Int) (mEpoch : Int) (mBase : Int) (mRecs : List (Int × Int × Int × (Int × Int) × Bool × List (Int × List Int))) (A6 : (List ByteArray) → Option ByteArray) (E8 : (List ByteArray) → Option ByteArray) (x9 : (List ByteArray)) : Option ByteArray :=
  (if (hasF mKind (2 : Int)) then (match (veil (label_Num.f BIG mLife)) with | none => none | some y10 => (match (veil (label_Num.f BIG mEpoch)) with | none => none | some y11 => (if ((((List.length x9) + (List.length ((⟨((108 :: (105 :: (102 :: (101 :: ([] : List UInt8)))))).toArray⟩ : ByteArray) :: (y10 :: ((⟨((101 :: (112 :: (111 :: (99 :: (104 :: ([] : List UInt8))))))).toArray⟩ : ByteArray) :: (y11 :: ([] : List ByteArray))))))) * (16 : Nat)) ≤ lim) then E8 (x9 ++ ((⟨((108 :: (105 :: (102 :: (101 :: ([] : List UInt8)))))).toArray⟩ : ByteArray) :: (y10 :: ((⟨((101 :: (112 :: (111 :: (99 :: (104 :: ([] : List UInt8))))))).toArray⟩ : ByteArray) :: (y11 :: ([] : List ByteArray)))))) else none))) else E8 x9)
noncomputable def label_Msg.l6 (fuel : Nat) (mKind : Int) (mFrom : Int) (mInc : Int) (mSpanLo : Int) (mSpanHi : Int) (mSeq : Int) (mTarget : Int) (mLife : Int) (mEpoch : Int) (mBase : Int) (mRecs : List (Int × Int × Int × (Int × Int) × Bool × List (Int × List Int))) : Nat → (List ByteArray) → Option ByteArray
  | 0, _ => none
  | k + 1, x9 => label_Msg.b6 mKind mFrom mInc mSpanLo mSpanHi mSeq mTarget mLife mEpoch mBase mRecs (label_Msg.l6 fuel mKind mFrom mInc mSpanLo mSpanHi mSeq mTarget mLife mEpoch mBase mRecs k) (label_Msg.l8 fuel mKind mFrom mInc mSpanLo mSpanHi mSeq mTarget mLife mEpoch mBase mRecs fuel) x9
noncomputable def label_Msg.s4 (mKind : Int) (mFrom : Int) (mInc : Int) (mSpanLo : Int) (mSpanHi : Int) (mSeq : Int) (mTarget : Int) (mLife : Int) (mEpoch : Int) (mBase : Int) (mRecs : List (Int × Int × Int × (Int × Int) × Bool × List (Int × List Int))) (x7 : (List ByteArray)) : St := ⟨[.dead, .ptr 64 0, .dead, .row 65, .dead, .dead, .dead, .dead, .dead, .dead, .dead, .dead, .dead, .dead, .dead, .dead, .dead, .dead, .dead, .dead, .dead, .dead, .dead, .dead, .dead, .dead, .dead, .dead, .dead, .dead, .dead, .dead, .dead, .dead, .dead, .dead, .dead, .dead, .dead, .dead, .dead, .dead, .dead, .dead, .dead, .dead, .dead, .dead, .dead, .dead, .dead, .dead, .dead, .dead, .dead, .dead, .dead, .dead, .dead, .dead], ofL [(64, .box [.d (.int .i64) (mKind), .d (.int .i64) (mFrom), .d (.int .i64) (mInc), .d (.int .i64) (mSpanLo), .d (.int .i64) (mSpanHi), .d (.int .i64) (mSeq), .d (.int .i64) (mTarget), .d (.int .i64) (mLife), .d (.int .i64) (mEpoch), .d (.int .i64) (mBase), .d (.sl (.pair (.int .i64) (.pair (.int .i64) (.pair (.int .i64) (.pair (.pair (.int .i64) (.int .i64)) (.pair .bool (.sl (.pair (.int .i64) (.sl (.int .u8)))))))))) (mRecs)]), (65, .row 9 .str x7 false)], 0⟩
noncomputable def label_Msg.b4 (mKind : Int) (mFrom : Int) (mInc : Int) (mSpanLo : Int) (mSpanHi : Int) (mSeq : Int) (mTarget : Int) (mLife : Int) (mEpoch : Int) (mBase : Int) (mRecs : List (Int × Int × Int × (Int × Int) × Bool × List (Int × List Int))) (A4 : (List ByteArray) → Option ByteArray) (E6 : (List ByteArray) → Option ByteArray) (x7 : (List ByteArray)) : Option ByteArray :=
  (if (hasF mKind (1 : Int)) then (match (veil (label_Num.f BIG mTarget)) with | none => none | some y8 => (if ((((List.length x7) + (List.length ((⟨((116 :: (97 :: (114 :: (103 :: (101 :: (116 :: ([] : List UInt8)))))))).toArray⟩ : ByteArray) :: (y8 :: ([] : List ByteArray))))) * (16 : Nat)) ≤ lim) then E6 (x7 ++ ((⟨((116 :: (97 :: (114 :: (103 :: (101 :: (116 :: ([] : List UInt8)))))))).toArray⟩ : ByteArray) :: (y8 :: ([] : List ByteArray)))) else none)) else E6 x7)
noncomputable def label_Msg.l4 (fuel : Nat) (mKind : Int) (mFrom : Int) (mInc : Int) (mSpanLo : Int) (mSpanHi : Int) (mSeq : Int) (mTarget : Int) (mLife : Int) (mEpoch : Int) (mBase : Int) (mRecs : List (Int × Int × Int × (Int × Int) × Bool × List (Int × List Int))) : Nat → (List ByteArray) → Option ByteArray
  | 0, _ => none
  | k + 1, x7 => label_Msg.b4 mKind mFrom mInc mSpanLo mSpanHi mSeq mTarget mLife mEpoch mBase mRecs (label_Msg.l4 fuel mKind mFrom mInc mSpanLo mSpanHi mSeq mTarget mLife mEpoch mBase mRecs k) (label_Msg.l6 fuel mKind mFrom mInc mSpanLo mSpanHi mSeq mTarget mLife mEpoch mBase mRecs fuel) x7
noncomputable def label_Msg.b (mKind : Int) (mFrom : Int) (mInc : Int) (mSpanLo : Int) (mSpanHi : Int) (mSeq : Int) (mTarget : Int) (mLife : Int) (mEpoch : Int) (mBase : Int) (mRecs : List (Int × Int × Int × (Int × Int) × Bool × List (Int × List Int))) (E4 : (List ByteArray) → Option ByteArray) : Option ByteArray :=
  (match (veil (msg_Name.f BIG mKind)) with | none => none | some y0 => (match (veil (label_or.f BIG y0)) with | none => none | some y1 => (match (veil (label_Num.f BIG mFrom)) with | none => none | some y2 => (match (veil (label_Num.f BIG mInc)) with | none => none | some y3 => (match (veil (span_Text.f BIG mSpanLo mSpanHi)) with | none => none | some y4 => (match (veil (label_or.f BIG y4)) with | none => none | some y5 => (if (hasF mKind (0 : Int)) then (match (veil (label_Num.f BIG mSeq)) with | none => none | some y6 => E4 ((y1 :: ((⟨((102 :: (114 :: (111 :: (109 :: ([] : List UInt8)))))).toArray⟩ : ByteArray) :: (y2 :: ((⟨((105 :: (110 :: (99 :: ([] : List UInt8))))).toArray⟩ : ByteArray) :: (y3 :: ((⟨((115 :: (112 :: (97 :: (110 :: ([] : List UInt8)))))).toArray⟩ : ByteArray) :: (y5 :: ([] : List ByteArray)))))))) ++ ((⟨((115 :: (101 :: (113 :: ([] : List UInt8))))).toArray⟩ : ByteArray) :: (y6 :: ([] : List ByteArray))))) else E4 (y1 :: ((⟨((102 :: (114 :: (111 :: (109 :: ([] : List UInt8)))))).toArray⟩ : ByteArray) :: (y2 :: ((⟨((105 :: (110 :: (99 :: ([] : List UInt8))))).toArray⟩ : ByteArray) :: (y3 :: ((⟨((115 :: (112 :: (97 :: (110 :: ([] : List UInt8)))))).toArray⟩ : ByteArray) :: (y5 :: ([] : List ByteArray)))))))))))))))
noncomputable def label_Msg.f (fuel : Nat) (mKind : Int) (mFrom : Int) (mInc : Int) (mSpanLo : Int) (mSpanHi : Int) (mSeq : Int) (mTarget : Int) (mLife : Int) (mEpoch : Int) (mBase : Int) (mRecs : List (Int × Int × Int × (Int × Int) × Bool × List (Int × List Int))) : Option ByteArray := label_Msg.b mKind mFrom mInc mSpanLo mSpanHi mSeq mTarget mLife mEpoch mBase mRecs (label_Msg.l4 fuel mKind mFrom mInc mSpanLo mSpanHi mSeq mTarget mLife mEpoch mBase mRecs fuel)
theorem label_Msg.l10_eq (fuel : Nat) (mKind : Int) (mFrom : Int) (mInc : Int) (mSpanLo : Int) (mSpanHi : Int) (mSeq : Int) (mTarget : Int) (mLife : Int) (mEpoch : Int) (mBase : Int) (mRecs : List (Int × Int × Int × (Int × Int) × Bool × List (Int × List Int))) : ∀ (k : Nat) (x14 : (List ByteArray)), lp label_Msg_E fuel Try.f51 [.raw] 0 label_Msg.k 10 [] k (label_Msg.s10 mKind mFrom mInc mSpanLo mSpanHi mSeq mTarget mLife mEpoch mBase mRecs x14) = label_Msg.l10 fuel mKind mFrom mInc mSpanLo mSpanHi mSeq mTarget mLife mEpoch mBase mRecs k x14 := by
  intro k
  induction k with
  | zero => intro x14; rfl
  | succ k ih =>
    intro x14
    have h : lp label_Msg_E fuel Try.f51 [.raw] 0 label_Msg.k 10 [] (k + 1) (label_Msg.s10 mKind mFrom mInc mSpanLo mSpanHi mSeq mTarget mLife mEpoch mBase mRecs x14) = label_Msg.b10 mKind mFrom mInc mSpanLo mSpanHi mSeq mTarget mLife mEpoch mBase mRecs (fun x14 => lp label_Msg_E fuel Try.f51 [.raw] 0 label_Msg.k 10 [] k (label_Msg.s10 mKind mFrom mInc mSpanLo mSpanHi mSeq mTarget mLife mEpoch mBase mRecs x14)) x14 := by kernel_rfl
    rw [h]
    have e10 : (fun x14 => lp label_Msg_E fuel Try.f51 [.raw] 0 label_Msg.k 10 [] k (label_Msg.s10 mKind mFrom mInc mSpanLo mSpanHi mSeq mTarget mLife mEpoch mBase mRecs x14)) = label_Msg.l10 fuel mKind mFrom mInc mSpanLo mSpanHi mSeq mTarget mLife mEpoch mBase mRecs k := (funext fun x14 => ih x14)
    rw [e10]
    rfl
theorem label_Msg.l8_eq (fuel : Nat) (mKind : Int) (mFrom : Int) (mInc : Int) (mSpanLo : Int) (mSpanHi : Int) (mSeq : Int) (mTarget : Int) (mLife : Int) (mEpoch : Int) (mBase : Int) (mRecs : List (Int × Int × Int × (Int × Int) × Bool × List (Int × List Int))) : ∀ (k : Nat) (x12 : (List ByteArray)), lp label_Msg_E fuel Try.f51 [.raw] 0 label_Msg.k 8 [] k (label_Msg.s8 mKind mFrom mInc mSpanLo mSpanHi mSeq mTarget mLife mEpoch mBase mRecs x12) = label_Msg.l8 fuel mKind mFrom mInc mSpanLo mSpanHi mSeq mTarget mLife mEpoch mBase mRecs k x12 := by
  intro k
  induction k with
  | zero => intro x12; rfl
  | succ k ih =>
    intro x12
    have h : lp label_Msg_E fuel Try.f51 [.raw] 0 label_Msg.k 8 [] (k + 1) (label_Msg.s8 mKind mFrom mInc mSpanLo mSpanHi mSeq mTarget mLife mEpoch mBase mRecs x12) = label_Msg.b8 mKind mFrom mInc mSpanLo mSpanHi mSeq mTarget mLife mEpoch mBase mRecs (fun x12 => lp label_Msg_E fuel Try.f51 [.raw] 0 label_Msg.k 8 [] k (label_Msg.s8 mKind mFrom mInc mSpanLo mSpanHi mSeq mTarget mLife mEpoch mBase mRecs x12)) (fun x14 => lp label_Msg_E fuel Try.f51 [.raw] 0 label_Msg.k 10 [] fuel (label_Msg.s10 mKind mFrom mInc mSpanLo mSpanHi mSeq mTarget mLife mEpoch mBase mRecs x14)) x12 := by kernel_rfl
    rw [h]
    have e8 : (fun x12 => lp label_Msg_E fuel Try.f51 [.raw] 0 label_Msg.k 8 [] k (label_Msg.s8 mKind mFrom mInc mSpanLo mSpanHi mSeq mTarget mLife mEpoch mBase mRecs x12)) = label_Msg.l8 fuel mKind mFrom mInc mSpanLo mSpanHi mSeq mTarget mLife mEpoch mBase mRecs k := (funext fun x12 => ih x12)
    rw [e8]
    have e10 : (fun x14 => lp label_Msg_E fuel Try.f51 [.raw] 0 label_Msg.k 10 [] fuel (label_Msg.s10 mKind mFrom mInc mSpanLo mSpanHi mSeq mTarget mLife mEpoch mBase mRecs x14)) = label_Msg.l10 fuel mKind mFrom mInc mSpanLo mSpanHi mSeq mTarget mLife mEpoch mBase mRecs fuel := (funext fun x14 => label_Msg.l10_eq fuel mKind mFrom mInc mSpanLo mSpanHi mSeq mTarget mLife mEpoch mBase mRecs fuel x14)
    rw [e10]
    rfl
theorem label_Msg.l6_eq (fuel : Nat) (mKind : Int) (mFrom : Int) (mInc : Int) (mSpanLo : Int) (mSpanHi : Int) (mSeq : Int) (mTarget : Int) (mLife : Int) (mEpoch : Int) (mBase : Int) (mRecs : List (Int × Int × Int × (Int × Int) × Bool × List (Int × List Int))) : ∀ (k : Nat) (x9 : (List ByteArray)), lp label_Msg_E fuel Try.f51 [.raw] 0 label_Msg.k 6 [] k (label_Msg.s6 mKind mFrom mInc mSpanLo mSpanHi mSeq mTarget mLife mEpoch mBase mRecs x9) = label_Msg.l6 fuel mKind mFrom mInc mSpanLo mSpanHi mSeq mTarget mLife mEpoch mBase mRecs k x9 := by
  intro k
  induction k with
  | zero => intro x9; rfl
  | succ k ih =>
    intro x9
    have h : lp label_Msg_E fuel Try.f51 [.raw] 0 label_Msg.k 6 [] (k + 1) (label_Msg.s6 mKind mFrom mInc mSpanLo mSpanHi mSeq mTarget mLife mEpoch mBase mRecs x9) = label_Msg.b6 mKind mFrom mInc mSpanLo mSpanHi mSeq mTarget mLife mEpoch mBase mRecs (fun x9 => lp label_Msg_E fuel Try.f51 [.raw] 0 label_Msg.k 6 [] k (label_Msg.s6 mKind mFrom mInc mSpanLo mSpanHi mSeq mTarget mLife mEpoch mBase mRecs x9)) (fun x12 => lp label_Msg_E fuel Try.f51 [.raw] 0 label_Msg.k 8 [] fuel (label_Msg.s8 mKind mFrom mInc mSpanLo mSpanHi mSeq mTarget mLife mEpoch mBase mRecs x12)) x9 := by kernel_rfl
    rw [h]
    have e6 : (fun x9 => lp label_Msg_E fuel Try.f51 [.raw] 0 label_Msg.k 6 [] k (label_Msg.s6 mKind mFrom mInc mSpanLo mSpanHi mSeq mTarget mLife mEpoch mBase mRecs x9)) = label_Msg.l6 fuel mKind mFrom mInc mSpanLo mSpanHi mSeq mTarget mLife mEpoch mBase mRecs k := (funext fun x9 => ih x9)
    rw [e6]
    have e8 : (fun x12 => lp label_Msg_E fuel Try.f51 [.raw] 0 label_Msg.k 8 [] fuel (label_Msg.s8 mKind mFrom mInc mSpanLo mSpanHi mSeq mTarget mLife mEpoch mBase mRecs x12)) = label_Msg.l8 fuel mKind mFrom mInc mSpanLo mSpanHi mSeq mTarget mLife mEpoch mBase mRecs fuel := (funext fun x12 => label_Msg.l8_eq fuel mKind mFrom mInc mSpanLo mSpanHi mSeq mTarget mLife mEpoch mBase mRecs fuel x12)
    rw [e8]
    rfl
theorem label_Msg.l4_eq (fuel : Nat) (mKind : Int) (mFrom : Int) (mInc : Int) (mSpanLo : Int) (mSpanHi : Int) (mSeq : Int) (mTarget : Int) (mLife : Int) (mEpoch : Int) (mBase : Int) (mRecs : List (Int × Int × Int × (Int × Int) × Bool × List (Int × List Int))) : ∀ (k : Nat) (x7 : (List ByteArray)), lp label_Msg_E fuel Try.f51 [.raw] 0 label_Msg.k 4 [] k (label_Msg.s4 mKind mFrom mInc mSpanLo mSpanHi mSeq mTarget mLife mEpoch mBase mRecs x7) = label_Msg.l4 fuel mKind mFrom mInc mSpanLo mSpanHi mSeq mTarget mLife mEpoch mBase mRecs k x7 := by
  intro k
  induction k with
  | zero => intro x7; rfl
  | succ k ih =>
    intro x7
    have h : lp label_Msg_E fuel Try.f51 [.raw] 0 label_Msg.k 4 [] (k + 1) (label_Msg.s4 mKind mFrom mInc mSpanLo mSpanHi mSeq mTarget mLife mEpoch mBase mRecs x7) = label_Msg.b4 mKind mFrom mInc mSpanLo mSpanHi mSeq mTarget mLife mEpoch mBase mRecs (fun x7 => lp label_Msg_E fuel Try.f51 [.raw] 0 label_Msg.k 4 [] k (label_Msg.s4 mKind mFrom mInc mSpanLo mSpanHi mSeq mTarget mLife mEpoch mBase mRecs x7)) (fun x9 => lp label_Msg_E fuel Try.f51 [.raw] 0 label_Msg.k 6 [] fuel (label_Msg.s6 mKind mFrom mInc mSpanLo mSpanHi mSeq mTarget mLife mEpoch mBase mRecs x9)) x7 := by kernel_rfl
    rw [h]
    have e4 : (fun x7 => lp label_Msg_E fuel Try.f51 [.raw] 0 label_Msg.k 4 [] k (label_Msg.s4 mKind mFrom mInc mSpanLo mSpanHi mSeq mTarget mLife mEpoch mBase mRecs x7)) = label_Msg.l4 fuel mKind mFrom mInc mSpanLo mSpanHi mSeq mTarget mLife mEpoch mBase mRecs k := (funext fun x7 => ih x7)
    rw [e4]
    have e6 : (fun x9 => lp label_Msg_E fuel Try.f51 [.raw] 0 label_Msg.k 6 [] fuel (label_Msg.s6 mKind mFrom mInc mSpanLo mSpanHi mSeq mTarget mLife mEpoch mBase mRecs x9)) = label_Msg.l6 fuel mKind mFrom mInc mSpanLo mSpanHi mSeq mTarget mLife mEpoch mBase mRecs fuel := (funext fun x9 => label_Msg.l6_eq fuel mKind mFrom mInc mSpanLo mSpanHi mSeq mTarget mLife mEpoch mBase mRecs fuel x9)
    rw [e6]
    rfl
theorem label_Msg.eq (fuel : Nat) (mKind : Int) (mFrom : Int) (mInc : Int) (mSpanLo : Int) (mSpanHi : Int) (mSeq : Int) (mTarget : Int) (mLife : Int) (mEpoch : Int) (mBase : Int) (mRecs : List (Int × Int × Int × (Int × Int) × Bool × List (Int × List Int))) : (denF label_Msg_E loopN fuel Try.f51 [.raw] [.agg [.d (.int .i64) mKind, .d (.int .i64) mFrom, .d (.int .i64) mInc, .d (.int .i64) mSpanLo, .d (.int .i64) mSpanHi, .d (.int .i64) mSeq, .d (.int .i64) mTarget, .d (.int .i64) mLife, .d (.int .i64) mEpoch, .d (.int .i64) mBase, .d (.sl (.pair (.int .i64) (.pair (.int .i64) (.pair (.int .i64) (.pair (.pair (.int .i64) (.int .i64)) (.pair .bool (.sl (.pair (.int .i64) (.sl (.int .u8)))))))))) mRecs]] [] label_Msg.k) = label_Msg.f fuel mKind mFrom mInc mSpanLo mSpanHi mSeq mTarget mLife mEpoch mBase mRecs := by
  have h : (denF label_Msg_E loopN fuel Try.f51 [.raw] [.agg [.d (.int .i64) mKind, .d (.int .i64) mFrom, .d (.int .i64) mInc, .d (.int .i64) mSpanLo, .d (.int .i64) mSpanHi, .d (.int .i64) mSeq, .d (.int .i64) mTarget, .d (.int .i64) mLife, .d (.int .i64) mEpoch, .d (.int .i64) mBase, .d (.sl (.pair (.int .i64) (.pair (.int .i64) (.pair (.int .i64) (.pair (.pair (.int .i64) (.int .i64)) (.pair .bool (.sl (.pair (.int .i64) (.sl (.int .u8)))))))))) mRecs]] [] label_Msg.k) = label_Msg.b mKind mFrom mInc mSpanLo mSpanHi mSeq mTarget mLife mEpoch mBase mRecs (fun x7 => lp label_Msg_E fuel Try.f51 [.raw] 0 label_Msg.k 4 [] fuel (label_Msg.s4 mKind mFrom mInc mSpanLo mSpanHi mSeq mTarget mLife mEpoch mBase mRecs x7)) := by kernel_rfl
  rw [h]
  have e4 : (fun x7 => lp label_Msg_E fuel Try.f51 [.raw] 0 label_Msg.k 4 [] fuel (label_Msg.s4 mKind mFrom mInc mSpanLo mSpanHi mSeq mTarget mLife mEpoch mBase mRecs x7)) = label_Msg.l4 fuel mKind mFrom mInc mSpanLo mSpanHi mSeq mTarget mLife mEpoch mBase mRecs fuel := (funext fun x7 => label_Msg.l4_eq fuel mKind mFrom mInc mSpanLo mSpanHi mSeq mTarget mLife mEpoch mBase mRecs fuel x7)
  rw [e4]
  rfl
theorem label_Msg.l10_at (fuel nN kK : Nat) (hN : nN = kK + 1) (mKind : Int) (mFrom : Int) (mInc : Int) (mSpanLo : Int) (mSpanHi : Int) (mSeq : Int) (mTarget : Int) (mLife : Int) (mEpoch : Int) (mBase : Int) (mRecs : List (Int × Int × Int × (Int × Int) × Bool × List (Int × List Int))) (x14 : (List ByteArray)) : label_Msg.l10 fuel mKind mFrom mInc mSpanLo mSpanHi mSeq mTarget mLife mEpoch mBase mRecs nN x14 = label_Msg.b10 mKind mFrom mInc mSpanLo mSpanHi mSeq mTarget mLife mEpoch mBase mRecs (label_Msg.l10 fuel mKind mFrom mInc mSpanLo mSpanHi mSeq mTarget mLife mEpoch mBase mRecs kK) x14 := by
  subst hN
  rfl
theorem label_Msg.l8_at (fuel nN kK : Nat) (hN : nN = kK + 1) (mKind : Int) (mFrom : Int) (mInc : Int) (mSpanLo : Int) (mSpanHi : Int) (mSeq : Int) (mTarget : Int) (mLife : Int) (mEpoch : Int) (mBase : Int) (mRecs : List (Int × Int × Int × (Int × Int) × Bool × List (Int × List Int))) (x12 : (List ByteArray)) : label_Msg.l8 fuel mKind mFrom mInc mSpanLo mSpanHi mSeq mTarget mLife mEpoch mBase mRecs nN x12 = label_Msg.b8 mKind mFrom mInc mSpanLo mSpanHi mSeq mTarget mLife mEpoch mBase mRecs (label_Msg.l8 fuel mKind mFrom mInc mSpanLo mSpanHi mSeq mTarget mLife mEpoch mBase mRecs kK) (label_Msg.l10 fuel mKind mFrom mInc mSpanLo mSpanHi mSeq mTarget mLife mEpoch mBase mRecs fuel) x12 := by
  subst hN
  rfl
theorem label_Msg.l6_at (fuel nN kK : Nat) (hN : nN = kK + 1) (mKind : Int) (mFrom : Int) (mInc : Int) (mSpanLo : Int) (mSpanHi : Int) (mSeq : Int) (mTarget : Int) (mLife : Int) (mEpoch : Int) (mBase : Int) (mRecs : List (Int × Int × Int × (Int × Int) × Bool × List (Int × List Int))) (x9 : (List ByteArray)) : label_Msg.l6 fuel mKind mFrom mInc mSpanLo mSpanHi mSeq mTarget mLife mEpoch mBase mRecs nN x9 = label_Msg.b6 mKind mFrom mInc mSpanLo mSpanHi mSeq mTarget mLife mEpoch mBase mRecs (label_Msg.l6 fuel mKind mFrom mInc mSpanLo mSpanHi mSeq mTarget mLife mEpoch mBase mRecs kK) (label_Msg.l8 fuel mKind mFrom mInc mSpanLo mSpanHi mSeq mTarget mLife mEpoch mBase mRecs fuel) x9 := by
  subst hN
  rfl
theorem label_Msg.l4_at (fuel nN kK : Nat) (hN : nN = kK + 1) (mKind : Int) (mFrom : Int) (mInc : Int) (mSpanLo : Int) (mSpanHi : Int) (mSeq : Int) (mTarget : Int) (mLife : Int) (mEpoch : Int) (mBase : Int) (mRecs : List (Int × Int × Int × (Int × Int) × Bool × List (Int × List Int))) (x7 : (List ByteArray)) : label_Msg.l4 fuel mKind mFrom mInc mSpanLo mSpanHi mSeq mTarget mLife mEpoch mBase mRecs nN x7 = label_Msg.b4 mKind mFrom mInc mSpanLo mSpanHi mSeq mTarget mLife mEpoch mBase mRecs (label_Msg.l4 fuel mKind mFrom mInc mSpanLo mSpanHi mSeq mTarget mLife mEpoch mBase mRecs kK) (label_Msg.l6 fuel mKind mFrom mInc mSpanLo mSpanHi mSeq mTarget mLife mEpoch mBase mRecs fuel) x7 := by
  subst hN
  rfl
noncomputable def s_label_Msg : Den.Sum := ⟨[.dat (.pair (.int .i64) (.pair (.int .i64) (.pair (.int .i64) (.pair (.pair (.int .i64) (.int .i64)) (.pair (.int .i64) (.pair (.int .i64) (.pair (.int .i64) (.pair (.int .i64) (.pair (.int .i64) (.sl (.pair (.int .i64) (.pair (.int .i64) (.pair (.int .i64) (.pair (.pair (.int .i64) (.int .i64)) (.pair .bool (.sl (.pair (.int .i64) (.sl (.int .u8))))))))))))))))))) true], fun args objs κ => match args, objs with
  | [.agg [.d (.int .i64) mKind, .d (.int .i64) mFrom, .d (.int .i64) mInc, .d (.int .i64) mSpanLo, .d (.int .i64) mSpanHi, .d (.int .i64) mSeq, .d (.int .i64) mTarget, .d (.int .i64) mLife, .d (.int .i64) mEpoch, .d (.int .i64) mBase, .d (.sl (.pair (.int .i64) (.pair (.int .i64) (.pair (.int .i64) (.pair (.pair (.int .i64) (.int .i64)) (.pair .bool (.sl (.pair (.int .i64) (.sl (.int .u8)))))))))) mRecs]], [] => (match veil (label_Msg.f BIG mKind mFrom mInc mSpanLo mSpanHi mSeq mTarget mLife mEpoch mBase mRecs) with | none => none | some y => κ [.d .str y] [])
  | _, _ => none⟩
theorem s_label_Msg_det : SumDet s_label_Msg := fun avs objs R κ => by
  show s_label_Msg.run avs objs (two κ) = (s_label_Msg.run avs objs (two some)).bind κ
  unfold s_label_Msg
  simp only [veil_eq]
  split
  · split <;> rfl
  · rfl
theorem s_label_Msg_ok : SumOk Try.prog 51 s_label_Msg := by
  have hE : EnvOk Try.prog label_Msg_E := env_ok (l := [(49, s_msg_Name), (50, s_has), (52, s_label_Num), (84, s_label_or), (86, s_span_Text), (87, s_joinS)]) th_ok any_ok ⟨⟨s_msg_Name_ok, s_msg_Name_det⟩, ⟨s_has_ok, s_has_det⟩, ⟨s_label_Num_ok, s_label_Num_det⟩, ⟨s_label_or_ok, s_label_or_det⟩, ⟨s_span_Text_ok, s_span_Text_det⟩, ⟨s_joinS_ok, s_joinS_det⟩, trivial⟩ _
  refine sum_ok hE Try.func51 rfl (by kernel_rfl) s_label_Msg [.raw] label_Msg.k ?_
  intro R avs objs κ r h
  unfold s_label_Msg at h
  simp only [veil_eq] at h
  split at h
  · rename_i mKind mFrom mInc mSpanLo mSpanHi mSeq mTarget mLife mEpoch mBase mRecs
    split at h
    · cases h
    · rename_i y hy
      refine ⟨BIG, _, _, _, (label_Msg.eq BIG mKind mFrom mInc mSpanLo mSpanHi mSeq mTarget mLife mEpoch mBase mRecs).trans hy, ?_, h⟩
      intro rs ros hk
      unfold label_Msg.k at hk
      split at hk
      · first | (cases hk; exact ⟨rfl, rfl⟩) | (have e := Option.some.inj hk; rw [← e]; exact ⟨rfl, rfl⟩)
      · cases hk
  · cases h
noncomputable def law40_spoken_E : Env := ⟨th, gam [(44, s_law40_num), (58, s_sv)], fun i => ⟨[], [], []⟩⟩
noncomputable def law40_spoken.k (rs : List AV) (os : List Den.Obj) : Option ByteArray :=
  match rs, os with
  | [.d .str r0], [] => some r0
  | _, _ => none
noncomputable def law40_spoken.b (sLo : Int) (sHi : Int) : Option ByteArray :=
  (if (!(okS sLo sHi)) then some ((⟨((63 :: ([] : List UInt8))).toArray⟩ : ByteArray)) else (match (veil (law40_num.it (64 : Nat) sLo)) with | none => none | some y0 => (if (((ByteArray.size y0) + (ByteArray.size (⟨((45 :: ([] : List UInt8))).toArray⟩ : ByteArray))) ≤ (1099511627776 : Nat)) then (match (veil (law40_num.it (64 : Nat) sHi)) with | none => none | some y1 => (if (((ByteArray.size (y0 ++ (⟨((45 :: ([] : List UInt8))).toArray⟩ : ByteArray))) + (ByteArray.size y1)) ≤ (1099511627776 : Nat)) then some (((y0 ++ (⟨((45 :: ([] : List UInt8))).toArray⟩ : ByteArray)) ++ y1)) else none)) else none)))
noncomputable def law40_spoken.f (fuel : Nat) (sLo : Int) (sHi : Int) : Option ByteArray := law40_spoken.b sLo sHi
theorem law40_spoken.eq (fuel : Nat) (sLo : Int) (sHi : Int) : (denF law40_spoken_E loopN fuel Try.f45 [.raw] [.agg [.d (.int .i64) sLo, .d (.int .i64) sHi]] [] law40_spoken.k) = law40_spoken.f fuel sLo sHi := by
  kernel_rfl
noncomputable def s_law40_spoken : Den.Sum := ⟨[.dat (.pair (.int .i64) (.int .i64)) true], fun args objs κ => match args, objs with
  | [.agg [.d (.int .i64) sLo, .d (.int .i64) sHi]], [] => (match veil (law40_spoken.f BIG sLo sHi) with | none => none | some y => κ [.d .str y] [])
  | _, _ => none⟩
theorem s_law40_spoken_det : SumDet s_law40_spoken := fun avs objs R κ => by
  show s_law40_spoken.run avs objs (two κ) = (s_law40_spoken.run avs objs (two some)).bind κ
  unfold s_law40_spoken
  simp only [veil_eq]
  split
  · split <;> rfl
  · rfl
theorem s_law40_spoken_ok : SumOk Try.prog 45 s_law40_spoken := by
  have hE : EnvOk Try.prog law40_spoken_E := env_ok (l := [(44, s_law40_num), (58, s_sv)]) th_ok any_ok ⟨⟨s_law40_num_ok, s_law40_num_det⟩, ⟨s_sv_ok, s_sv_det⟩, trivial⟩ _
  refine sum_ok hE Try.func45 rfl (by kernel_rfl) s_law40_spoken [.raw] law40_spoken.k ?_
  intro R avs objs κ r h
  unfold s_law40_spoken at h
  simp only [veil_eq] at h
  split at h
  · rename_i sLo sHi
    split at h
    · cases h
    · rename_i y hy
      refine ⟨BIG, _, _, _, (law40_spoken.eq BIG sLo sHi).trans hy, ?_, h⟩
      intro rs ros hk
      unfold law40_spoken.k at hk
      split at hk
      · first | (cases hk; exact ⟨rfl, rfl⟩) | (have e := Option.some.inj hk; rw [← e]; exact ⟨rfl, rfl⟩)
      · cases hk
  · cases h
theorem toList_loop (bs : ByteArray) : ∀ (m i : Nat) (r : List UInt8), i + m = bs.size → ByteArray.toList.loop bs i r = r.reverse ++ bs.data.toList.drop i := by
  intro m
  induction m with
  | zero =>
    intro i r h
    rw [ByteArray.toList.loop, if_neg (by omega), List.drop_of_length_le (by simp; omega), List.append_nil]
  | succ m ih =>
    intro i r h
    have hlt : i < bs.data.toList.length := by simp; omega
    rw [ByteArray.toList.loop, if_pos (by omega), ih (i + 1) _ (by omega), List.drop_eq_getElem_cons hlt]
    have e : bs.get! i = bs.data.toList[i] := by
      have h2 : i < bs.data.size := by simpa using hlt
      simp only [ByteArray.get!, Array.getElem_toList]
      exact getElem!_pos bs.data i h2
    rw [e]
    simp
theorem toList_data (bs : ByteArray) : bs.toList = bs.data.toList := by
  unfold ByteArray.toList
  rw [toList_loop bs bs.size 0 [] (by omega)]
  simp
noncomputable def hexd (d : Int) : Int := if d < 10 then 48 + d else 87 + d
noncomputable def hexs (l : List Int) : List Int := l.flatMap fun c => [hexd (c / 16), hexd (c % 16)]
abbrev colon : ByteArray := ⟨((58 :: ([] : List UInt8))).toArray⟩
abbrev blank : ByteArray := ⟨((32 :: ([] : List UInt8))).toArray⟩
noncomputable def fieldT (x : Int × List Int) : ByteArray := strOf (bytesOf (numT x.1 ++ colon) ++ hexs x.2)
theorem bytesOf_len (s : ByteArray) : (bytesOf s).length = s.size := by simp [bytesOf]
theorem app_size (a b : ByteArray) : (a ++ b).size = a.size + b.size := ByteArray.size_append
theorem hexs_len : ∀ l : List Int, (hexs l).length = 2 * l.length
  | [] => rfl
  | c :: l => by
    have := hexs_len l
    unfold hexs at this ⊢
    simp only [List.flatMap_cons, List.length_append, List.length_cons, List.length_nil]
    omega
theorem fieldT_size (x : Int × List Int) : (fieldT x).size ≤ 21 + 2 * x.2.length := by
  have := numT_size x.1
  unfold fieldT
  rw [strOf_size, List.length_append, bytesOf_len, app_size, hexs_len]
  have : colon.size = 1 := rfl
  omega
theorem hex_tab : (List.range 256).all (fun n => match idx (Array.toList (ByteArray.data (⟨((48 :: (49 :: (50 :: (51 :: (52 :: (53 :: (54 :: (55 :: (56 :: (57 :: (97 :: (98 :: (99 :: (100 :: (101 :: (102 :: ([] : List UInt8)))))))))))))))))).toArray⟩ : ByteArray))) (Int.fdiv (n : Int) ((2 : Int) ^ (Min.min (Int.toNat (4 : Int)) (Go.IntKind.bits .u8)))), idx (Array.toList (ByteArray.data (⟨((48 :: (49 :: (50 :: (51 :: (52 :: (53 :: (54 :: (55 :: (56 :: (57 :: (97 :: (98 :: (99 :: (100 :: (101 :: (102 :: ([] : List UInt8)))))))))))))))))).toArray⟩ : ByteArray))) (bits Go.BinOp.and .u8 (n : Int) (15 : Int)) with
    | some a, some b => ((a.toNat : Int) == hexd ((n : Int) / 16)) && ((b.toNat : Int) == hexd ((n : Int) % 16))
    | _, _ => false) = true := by kernel_rfl
theorem hex_at (c : Int) (h0 : 0 ≤ c) (h1 : c ≤ 255) : ∃ a b : UInt8, idx (Array.toList (ByteArray.data (⟨((48 :: (49 :: (50 :: (51 :: (52 :: (53 :: (54 :: (55 :: (56 :: (57 :: (97 :: (98 :: (99 :: (100 :: (101 :: (102 :: ([] : List UInt8)))))))))))))))))).toArray⟩ : ByteArray))) (Int.fdiv c ((2 : Int) ^ (Min.min (Int.toNat (4 : Int)) (Go.IntKind.bits .u8)))) = some a ∧ idx (Array.toList (ByteArray.data (⟨((48 :: (49 :: (50 :: (51 :: (52 :: (53 :: (54 :: (55 :: (56 :: (57 :: (97 :: (98 :: (99 :: (100 :: (101 :: (102 :: ([] : List UInt8)))))))))))))))))).toArray⟩ : ByteArray))) (bits Go.BinOp.and .u8 c (15 : Int)) = some b ∧ (a.toNat : Int) = hexd (c / 16) ∧ (b.toNat : Int) = hexd (c % 16) := by
  have := List.all_eq_true.1 hex_tab c.toNat (by simp; omega)
  rw [show ((c.toNat : Nat) : Int) = c from by omega] at this
  revert this
  cases idx (Array.toList (ByteArray.data (⟨((48 :: (49 :: (50 :: (51 :: (52 :: (53 :: (54 :: (55 :: (56 :: (57 :: (97 :: (98 :: (99 :: (100 :: (101 :: (102 :: ([] : List UInt8)))))))))))))))))).toArray⟩ : ByteArray))) (Int.fdiv c ((2 : Int) ^ (Min.min (Int.toNat (4 : Int)) (Go.IntKind.bits .u8)))) with
  | none => intro h; cases h
  | some a =>
    cases idx (Array.toList (ByteArray.data (⟨((48 :: (49 :: (50 :: (51 :: (52 :: (53 :: (54 :: (55 :: (56 :: (57 :: (97 :: (98 :: (99 :: (100 :: (101 :: (102 :: ([] : List UInt8)))))))))))))))))).toArray⟩ : ByteArray))) (bits Go.BinOp.and .u8 c (15 : Int)) with
    | none => intro h; cases h
    | some b =>
      intro h
      simp only [Bool.and_eq_true, beq_iff_eq] at h
      exact ⟨a, b, rfl, rfl, h.1, h.2⟩
theorem hexs_step (l : List Int) (i : Nat) (h : i < l.length) : hexs (l.drop i) = [hexd (l[i] / 16), hexd (l[i] % 16)] ++ hexs (l.drop (i + 1)) := by
  rw [List.drop_eq_getElem_cons h]
  rfl
theorem LField.loop (fuel : Nat) (t : Int) (d : List Int) (hb : isB d) (hl : d.length ≤ 1000000) : ∀ (m k i : Nat) (acc : List Int), i + m = d.length → m < k → acc.length ≤ 1000 + 2 * i →
    label_Field.l3 fuel t d k (d.length : Int) (i : Int) acc = some (strOf (acc ++ hexs (d.drop i))) := by
  intro m
  induction m with
  | zero =>
    intro k i acc hi hk ha
    obtain ⟨k, rfl⟩ : ∃ k', k = k' + 1 := ⟨k - 1, by omega⟩
    rw [label_Field.l3]
    unfold label_Field.b3
    rw [if_neg (c := decide ((i : Int) < (d.length : Int)) = true) (by simp; omega), List.drop_of_length_le (by omega)]
    unfold hexs
    rw [List.flatMap_nil, List.append_nil]
  | succ m ih =>
    intro k i acc hi hk ha
    obtain ⟨k, rfl⟩ : ∃ k', k = k' + 1 := ⟨k - 1, by omega⟩
    have hlt : i < d.length := by omega
    obtain ⟨c0, c1⟩ := hb _ (List.getElem_mem hlt)
    obtain ⟨a, b, h1, h2, h3, h4⟩ := hex_at d[i] c0 c1
    rw [label_Field.l3]
    unfold label_Field.b3
    rw [if_pos (c := decide ((i : Int) < (d.length : Int)) = true) (by simp; omega), idx_at, List.getElem?_eq_getElem hlt]
    dsimp only
    rw [h1]
    dsimp only
    rw [h2]
    dsimp only
    rw [if_pos (by simp [lim]; omega), wrap_small _ (by omega) (by omega), show ((i : Int) + 1) = ((i + 1 : Nat) : Int) from by omega, ih k (i + 1) _ (by omega) (by omega) (by simp; omega), h3, h4, hexs_step d i hlt, List.append_assoc]
theorem LField.pure (t : Int) (d : List Int) (t0 : -9223372036854775808 ≤ t) (t1 : t < 9223372036854775808) (hb : isB d) (hl : d.length ≤ 1000000) : label_Field.f BIG t d = some (fieldT (t, d)) := by
  have hs := numT_size t
  have hc : colon.size = 1 := rfl
  have hc2 : ({ data := #[58] } : ByteArray).size = 1 := rfl
  unfold label_Field.f label_Field.b
  simp only [veil_eq]
  rw [LNum.pure t t0 t1]
  dsimp only
  rw [if_pos (by omega), if_pos (by rw [app_size]; simp [lim]; omega)]
  have := LField.loop BIG t d hb hl d.length BIG 0 (bytesOf (numT t ++ colon)) (by omega) (by rw [BIG_eq]; omega) (by rw [bytesOf_len, app_size]; omega)
  rw [List.drop_zero] at this
  exact this
noncomputable def spT (lo hi : Int) : ByteArray := if okS lo hi = true then strOf [48 + lo, 45, 48 + hi] else strOf [63]
theorem numT_small (v : Int) (h0 : 0 ≤ v) (h1 : v < 10) : numT v = strOf [48 + v] := by
  unfold numT numL
  rw [if_neg (by omega), natD_small _ _ h1]
theorem LSpan.pure (lo hi : Int) : (match span_Text.f BIG lo hi with
    | none => none
    | some y => label_or.f BIG y) = some (spT lo hi) := by
  unfold span_Text.f span_Text.b label_or.f label_or.b spT
  cases ho : okS lo hi with
  | false =>
    simp
    rfl
  | true =>
    have hs := (okS_iff _ _).1 ho
    have e : (strOf [48 + lo, 45, 48 + hi]).toList ≠ [] := by
      intro h
      rw [toList_data] at h
      simp [strOf, strOfNums] at h
    simp only [Bool.not_true, Bool.false_eq_true, if_false, if_true]
    rw [wrap_small _ (by omega) (by omega), wrap_small _ (by omega) (by omega), byteW _ (by omega) (by omega), byteW _ (by omega) (by omega), if_neg]
    intro h
    have h := eq_of_beq h
    exact e (h.trans (by rw [toList_data]))
theorem Spoken.pure (lo hi : Int) : law40_spoken.f BIG lo hi = some (spT lo hi) := by
  unfold law40_spoken.f law40_spoken.b spT
  simp only [veil_eq]
  cases ho : okS lo hi with
  | false => rfl
  | true =>
    have hs := (okS_iff _ _).1 ho
    simp only [Bool.not_true, Bool.false_eq_true, if_false, if_true]
    rw [Num40.pure lo (by omega) (by omega), numT_small lo (by omega) (by omega)]
    dsimp only
    rw [if_pos (by rw [strOf_size, dash, strOf_size]; simp), Num40.pure hi (by omega) (by omega), numT_small hi (by omega) (by omega), dash]
    dsimp only
    rw [strOf_app, if_pos (by rw [strOf_size, strOf_size]; simp), strOf_app]
    rfl
/-- words behind the first one -/
noncomputable def tailB (s : ByteArray) (r : List ByteArray) : ByteArray := ⟨(Lib.joinTail s.data.toList (r.map (·.data.toList))).toArray⟩
theorem joinB_cons (x : ByteArray) (r : List ByteArray) (s : ByteArray) : joinB (x :: r) s = x ++ tailB s r := by
  apply ByteArray.ext
  rw [ByteArray.data_append]
  simp [joinB, tailB, Lib.join_cons]
theorem tailB_nil (s : ByteArray) (a : ByteArray) : a ++ tailB s [] = a := by
  apply ByteArray.ext
  rw [ByteArray.data_append]
  simp [tailB, Lib.joinTail]
theorem tailB_snoc (s : ByteArray) (r : List ByteArray) (y : ByteArray) : tailB s (r ++ [y]) = tailB s r ++ (s ++ y) := by
  apply ByteArray.ext
  rw [ByteArray.data_append, ByteArray.data_append]
  simp [tailB, Lib.joinTail]
theorem joinB_snoc (l : List ByteArray) (hl : l ≠ []) (y s : ByteArray) : joinB (l ++ [y]) s = joinB l s ++ (s ++ y) := by
  cases l with
  | nil => exact absurd rfl hl
  | cons x r => rw [List.cons_append, joinB_cons, joinB_cons, tailB_snoc, ByteArray.append_assoc]
theorem joinB_one (x s : ByteArray) : joinB [x] s = x := by rw [joinB_cons, tailB_nil]
theorem joinB_two (l : List ByteArray) (hl : l ≠ []) (w y s : ByteArray) : joinB (l ++ [w, y]) s = (joinB l s ++ (s ++ (w ++ s))) ++ y := by
  rw [show l ++ [w, y] = (l ++ [w]) ++ [y] from by simp, joinB_snoc _ (by simp), joinB_snoc _ hl]
  simp only [ByteArray.append_assoc]
theorem joinB_size (l : List ByteArray) (s : ByteArray) : (joinB l s).size = (Lib.join (l.map (·.data.toList)) s.data.toList).length := by simp [joinB, ByteArray.size]
theorem joinFits_of {l : List ByteArray} {s : ByteArray} (hl : l ≠ []) (hn : l.length ≤ 1000000) (hs : (joinB l s).size ≤ 281474976710656) : joinFits l s = true := by
  unfold joinFits
  rw [joinB_size] at hs
  rw [decide_eq_true hs, decide_eq_true (by omega)]
  cases l with
  | nil => exact absurd rfl hl
  | cons x r => rfl
noncomputable def label_Rec_E : Env := ⟨th, gam [(46, s_label_Field), (52, s_label_Num), (84, s_label_or), (85, s_rec_Name), (86, s_span_Text), (87, s_joinS)], fun i => if i = 5 then ⟨[3, 27, 28, 29], [], []⟩ else ⟨[], [], []⟩⟩
noncomputable def label_Rec.k (rs : List AV) (os : List Den.Obj) : Option ByteArray :=
  match rs, os with
  | [.d .str r0], [] => some r0
  | _, _ => none
noncomputable def label_Rec.s5 (r0ID : Int) (r0Inc : Int) (r0Status : Int) (r0SpanLo : Int) (r0SpanHi : Int) (r0Cut : Bool) (r0Bag : List (Int × List Int)) (x6 : Int) (x7 : Int) (x8 : (List ByteArray)) : St := ⟨[.dead, .dead, .dead, .row 64, .dead, .dead, .dead, .dead, .dead, .dead, .dead, .dead, .dead, .dead, .dead, .dead, .dead, .dead, .dead, .dead, .dead, .dead, .dead, .dead, .dead, .dead, .dead, .d (.sl (.pair (.int .i64) (.sl (.int .u8)))) (r0Bag), .d (.int .i64) x6, .d (.int .i64) x7, .dead, .dead, .dead, .dead, .dead, .dead, .dead, .dead, .dead, .dead, .dead], ofL [(64, .row 9 .str x8 false)], 0⟩
noncomputable def label_Rec.b5 (r0ID : Int) (r0Inc : Int) (r0Status : Int) (r0SpanLo : Int) (r0SpanHi : Int) (r0Cut : Bool) (r0Bag : List (Int × List Int)) (A5 : Int → Int → (List ByteArray) → Option ByteArray) (x6 : Int) (x7 : Int) (x8 : (List ByteArray)) : Option ByteArray :=
  (if (decide (x7 < x6)) then (match (idx r0Bag x7) with | none => none | some y9 => (match (veil (label_Field.f BIG y9.1 y9.2)) with | none => none | some y10 => (if ((((List.length x8) + (List.length (y10 :: ([] : List ByteArray)))) * (16 : Nat)) ≤ lim) then A5 x6 (Go.IntKind.wrap .i64 (x7 + (1 : Int))) (x8 ++ (y10 :: ([] : List ByteArray))) else none))) else (if (joinFits x8 (⟨((32 :: ([] : List UInt8))).toArray⟩ : ByteArray)) then some ((joinB x8 (⟨((32 :: ([] : List UInt8))).toArray⟩ : ByteArray))) else none))
noncomputable def label_Rec.l5 (fuel : Nat) (r0ID : Int) (r0Inc : Int) (r0Status : Int) (r0SpanLo : Int) (r0SpanHi : Int) (r0Cut : Bool) (r0Bag : List (Int × List Int)) : Nat → Int → Int → (List ByteArray) → Option ByteArray
  | 0, _, _, _ => none
  | k + 1, x6, x7, x8 => label_Rec.b5 r0ID r0Inc r0Status r0SpanLo r0SpanHi r0Cut r0Bag (label_Rec.l5 fuel r0ID r0Inc r0Status r0SpanLo r0SpanHi r0Cut r0Bag k) x6 x7 x8
noncomputable def label_Rec.b (r0ID : Int) (r0Inc : Int) (r0Status : Int) (r0SpanLo : Int) (r0SpanHi : Int) (r0Cut : Bool) (r0Bag : List (Int × List Int)) (E5 : Int → Int → (List ByteArray) → Option ByteArray) : Option ByteArray :=
  (match (veil (label_Num.f BIG r0ID)) with | none => none | some y0 => (match (veil (rec_Name.f BIG r0Status)) with | none => none | some y1 => (match (veil (label_or.f BIG y1)) with | none => none | some y2 => (match (veil (span_Text.f BIG r0SpanLo r0SpanHi)) with | none => none | some y3 => (match (veil (label_or.f BIG y3)) with | none => none | some y4 => (match (veil (label_Num.f BIG r0Inc)) with | none => none | some y5 => (if r0Cut then E5 ((((List.length r0Bag)) : Nat) : Int) (0 : Int) ((y0 :: (y2 :: (y4 :: ((⟨((105 :: (110 :: (99 :: ([] : List UInt8))))).toArray⟩ : ByteArray) :: (y5 :: ([] : List ByteArray)))))) ++ ((⟨((99 :: (117 :: (116 :: ([] : List UInt8))))).toArray⟩ : ByteArray) :: ([] : List ByteArray))) else E5 ((((List.length r0Bag)) : Nat) : Int) (0 : Int) (y0 :: (y2 :: (y4 :: ((⟨((105 :: (110 :: (99 :: ([] : List UInt8))))).toArray⟩ : ByteArray) :: (y5 :: ([] : List ByteArray)))))))))))))
noncomputable def label_Rec.f (fuel : Nat) (r0ID : Int) (r0Inc : Int) (r0Status : Int) (r0SpanLo : Int) (r0SpanHi : Int) (r0Cut : Bool) (r0Bag : List (Int × List Int)) : Option ByteArray := label_Rec.b r0ID r0Inc r0Status r0SpanLo r0SpanHi r0Cut r0Bag (label_Rec.l5 fuel r0ID r0Inc r0Status r0SpanLo r0SpanHi r0Cut r0Bag fuel)
theorem label_Rec.l5_eq (fuel : Nat) (r0ID : Int) (r0Inc : Int) (r0Status : Int) (r0SpanLo : Int) (r0SpanHi : Int) (r0Cut : Bool) (r0Bag : List (Int × List Int)) : ∀ (k : Nat) (x6 : Int) (x7 : Int) (x8 : (List ByteArray)), lp label_Rec_E fuel Try.f48 [.raw] 0 label_Rec.k 5 [] k (label_Rec.s5 r0ID r0Inc r0Status r0SpanLo r0SpanHi r0Cut r0Bag x6 x7 x8) = label_Rec.l5 fuel r0ID r0Inc r0Status r0SpanLo r0SpanHi r0Cut r0Bag k x6 x7 x8 := by
  intro k
  induction k with
  | zero => intro x6 x7 x8; rfl
  | succ k ih =>
    intro x6 x7 x8
    have h : lp label_Rec_E fuel Try.f48 [.raw] 0 label_Rec.k 5 [] (k + 1) (label_Rec.s5 r0ID r0Inc r0Status r0SpanLo r0SpanHi r0Cut r0Bag x6 x7 x8) = label_Rec.b5 r0ID r0Inc r0Status r0SpanLo r0SpanHi r0Cut r0Bag (fun x6 x7 x8 => lp label_Rec_E fuel Try.f48 [.raw] 0 label_Rec.k 5 [] k (label_Rec.s5 r0ID r0Inc r0Status r0SpanLo r0SpanHi r0Cut r0Bag x6 x7 x8)) x6 x7 x8 := by kernel_rfl
    rw [h]
    have e5 : (fun x6 x7 x8 => lp label_Rec_E fuel Try.f48 [.raw] 0 label_Rec.k 5 [] k (label_Rec.s5 r0ID r0Inc r0Status r0SpanLo r0SpanHi r0Cut r0Bag x6 x7 x8)) = label_Rec.l5 fuel r0ID r0Inc r0Status r0SpanLo r0SpanHi r0Cut r0Bag k := (funext fun x6 => (funext fun x7 => (funext fun x8 => ih x6 x7 x8)))
    rw [e5]
    rfl
theorem label_Rec.eq (fuel : Nat) (r0ID : Int) (r0Inc : Int) (r0Status : Int) (r0SpanLo : Int) (r0SpanHi : Int) (r0Cut : Bool) (r0Bag : List (Int × List Int)) : (denF label_Rec_E loopN fuel Try.f48 [.raw] [.agg [.d (.int .i64) r0ID, .d (.int .i64) r0Inc, .d (.int .i64) r0Status, .d (.int .i64) r0SpanLo, .d (.int .i64) r0SpanHi, .d .bool r0Cut, .d (.sl (.pair (.int .i64) (.sl (.int .u8)))) r0Bag]] [] label_Rec.k) = label_Rec.f fuel r0ID r0Inc r0Status r0SpanLo r0SpanHi r0Cut r0Bag := by
  have h : (denF label_Rec_E loopN fuel Try.f48 [.raw] [.agg [.d (.int .i64) r0ID, .d (.int .i64) r0Inc, .d (.int .i64) r0Status, .d (.int .i64) r0SpanLo, .d (.int .i64) r0SpanHi, .d .bool r0Cut, .d (.sl (.pair (.int .i64) (.sl (.int .u8)))) r0Bag]] [] label_Rec.k) = label_Rec.b r0ID r0Inc r0Status r0SpanLo r0SpanHi r0Cut r0Bag (fun x6 x7 x8 => lp label_Rec_E fuel Try.f48 [.raw] 0 label_Rec.k 5 [] fuel (label_Rec.s5 r0ID r0Inc r0Status r0SpanLo r0SpanHi r0Cut r0Bag x6 x7 x8)) := by kernel_rfl
  rw [h]
  have e5 : (fun x6 x7 x8 => lp label_Rec_E fuel Try.f48 [.raw] 0 label_Rec.k 5 [] fuel (label_Rec.s5 r0ID r0Inc r0Status r0SpanLo r0SpanHi r0Cut r0Bag x6 x7 x8)) = label_Rec.l5 fuel r0ID r0Inc r0Status r0SpanLo r0SpanHi r0Cut r0Bag fuel := (funext fun x6 => (funext fun x7 => (funext fun x8 => label_Rec.l5_eq fuel r0ID r0Inc r0Status r0SpanLo r0SpanHi r0Cut r0Bag fuel x6 x7 x8)))
  rw [e5]
  rfl
noncomputable def s_label_Rec : Den.Sum := ⟨[.dat (.pair (.int .i64) (.pair (.int .i64) (.pair (.int .i64) (.pair (.pair (.int .i64) (.int .i64)) (.pair .bool (.sl (.pair (.int .i64) (.sl (.int .u8))))))))) true], fun args objs κ => match args, objs with
  | [.agg [.d (.int .i64) r0ID, .d (.int .i64) r0Inc, .d (.int .i64) r0Status, .d (.int .i64) r0SpanLo, .d (.int .i64) r0SpanHi, .d .bool r0Cut, .d (.sl (.pair (.int .i64) (.sl (.int .u8)))) r0Bag]], [] => (match veil (label_Rec.f BIG r0ID r0Inc r0Status r0SpanLo r0SpanHi r0Cut r0Bag) with | none => none | some y => κ [.d .str y] [])
  | _, _ => none⟩
theorem s_label_Rec_det : SumDet s_label_Rec := fun avs objs R κ => by
  show s_label_Rec.run avs objs (two κ) = (s_label_Rec.run avs objs (two some)).bind κ
  unfold s_label_Rec
  simp only [veil_eq]
  split
  · split <;> rfl
  · rfl
theorem s_label_Rec_ok : SumOk Try.prog 48 s_label_Rec := by
  have hE : EnvOk Try.prog label_Rec_E := env_ok (l := [(46, s_label_Field), (52, s_label_Num), (84, s_label_or), (85, s_rec_Name), (86, s_span_Text), (87, s_joinS)]) th_ok any_ok ⟨⟨s_label_Field_ok, s_label_Field_det⟩, ⟨s_label_Num_ok, s_label_Num_det⟩, ⟨s_label_or_ok, s_label_or_det⟩, ⟨s_rec_Name_ok, s_rec_Name_det⟩, ⟨s_span_Text_ok, s_span_Text_det⟩, ⟨s_joinS_ok, s_joinS_det⟩, trivial⟩ _
  refine sum_ok hE Try.func48 rfl (by kernel_rfl) s_label_Rec [.raw] label_Rec.k ?_
  intro R avs objs κ r h
  unfold s_label_Rec at h
  simp only [veil_eq] at h
  split at h
  · rename_i r0ID r0Inc r0Status r0SpanLo r0SpanHi r0Cut r0Bag
    split at h
    · cases h
    · rename_i y hy
      refine ⟨BIG, _, _, _, (label_Rec.eq BIG r0ID r0Inc r0Status r0SpanLo r0SpanHi r0Cut r0Bag).trans hy, ?_, h⟩
      intro rs ros hk
      unfold label_Rec.k at hk
      split at hk
      · first | (cases hk; exact ⟨rfl, rfl⟩) | (have e := Option.some.inj hk; rw [← e]; exact ⟨rfl, rfl⟩)
      · cases hk
  · cases h
noncomputable def law40_awake_E : Env := ⟨th, gam [(48, s_label_Rec), (51, s_label_Msg), (54, s_label_Err)], fun i => ⟨[], [], []⟩⟩
noncomputable def law40_awake.k (rs : List AV) (os : List Den.Obj) : Option Bool :=
  match rs, os with
  | [.d .bool r0], [] => some r0
  | _, _ => none
noncomputable def law40_awake.b (u : Unit) : Option Bool :=
  (match (veil (label_Rec.f BIG (4 : Int) (3 : Int) (1 : Int) (1 : Int) (2 : Int) false (((40 : Int), ((10 : Int) :: ([] : List Int))) :: ([] : List (Int × (List Int)))))) with | none => none | some y0 => (if ((ByteArray.toList y0) == (ByteArray.toList (⟨((52 :: (32 :: (115 :: (117 :: (115 :: (112 :: (101 :: (99 :: (116 :: (32 :: (49 :: (45 :: (50 :: (32 :: (105 :: (110 :: (99 :: (32 :: (51 :: (32 :: (52 :: (48 :: (58 :: (48 :: (97 :: ([] : List UInt8))))))))))))))))))))))))))).toArray⟩ : ByteArray))) then (match (veil (label_Msg.f BIG (1 : Int) (5 : Int) 0 (1 : Int) (3 : Int) (7 : Int) 0 0 0 0 ([] : List (Int × (Int × (Int × ((Int × Int) × (Bool × (List (Int × (List Int))))))))))) with | none => none | some y1 => (if ((ByteArray.toList y1) == (ByteArray.toList (⟨((104 :: (101 :: (108 :: (108 :: (111 :: (32 :: (102 :: (114 :: (111 :: (109 :: (32 :: (53 :: (32 :: (105 :: (110 :: (99 :: (32 :: (48 :: (32 :: (115 :: (112 :: (97 :: (110 :: (32 :: (49 :: (45 :: (51 :: (32 :: (115 :: (101 :: (113 :: (32 :: (55 :: ([] : List UInt8))))))))))))))))))))))))))))))))))).toArray⟩ : ByteArray))) then (match (veil (label_Err.f BIG (9 : Int))) with | none => none | some y2 => some (((ByteArray.toList y2) == (ByteArray.toList (⟨((103 :: (101 :: (110 :: ([] : List UInt8))))).toArray⟩ : ByteArray))))) else some (false))) else some (false)))
noncomputable def law40_awake.f (fuel : Nat) (u : Unit) : Option Bool := law40_awake.b u
theorem law40_awake.eq (fuel : Nat) (u : Unit) : (denF law40_awake_E loopN fuel Try.f43 [.raw] [] [] law40_awake.k) = law40_awake.f fuel u := by
  kernel_rfl
noncomputable def s_law40_awake : Den.Sum := ⟨[], fun args objs κ => match args, objs with
  | [], [] => (match veil (law40_awake.f BIG ()) with | none => none | some y => κ [.d .bool y] [])
  | _, _ => none⟩
theorem s_law40_awake_det : SumDet s_law40_awake := fun avs objs R κ => by
  show s_law40_awake.run avs objs (two κ) = (s_law40_awake.run avs objs (two some)).bind κ
  unfold s_law40_awake
  simp only [veil_eq]
  split
  · split <;> rfl
  · rfl
theorem s_law40_awake_ok : SumOk Try.prog 43 s_law40_awake := by
  have hE : EnvOk Try.prog law40_awake_E := env_ok (l := [(48, s_label_Rec), (51, s_label_Msg), (54, s_label_Err)]) th_ok any_ok ⟨⟨s_label_Rec_ok, s_label_Rec_det⟩, ⟨s_label_Msg_ok, s_label_Msg_det⟩, ⟨s_label_Err_ok, s_label_Err_det⟩, trivial⟩ _
  refine sum_ok hE Try.func43 rfl (by kernel_rfl) s_law40_awake [.raw] law40_awake.k ?_
  intro R avs objs κ r h
  unfold s_law40_awake at h
  simp only [veil_eq] at h
  split at h
  · skip
    split at h
    · cases h
    · rename_i y hy
      refine ⟨BIG, _, _, _, (law40_awake.eq BIG ()).trans hy, ?_, h⟩
      intro rs ros hk
      unfold law40_awake.k at hk
      split at hk
      · first | (cases hk; exact ⟨rfl, rfl⟩) | (have e := Option.some.inj hk; rw [← e]; exact ⟨rfl, rfl⟩)
      · cases hk
  · cases h
abbrev wAlive : ByteArray := ⟨((97 :: (108 :: (105 :: (118 :: (101 :: ([] : List UInt8))))))).toArray⟩
abbrev wSuspect : ByteArray := ⟨((115 :: (117 :: (115 :: (112 :: (101 :: (99 :: (116 :: ([] : List UInt8))))))))).toArray⟩
abbrev wDead : ByteArray := ⟨((100 :: (101 :: (97 :: (100 :: ([] : List UInt8)))))).toArray⟩
abbrev wLeft : ByteArray := ⟨((108 :: (101 :: (102 :: (116 :: ([] : List UInt8)))))).toArray⟩
abbrev wQ : ByteArray := ⟨((63 :: ([] : List UInt8))).toArray⟩
abbrev wInc : ByteArray := ⟨((105 :: (110 :: (99 :: ([] : List UInt8))))).toArray⟩
abbrev wCut : ByteArray := ⟨((99 :: (117 :: (116 :: ([] : List UInt8))))).toArray⟩
noncomputable def stT (st : Int) : ByteArray := if st = 0 then wAlive else if st = 1 then wSuspect else if st = 2 then wDead else if st = 3 then wLeft else wQ
theorem or_empty : label_or.f BIG (⟨(([] : List UInt8)).toArray⟩ : ByteArray) = some wQ := by
  unfold label_or.f label_or.b
  simp
theorem or_word (w : ByteArray) (h : 0 < w.size) : label_or.f BIG w = some w := by
  unfold label_or.f label_or.b
  rw [if_neg]
  intro e
  have e := eq_of_beq e
  rw [toList_data, toList_data] at e
  have := congrArg List.length e
  have hsz : w.data.toList.length = w.size := by simp
  rw [hsz] at this
  have this : w.size = 0 := this
  omega
theorem stT_size (st : Int) : (stT st).size ≤ 7 ∧ 0 < (stT st).size := by
  unfold stT
  repeat' split
  all_goals exact ⟨by decide, by decide⟩
theorem spT_size (lo hi : Int) : (spT lo hi).size ≤ 3 := by
  unfold spT
  split <;> rw [strOf_size] <;> simp
theorem LStatus.pure (st : Int) : (match rec_Name.f BIG st with
    | none => none
    | some y => label_or.f BIG y) = some (stT st) := by
  unfold rec_Name.f rec_Name.b
  simp only [veil_eq]
  by_cases h0 : st < 0
  · rw [if_pos (by simpa using h0)]
    dsimp only
    rw [or_empty]
    unfold stT
    rw [if_neg (by omega), if_neg (by omega), if_neg (by omega), if_neg (by omega)]
  · rw [if_neg (by simpa using h0)]
    by_cases h3 : st > 3
    · rw [if_pos (by simpa using h3)]
      dsimp only
      rw [or_empty]
      unfold stT
      rw [if_neg (by omega), if_neg (by omega), if_neg (by omega), if_neg (by omega)]
    · rw [if_neg (by simpa using h3)]
      have : st = 0 ∨ st = 1 ∨ st = 2 ∨ st = 3 := by omega
      rcases this with rfl | rfl | rfl | rfl <;> exact or_word _ (by decide)
/-- the words of a record ahead of its fields -/
noncomputable def recW (r : REC) : List ByteArray := (numT r.1 :: (stT r.2.2.1 :: (spT r.2.2.2.1.1 r.2.2.2.1.2 :: (wInc :: (numT r.2.1 :: []))))) ++ (if r.2.2.2.2.1 = true then [wCut] else [])
noncomputable def recT (r : REC) : ByteArray := joinB (recW r ++ r.2.2.2.2.2.map fieldT) blank
theorem recW_ne (r : REC) : recW r ≠ [] := by unfold recW; simp
theorem blank_size : blank.size = 1 := rfl
theorem tailB_cons (s y : ByteArray) (r : List ByteArray) : tailB s (y :: r) = s ++ (y ++ tailB s r) := by
  apply ByteArray.ext
  rw [ByteArray.data_append, ByteArray.data_append]
  simp [tailB, Lib.joinTail]
theorem tailB_zero (s : ByteArray) : (tailB s []).size = 0 := by simp [tailB, Lib.joinTail, ByteArray.size]
theorem recW_size (r : REC) : (joinB (recW r) blank).size ≤ 100 := by
  have h1 := numT_size r.1
  have h2 := numT_size r.2.1
  have h3 := (stT_size r.2.2.1).1
  have h4 := spT_size r.2.2.2.1.1 r.2.2.2.1.2
  have h5 := blank_size
  have h6 : wInc.size = 3 := rfl
  have h7 : wCut.size = 3 := rfl
  unfold recW
  cases r.2.2.2.2.1 <;> simp only [if_true, Bool.false_eq_true, if_false, List.append_nil, List.cons_append, List.nil_append, joinB_cons, tailB_cons, app_size, tailB_zero] <;> omega
/-- a bag whose text is told -/
def bagN (b : LF) : Prop := b.length ≤ 1000 ∧ ∀ x ∈ b, (-9223372036854775808 ≤ x.1 ∧ x.1 < 9223372036854775808) ∧ isB x.2 ∧ x.2.length ≤ 10000
theorem take_size (W : List ByteArray) (hW : W ≠ []) (bag : LF) (hb : bagN bag) : ∀ i, i ≤ bag.length → (joinB (W ++ (bag.take i).map fieldT) blank).size ≤ (joinB W blank).size + i * 20100
  | 0, _ => by simp
  | i + 1, h => by
    have ih := take_size W hW bag hb i (by omega)
    have h1 := fieldT_size bag[i]
    have h2 := (hb.2 _ (List.getElem_mem (show i < bag.length by omega))).2.2
    have h3 := blank_size
    rw [List.take_succ_eq_append_getElem (by omega), List.map_append, List.map_cons, List.map_nil, ← List.append_assoc, joinB_snoc _ (by simp [hW]), app_size, app_size]
    omega
theorem LRec.loop (r : REC) (hb : bagN r.2.2.2.2.2) (fuel : Nat) : ∀ (m k i : Nat), i + m = r.2.2.2.2.2.length → m < k →
    label_Rec.l5 fuel r.1 r.2.1 r.2.2.1 r.2.2.2.1.1 r.2.2.2.1.2 r.2.2.2.2.1 r.2.2.2.2.2 k (r.2.2.2.2.2.length : Int) (i : Int) (recW r ++ (r.2.2.2.2.2.take i).map fieldT) = some (recT r) := by
  have hw : (recW r).length ≤ 6 := by unfold recW; split <;> simp
  intro m
  induction m with
  | zero =>
    intro k i hi hk
    obtain ⟨k, rfl⟩ : ∃ k', k = k' + 1 := ⟨k - 1, by omega⟩
    have hs := take_size (recW r) (recW_ne r) r.2.2.2.2.2 hb i (by omega)
    have h0 := recW_size r
    have hn := hb.1
    rw [label_Rec.l5]
    unfold label_Rec.b5 recT
    rw [if_neg (c := decide ((i : Int) < (r.2.2.2.2.2.length : Int)) = true) (by simp; omega)]
    rw [List.take_of_length_le (by omega)] at hs ⊢
    rw [if_pos (joinFits_of (s := blank) (by simp [recW_ne r]) (by simp; omega) (show (joinB (recW r ++ r.2.2.2.2.2.map fieldT) blank).size ≤ _ from by omega))]
  | succ m ih =>
    intro k i hi hk
    obtain ⟨k, rfl⟩ : ∃ k', k = k' + 1 := ⟨k - 1, by omega⟩
    have hlt : i < r.2.2.2.2.2.length := by omega
    have hn := hb.1
    obtain ⟨ht, hB, hl⟩ := hb.2 _ (List.getElem_mem hlt)
    have ih1 := ih k (i + 1) (by omega) (by omega)
    rw [List.take_succ_eq_append_getElem hlt, List.map_append, List.map_cons, List.map_nil, ← List.append_assoc] at ih1
    rw [label_Rec.l5]
    unfold label_Rec.b5
    simp only [veil_eq]
    rw [if_pos (c := decide ((i : Int) < (r.2.2.2.2.2.length : Int)) = true) (by simp; omega), idx_at, List.getElem?_eq_getElem hlt]
    dsimp only
    rw [LField.pure _ _ ht.1 ht.2 hB (by omega)]
    dsimp only
    rw [if_pos (by simp [lim]; omega), wrap_small _ (by omega) (by omega), show ((i : Int) + 1) = ((i + 1 : Nat) : Int) from by omega]
    exact ih1
theorem LRec.pure (r : REC) (hid : -9223372036854775808 ≤ r.1 ∧ r.1 < 9223372036854775808) (hinc : -9223372036854775808 ≤ r.2.1 ∧ r.2.1 < 9223372036854775808) (hb : bagN r.2.2.2.2.2) :
    label_Rec.f BIG r.1 r.2.1 r.2.2.1 r.2.2.2.1.1 r.2.2.2.1.2 r.2.2.2.2.1 r.2.2.2.2.2 = some (recT r) := by
  have hlp := LRec.loop r hb BIG r.2.2.2.2.2.length BIG 0 (by omega) (by rw [BIG_eq]; have := hb.1; omega)
  rw [List.take_zero, List.map_nil, List.append_nil] at hlp
  have h1 := LStatus.pure r.2.2.1
  have h2 := LSpan.pure r.2.2.2.1.1 r.2.2.2.1.2
  unfold label_Rec.f label_Rec.b
  simp only [veil_eq]
  rw [LNum.pure r.1 hid.1 hid.2]
  dsimp only
  revert h1 h2
  cases rec_Name.f BIG r.2.2.1 with
  | none => intro h1; cases h1
  | some y1 =>
    cases span_Text.f BIG r.2.2.2.1.1 r.2.2.2.1.2 with
    | none => intro _ h2; cases h2
    | some y3 =>
      intro h1 h2
      dsimp only at h1 h2 ⊢
      rw [h1]
      dsimp only
      rw [h2]
      dsimp only
      rw [LNum.pure r.2.1 hinc.1 hinc.2]
      dsimp only
      unfold recW at hlp
      cases hc : r.2.2.2.2.1 with
      | true =>
        rw [hc] at hlp
        rw [if_pos rfl] at hlp ⊢
        exact hlp
      | false =>
        rw [hc] at hlp
        rw [if_neg (by simp)] at hlp ⊢
        rw [List.append_nil] at hlp
        exact hlp
/-- the words of a message -/
noncomputable def nameT (k : Int) : ByteArray := if ((ofF k).1.toList == (⟨(([] : List UInt8)).toArray⟩ : ByteArray).toList) = true then wQ else (ofF k).1
abbrev wFrom : ByteArray := ⟨((102 :: (114 :: (111 :: (109 :: ([] : List UInt8)))))).toArray⟩
abbrev wSpan : ByteArray := ⟨((115 :: (112 :: (97 :: (110 :: ([] : List UInt8)))))).toArray⟩
abbrev wSeq : ByteArray := ⟨((115 :: (101 :: (113 :: ([] : List UInt8))))).toArray⟩
abbrev wTarget : ByteArray := ⟨((116 :: (97 :: (114 :: (103 :: (101 :: (116 :: ([] : List UInt8)))))))).toArray⟩
abbrev wLife : ByteArray := ⟨((108 :: (105 :: (102 :: (101 :: ([] : List UInt8)))))).toArray⟩
abbrev wEpoch : ByteArray := ⟨((101 :: (112 :: (111 :: (99 :: (104 :: ([] : List UInt8))))))).toArray⟩
abbrev wBase : ByteArray := ⟨((98 :: (97 :: (115 :: (101 :: ([] : List UInt8)))))).toArray⟩
noncomputable def msgW0 (k f i lo hi s : Int) : List ByteArray := (nameT k :: (wFrom :: (numT f :: (wInc :: (numT i :: (wSpan :: (spT lo hi :: []))))))) ++ (if hasF k 0 = true then [wSeq, numT s] else [])
noncomputable def msgW1 (k f i lo hi s t : Int) : List ByteArray := msgW0 k f i lo hi s ++ (if hasF k 1 = true then [wTarget, numT t] else [])
noncomputable def msgW2 (k f i lo hi s t l e : Int) : List ByteArray := msgW1 k f i lo hi s t ++ (if hasF k 2 = true then [wLife, numT l, wEpoch, numT e] else [])
noncomputable def msgW (k f i lo hi s t l e b : Int) : List ByteArray := msgW2 k f i lo hi s t l e ++ (if hasF k 3 = true then [wBase, numT b] else [])
noncomputable def msgT (k f i lo hi s t l e b : Int) : ByteArray := joinB (msgW k f i lo hi s t l e b) blank
theorem name_tab : (List.range 11).all (fun n => decide ((ofF (n : Int)).1.size ≤ 7)) = true := by kernel_rfl
theorem nameT_size (k : Int) : (nameT k).size ≤ 7 := by
  unfold nameT
  split
  · decide
  · by_cases h : k < 1 ∨ k > 9
    · unfold ofF
      rw [if_pos (by simp; omega)]
      decide
    · have := List.all_eq_true.1 name_tab k.toNat (by simp; omega)
      rw [show ((k.toNat : Nat) : Int) = k from by omega] at this
      simpa using this
noncomputable def law40_LabelMsgs_E : Env := ⟨th, gam [(17, s_few8), (43, s_law40_awake), (44, s_law40_num), (45, s_law40_spoken), (49, s_msg_Name), (50, s_has), (51, s_label_Msg)], fun i => if i = 6 then ⟨[1, 3], [], [777777]⟩ else if i = 9 then ⟨[1, 3], [], [777777]⟩ else if i = 11 then ⟨[1, 3], [], [777777]⟩ else if i = 13 then ⟨[1, 3], [], [777777]⟩ else if i = 15 then ⟨[1, 3], [], [777777]⟩ else ⟨[], [], []⟩⟩
noncomputable def law40_LabelMsgs.k (rs : List AV) (os : List Den.Obj) : Option Bool :=
  match rs, os with
  | [.d .bool r0], [] => some r0
  | _, _ => none
noncomputable def law40_LabelMsgs.s15 (mKind : Int) (mFrom : Int) (mInc : Int) (mSpanLo : Int) (mSpanHi : Int) (mSeq : Int) (mTarget : Int) (mLife : Int) (mEpoch : Int) (mBase : Int) (mRecs : List (Int × Int × Int × (Int × Int) × Bool × List (Int × List Int))) (x14 : ByteArray) : St := ⟨[.dead, .ptr 64 0, .dead, .d .str x14, .dead, .dead, .dead, .dead, .dead, .dead, .dead, .dead, .dead, .dead, .dead, .dead, .dead, .dead, .dead, .dead, .dead, .dead, .dead, .dead, .dead, .dead, .dead, .dead, .dead, .dead, .dead, .dead, .dead, .dead, .dead, .dead, .dead, .dead, .dead, .dead, .dead, .dead, .dead, .dead, .dead, .dead, .dead, .dead, .dead, .dead, .dead, .dead, .dead, .dead, .dead, .dead, .dead, .dead, .dead, .dead, .dead, .dead, .dead, .dead, .dead, .dead, .dead, .dead, .dead, .dead, .dead, .dead, .dead, .dead, .dead, .dead, .dead, .dead], ofL [(64, .box [.d (.int .i64) (mKind), .d (.int .i64) (mFrom), .d (.int .i64) (mInc), .d (.int .i64) (mSpanLo), .d (.int .i64) (mSpanHi), .d (.int .i64) (mSeq), .d (.int .i64) (mTarget), .d (.int .i64) (mLife), .d (.int .i64) (mEpoch), .d (.int .i64) (mBase), .d (.sl (.pair (.int .i64) (.pair (.int .i64) (.pair (.int .i64) (.pair (.pair (.int .i64) (.int .i64)) (.pair .bool (.sl (.pair (.int .i64) (.sl (.int .u8)))))))))) (mRecs)])], 0⟩
noncomputable def law40_LabelMsgs.b15 (mKind : Int) (mFrom : Int) (mInc : Int) (mSpanLo : Int) (mSpanHi : Int) (mSeq : Int) (mTarget : Int) (mLife : Int) (mEpoch : Int) (mBase : Int) (mRecs : List (Int × Int × Int × (Int × Int) × Bool × List (Int × List Int))) (A15 : ByteArray → Option Bool) (x14 : ByteArray) : Option Bool :=
  (match (veil (label_Msg.f BIG mKind mFrom mInc mSpanLo mSpanHi mSeq mTarget mLife mEpoch mBase mRecs)) with | none => none | some y15 => (if ((ByteArray.toList y15) == (ByteArray.toList x14)) then (match (veil (law40_awake.f BIG ())) with | none => none | some y16 => some (y16)) else some (false)))
noncomputable def law40_LabelMsgs.l15 (fuel : Nat) (mKind : Int) (mFrom : Int) (mInc : Int) (mSpanLo : Int) (mSpanHi : Int) (mSeq : Int) (mTarget : Int) (mLife : Int) (mEpoch : Int) (mBase : Int) (mRecs : List (Int × Int × Int × (Int × Int) × Bool × List (Int × List Int))) : Nat → ByteArray → Option Bool
  | 0, _ => none
  | k + 1, x14 => law40_LabelMsgs.b15 mKind mFrom mInc mSpanLo mSpanHi mSeq mTarget mLife mEpoch mBase mRecs (law40_LabelMsgs.l15 fuel mKind mFrom mInc mSpanLo mSpanHi mSeq mTarget mLife mEpoch mBase mRecs k) x14
noncomputable def law40_LabelMsgs.s13 (mKind : Int) (mFrom : Int) (mInc : Int) (mSpanLo : Int) (mSpanHi : Int) (mSeq : Int) (mTarget : Int) (mLife : Int) (mEpoch : Int) (mBase : Int) (mRecs : List (Int × Int × Int × (Int × Int) × Bool × List (Int × List Int))) (x12 : ByteArray) : St := ⟨[.dead, .ptr 64 0, .dead, .d .str x12, .dead, .dead, .dead, .dead, .dead, .dead, .dead, .dead, .dead, .dead, .dead, .dead, .dead, .dead, .dead, .dead, .dead, .dead, .dead, .dead, .dead, .dead, .dead, .dead, .dead, .dead, .dead, .dead, .dead, .dead, .dead, .dead, .dead, .dead, .dead, .dead, .dead, .dead, .dead, .dead, .dead, .dead, .dead, .dead, .dead, .dead, .dead, .dead, .dead, .dead, .dead, .dead, .dead, .dead, .dead, .dead, .dead, .dead, .dead, .dead, .dead, .dead, .dead, .dead, .dead, .dead, .dead, .dead, .dead, .dead, .dead, .dead, .dead, .dead], ofL [(64, .box [.d (.int .i64) (mKind), .d (.int .i64) (mFrom), .d (.int .i64) (mInc), .d (.int .i64) (mSpanLo), .d (.int .i64) (mSpanHi), .d (.int .i64) (mSeq), .d (.int .i64) (mTarget), .d (.int .i64) (mLife), .d (.int .i64) (mEpoch), .d (.int .i64) (mBase), .d (.sl (.pair (.int .i64) (.pair (.int .i64) (.pair (.int .i64) (.pair (.pair (.int .i64) (.int .i64)) (.pair .bool (.sl (.pair (.int .i64) (.sl (.int .u8)))))))))) (mRecs)])], 0⟩
noncomputable def law40_LabelMsgs.b13 (mKind : Int) (mFrom : Int) (mInc : Int) (mSpanLo : Int) (mSpanHi : Int) (mSeq : Int) (mTarget : Int) (mLife : Int) (mEpoch : Int) (mBase : Int) (mRecs : List (Int × Int × Int × (Int × Int) × Bool × List (Int × List Int))) (A13 : ByteArray → Option Bool) (E15 : ByteArray → Option Bool) (x12 : ByteArray) : Option Bool :=
  (if (hasF mKind (3 : Int)) then (if (((ByteArray.size x12) + (ByteArray.size (⟨((32 :: (98 :: (97 :: (115 :: (101 :: (32 :: ([] : List UInt8)))))))).toArray⟩ : ByteArray))) ≤ (1099511627776 : Nat)) then (match (veil (law40_num.it (64 : Nat) mBase)) with | none => none | some y13 => (if (((ByteArray.size (x12 ++ (⟨((32 :: (98 :: (97 :: (115 :: (101 :: (32 :: ([] : List UInt8)))))))).toArray⟩ : ByteArray))) + (ByteArray.size y13)) ≤ (1099511627776 : Nat)) then E15 ((x12 ++ (⟨((32 :: (98 :: (97 :: (115 :: (101 :: (32 :: ([] : List UInt8)))))))).toArray⟩ : ByteArray)) ++ y13) else none)) else none) else E15 x12)
noncomputable def law40_LabelMsgs.l13 (fuel : Nat) (mKind : Int) (mFrom : Int) (mInc : Int) (mSpanLo : Int) (mSpanHi : Int) (mSeq : Int) (mTarget : Int) (mLife : Int) (mEpoch : Int) (mBase : Int) (mRecs : List (Int × Int × Int × (Int × Int) × Bool × List (Int × List Int))) : Nat → ByteArray → Option Bool
  | 0, _ => none
  | k + 1, x12 => law40_LabelMsgs.b13 mKind mFrom mInc mSpanLo mSpanHi mSeq mTarget mLife mEpoch mBase mRecs (law40_LabelMsgs.l13 fuel mKind mFrom mInc mSpanLo mSpanHi mSeq mTarget mLife mEpoch mBase mRecs k) (law40_LabelMsgs.l15 fuel mKind mFrom mInc mSpanLo mSpanHi mSeq mTarget mLife mEpoch mBase mRecs fuel) x12
noncomputable def law40_LabelMsgs.s11 (mKind : Int) (mFrom : Int) (mInc : Int) (mSpanLo : Int) (mSpanHi : Int) (mSeq : Int) (mTarget : Int) (mLife : Int) (mEpoch : Int) (mBase : Int) (mRecs : List (Int × Int × Int × (Int × Int) × Bool × List (Int × List Int))) (x9 : ByteArray) : St := ⟨[.dead, .ptr 64 0, .dead, .d .str x9, .dead, .dead, .dead, .dead, .dead, .dead, .dead, .dead, .dead, .dead, .dead, .dead, .dead, .dead, .dead, .dead, .dead, .dead, .dead, .dead, .dead, .dead, .dead, .dead, .dead, .dead, .dead, .dead, .dead, .dead, .dead, .dead, .dead, .dead, .dead, .dead, .dead, .dead, .dead, .dead, .dead, .dead, .dead, .dead, .dead, .dead, .dead, .dead, .dead, .dead, .dead, .dead, .dead, .dead, .dead, .dead, .dead, .dead, .dead, .dead, .dead, .dead, .dead, .dead, .dead, .dead, .dead, .dead, .dead, .dead, .dead, .dead, .dead, .dead], ofL [(64, .box [.d (.int .i64) (mKind), .d (.int .i64) (mFrom), .d (.int .i64) (mInc), .d (.int .i64) (mSpanLo), .d (.int .i64) (mSpanHi), .d (.int .i64) (mSeq), .d (.int .i64) (mTarget), .d (.int .i64) (mLife), .d (.int .i64) (mEpoch), .d (.int .i64) (mBase), .d (.sl (.pair (.int .i64) (.pair (.int .i64) (.pair (.int .i64) (.pair (.pair (.int .i64) (.int .i64)) (.pair .bool (.sl (.pair (.int .i64) (.sl (.int .u8)))))))))) (mRecs)])], 0⟩
noncomputable def law40_LabelMsgs.b11 (mKind : Int) (mFrom : Int) (mInc : Int) (mSpanLo : Int) (mSpanHi : Int) (mSeq : Int) (mTarget : Int) (mLife : Int) (mEpoch : Int) (mBase : Int) (mRecs : List (Int × Int × Int × (Int × Int) × Bool × List (Int × List Int))) (A11 : ByteArray → Option Bool) (E13 : ByteArray → Option Bool) (x9 : ByteArray) : Option Bool :=
  (if (hasF mKind (2 : Int)) then (if (((ByteArray.size x9) + (ByteArray.size (⟨((32 :: (108 :: (105 :: (102 :: (101 :: (32 :: ([] : List UInt8)))))))).toArray⟩ : ByteArray))) ≤ (1099511627776 : Nat)) then (match (veil (law40_num.it (64 : Nat) mLife)) with | none => none | some y10 => (if (((ByteArray.size (x9 ++ (⟨((32 :: (108 :: (105 :: (102 :: (101 :: (32 :: ([] : List UInt8)))))))).toArray⟩ : ByteArray))) + (ByteArray.size y10)) ≤ (1099511627776 : Nat)) then (if (((ByteArray.size ((x9 ++ (⟨((32 :: (108 :: (105 :: (102 :: (101 :: (32 :: ([] : List UInt8)))))))).toArray⟩ : ByteArray)) ++ y10)) + (ByteArray.size (⟨((32 :: (101 :: (112 :: (111 :: (99 :: (104 :: (32 :: ([] : List UInt8))))))))).toArray⟩ : ByteArray))) ≤ (1099511627776 : Nat)) then (match (veil (law40_num.it (64 : Nat) mEpoch)) with | none => none | some y11 => (if (((ByteArray.size (((x9 ++ (⟨((32 :: (108 :: (105 :: (102 :: (101 :: (32 :: ([] : List UInt8)))))))).toArray⟩ : ByteArray)) ++ y10) ++ (⟨((32 :: (101 :: (112 :: (111 :: (99 :: (104 :: (32 :: ([] : List UInt8))))))))).toArray⟩ : ByteArray))) + (ByteArray.size y11)) ≤ (1099511627776 : Nat)) then E13 ((((x9 ++ (⟨((32 :: (108 :: (105 :: (102 :: (101 :: (32 :: ([] : List UInt8)))))))).toArray⟩ : ByteArray)) ++ y10) ++ (⟨((32 :: (101 :: (112 :: (111 :: (99 :: (104 :: (32 :: ([] : List UInt8))))))))).toArray⟩ : ByteArray)) ++ y11) else none)) else none) else none)) else none) else E13 x9)
noncomputable def law40_LabelMsgs.l11 (fuel : Nat) (mKind : Int) (mFrom : Int) (mInc : Int) (mSpanLo : Int) (mSpanHi : Int) (mSeq : Int) (mTarget : Int) (mLife : Int) (mEpoch : Int) (mBase : Int) (mRecs : List (Int × Int × Int × (Int × Int) × Bool × List (Int × List Int))) : Nat → ByteArray → Option Bool
  | 0, _ => none
  | k + 1, x9 => law40_LabelMsgs.b11 mKind mFrom mInc mSpanLo mSpanHi mSeq mTarget mLife mEpoch mBase mRecs (law40_LabelMsgs.l11 fuel mKind mFrom mInc mSpanLo mSpanHi mSeq mTarget mLife mEpoch mBase mRecs k) (law40_LabelMsgs.l13 fuel mKind mFrom mInc mSpanLo mSpanHi mSeq mTarget mLife mEpoch mBase mRecs fuel) x9
noncomputable def law40_LabelMsgs.s9 (mKind : Int) (mFrom : Int) (mInc : Int) (mSpanLo : Int) (mSpanHi : Int) (mSeq : Int) (mTarget : Int) (mLife : Int) (mEpoch : Int) (mBase : Int) (mRecs : List (Int × Int × Int × (Int × Int) × Bool × List (Int × List Int))) (x7 : ByteArray) : St := ⟨[.dead, .ptr 64 0, .dead, .d .str x7, .dead, .dead, .dead, .dead, .dead, .dead, .dead, .dead, .dead, .dead, .dead, .dead, .dead, .dead, .dead, .dead, .dead, .dead, .dead, .dead, .dead, .dead, .dead, .dead, .dead, .dead, .dead, .dead, .dead, .dead, .dead, .dead, .dead, .dead, .dead, .dead, .dead, .dead, .dead, .dead, .dead, .dead, .dead, .dead, .dead, .dead, .dead, .dead, .dead, .dead, .dead, .dead, .dead, .dead, .dead, .dead, .dead, .dead, .dead, .dead, .dead, .dead, .dead, .dead, .dead, .dead, .dead, .dead, .dead, .dead, .dead, .dead, .dead, .dead], ofL [(64, .box [.d (.int .i64) (mKind), .d (.int .i64) (mFrom), .d (.int .i64) (mInc), .d (.int .i64) (mSpanLo), .d (.int .i64) (mSpanHi), .d (.int .i64) (mSeq), .d (.int .i64) (mTarget), .d (.int .i64) (mLife), .d (.int .i64) (mEpoch), .d (.int .i64) (mBase), .d (.sl (.pair (.int .i64) (.pair (.int .i64) (.pair (.int .i64) (.pair (.pair (.int .i64) (.int .i64)) (.pair .bool (.sl (.pair (.int .i64) (.sl (.int .u8)))))))))) (mRecs)])], 0⟩
noncomputable def law40_LabelMsgs.b9 (mKind : Int) (mFrom : Int) (mInc : Int) (mSpanLo : Int) (mSpanHi : Int) (mSeq : Int) (mTarget : Int) (mLife : Int) (mEpoch : Int) (mBase : Int) (mRecs : List (Int × Int × Int × (Int × Int) × Bool × List (Int × List Int))) (A9 : ByteArray → Option Bool) (E11 : ByteArray → Option Bool) (x7 : ByteArray) : Option Bool :=
  (if (hasF mKind (1 : Int)) then (if (((ByteArray.size x7) + (ByteArray.size (⟨((32 :: (116 :: (97 :: (114 :: (103 :: (101 :: (116 :: (32 :: ([] : List UInt8)))))))))).toArray⟩ : ByteArray))) ≤ (1099511627776 : Nat)) then (match (veil (law40_num.it (64 : Nat) mTarget)) with | none => none | some y8 => (if (((ByteArray.size (x7 ++ (⟨((32 :: (116 :: (97 :: (114 :: (103 :: (101 :: (116 :: (32 :: ([] : List UInt8)))))))))).toArray⟩ : ByteArray))) + (ByteArray.size y8)) ≤ (1099511627776 : Nat)) then E11 ((x7 ++ (⟨((32 :: (116 :: (97 :: (114 :: (103 :: (101 :: (116 :: (32 :: ([] : List UInt8)))))))))).toArray⟩ : ByteArray)) ++ y8) else none)) else none) else E11 x7)
noncomputable def law40_LabelMsgs.l9 (fuel : Nat) (mKind : Int) (mFrom : Int) (mInc : Int) (mSpanLo : Int) (mSpanHi : Int) (mSeq : Int) (mTarget : Int) (mLife : Int) (mEpoch : Int) (mBase : Int) (mRecs : List (Int × Int × Int × (Int × Int) × Bool × List (Int × List Int))) : Nat → ByteArray → Option Bool
  | 0, _ => none
  | k + 1, x7 => law40_LabelMsgs.b9 mKind mFrom mInc mSpanLo mSpanHi mSeq mTarget mLife mEpoch mBase mRecs (law40_LabelMsgs.l9 fuel mKind mFrom mInc mSpanLo mSpanHi mSeq mTarget mLife mEpoch mBase mRecs k) (law40_LabelMsgs.l11 fuel mKind mFrom mInc mSpanLo mSpanHi mSeq mTarget mLife mEpoch mBase mRecs fuel) x7
noncomputable def law40_LabelMsgs.s6 (mKind : Int) (mFrom : Int) (mInc : Int) (mSpanLo : Int) (mSpanHi : Int) (mSeq : Int) (mTarget : Int) (mLife : Int) (mEpoch : Int) (mBase : Int) (mRecs : List (Int × Int × Int × (Int × Int) × Bool × List (Int × List Int))) (x2 : ByteArray) : St := ⟨[.dead, .ptr 64 0, .dead, .d .str x2, .dead, .dead, .dead, .dead, .dead, .dead, .dead, .dead, .dead, .dead, .dead, .dead, .dead, .dead, .dead, .dead, .dead, .dead, .dead, .dead, .dead, .dead, .dead, .dead, .dead, .dead, .dead, .dead, .dead, .dead, .dead, .dead, .dead, .dead, .dead, .dead, .dead, .dead, .dead, .dead, .dead, .dead, .dead, .dead, .dead, .dead, .dead, .dead, .dead, .dead, .dead, .dead, .dead, .dead, .dead, .dead, .dead, .dead, .dead, .dead, .dead, .dead, .dead, .dead, .dead, .dead, .dead, .dead, .dead, .dead, .dead, .dead, .dead, .dead], ofL [(64, .box [.d (.int .i64) (mKind), .d (.int .i64) (mFrom), .d (.int .i64) (mInc), .d (.int .i64) (mSpanLo), .d (.int .i64) (mSpanHi), .d (.int .i64) (mSeq), .d (.int .i64) (mTarget), .d (.int .i64) (mLife), .d (.int .i64) (mEpoch), .d (.int .i64) (mBase), .d (.sl (.pair (.int .i64) (.pair (.int .i64) (.pair (.int .i64) (.pair (.pair (.int .i64) (.int .i64)) (.pair .bool (.sl (.pair (.int .i64) (.sl (.int .u8)))))))))) (mRecs)])], 0⟩
noncomputable def law40_LabelMsgs.b6 (mKind : Int) (mFrom : Int) (mInc : Int) (mSpanLo : Int) (mSpanHi : Int) (mSeq : Int) (mTarget : Int) (mLife : Int) (mEpoch : Int) (mBase : Int) (mRecs : List (Int × Int × Int × (Int × Int) × Bool × List (Int × List Int))) (A6 : ByteArray → Option Bool) (E9 : ByteArray → Option Bool) (x2 : ByteArray) : Option Bool :=
  (if (((ByteArray.size x2) + (ByteArray.size (⟨((32 :: (102 :: (114 :: (111 :: (109 :: (32 :: ([] : List UInt8)))))))).toArray⟩ : ByteArray))) ≤ (1099511627776 : Nat)) then (match (veil (law40_num.it (64 : Nat) mFrom)) with | none => none | some y3 => (if (((ByteArray.size (x2 ++ (⟨((32 :: (102 :: (114 :: (111 :: (109 :: (32 :: ([] : List UInt8)))))))).toArray⟩ : ByteArray))) + (ByteArray.size y3)) ≤ (1099511627776 : Nat)) then (if (((ByteArray.size ((x2 ++ (⟨((32 :: (102 :: (114 :: (111 :: (109 :: (32 :: ([] : List UInt8)))))))).toArray⟩ : ByteArray)) ++ y3)) + (ByteArray.size (⟨((32 :: (105 :: (110 :: (99 :: (32 :: ([] : List UInt8))))))).toArray⟩ : ByteArray))) ≤ (1099511627776 : Nat)) then (match (veil (law40_num.it (64 : Nat) mInc)) with | none => none | some y4 => (if (((ByteArray.size (((x2 ++ (⟨((32 :: (102 :: (114 :: (111 :: (109 :: (32 :: ([] : List UInt8)))))))).toArray⟩ : ByteArray)) ++ y3) ++ (⟨((32 :: (105 :: (110 :: (99 :: (32 :: ([] : List UInt8))))))).toArray⟩ : ByteArray))) + (ByteArray.size y4)) ≤ (1099511627776 : Nat)) then (if (((ByteArray.size ((((x2 ++ (⟨((32 :: (102 :: (114 :: (111 :: (109 :: (32 :: ([] : List UInt8)))))))).toArray⟩ : ByteArray)) ++ y3) ++ (⟨((32 :: (105 :: (110 :: (99 :: (32 :: ([] : List UInt8))))))).toArray⟩ : ByteArray)) ++ y4)) + (ByteArray.size (⟨((32 :: (115 :: (112 :: (97 :: (110 :: (32 :: ([] : List UInt8)))))))).toArray⟩ : ByteArray))) ≤ (1099511627776 : Nat)) then (match (veil (law40_spoken.f BIG mSpanLo mSpanHi)) with | none => none | some y5 => (if (((ByteArray.size (((((x2 ++ (⟨((32 :: (102 :: (114 :: (111 :: (109 :: (32 :: ([] : List UInt8)))))))).toArray⟩ : ByteArray)) ++ y3) ++ (⟨((32 :: (105 :: (110 :: (99 :: (32 :: ([] : List UInt8))))))).toArray⟩ : ByteArray)) ++ y4) ++ (⟨((32 :: (115 :: (112 :: (97 :: (110 :: (32 :: ([] : List UInt8)))))))).toArray⟩ : ByteArray))) + (ByteArray.size y5)) ≤ (1099511627776 : Nat)) then (if (hasF mKind (0 : Int)) then (if (((ByteArray.size ((((((x2 ++ (⟨((32 :: (102 :: (114 :: (111 :: (109 :: (32 :: ([] : List UInt8)))))))).toArray⟩ : ByteArray)) ++ y3) ++ (⟨((32 :: (105 :: (110 :: (99 :: (32 :: ([] : List UInt8))))))).toArray⟩ : ByteArray)) ++ y4) ++ (⟨((32 :: (115 :: (112 :: (97 :: (110 :: (32 :: ([] : List UInt8)))))))).toArray⟩ : ByteArray)) ++ y5)) + (ByteArray.size (⟨((32 :: (115 :: (101 :: (113 :: (32 :: ([] : List UInt8))))))).toArray⟩ : ByteArray))) ≤ (1099511627776 : Nat)) then (match (veil (law40_num.it (64 : Nat) mSeq)) with | none => none | some y6 => (if (((ByteArray.size (((((((x2 ++ (⟨((32 :: (102 :: (114 :: (111 :: (109 :: (32 :: ([] : List UInt8)))))))).toArray⟩ : ByteArray)) ++ y3) ++ (⟨((32 :: (105 :: (110 :: (99 :: (32 :: ([] : List UInt8))))))).toArray⟩ : ByteArray)) ++ y4) ++ (⟨((32 :: (115 :: (112 :: (97 :: (110 :: (32 :: ([] : List UInt8)))))))).toArray⟩ : ByteArray)) ++ y5) ++ (⟨((32 :: (115 :: (101 :: (113 :: (32 :: ([] : List UInt8))))))).toArray⟩ : ByteArray))) + (ByteArray.size y6)) ≤ (1099511627776 : Nat)) then E9 ((((((((x2 ++ (⟨((32 :: (102 :: (114 :: (111 :: (109 :: (32 :: ([] : List UInt8)))))))).toArray⟩ : ByteArray)) ++ y3) ++ (⟨((32 :: (105 :: (110 :: (99 :: (32 :: ([] : List UInt8))))))).toArray⟩ : ByteArray)) ++ y4) ++ (⟨((32 :: (115 :: (112 :: (97 :: (110 :: (32 :: ([] : List UInt8)))))))).toArray⟩ : ByteArray)) ++ y5) ++ (⟨((32 :: (115 :: (101 :: (113 :: (32 :: ([] : List UInt8))))))).toArray⟩ : ByteArray)) ++ y6) else none)) else none) else E9 ((((((x2 ++ (⟨((32 :: (102 :: (114 :: (111 :: (109 :: (32 :: ([] : List UInt8)))))))).toArray⟩ : ByteArray)) ++ y3) ++ (⟨((32 :: (105 :: (110 :: (99 :: (32 :: ([] : List UInt8))))))).toArray⟩ : ByteArray)) ++ y4) ++ (⟨((32 :: (115 :: (112 :: (97 :: (110 :: (32 :: ([] : List UInt8)))))))).toArray⟩ : ByteArray)) ++ y5)) else none)) else none) else none)) else none) else none)) else none)
noncomputable def law40_LabelMsgs.l6 (fuel : Nat) (mKind : Int) (mFrom : Int) (mInc : Int) (mSpanLo : Int) (mSpanHi : Int) (mSeq : Int) (mTarget : Int) (mLife : Int) (mEpoch : Int) (mBase : Int) (mRecs : List (Int × Int × Int × (Int × Int) × Bool × List (Int × List Int))) : Nat → ByteArray → Option Bool
  | 0, _ => none
  | k + 1, x2 => law40_LabelMsgs.b6 mKind mFrom mInc mSpanLo mSpanHi mSeq mTarget mLife mEpoch mBase mRecs (law40_LabelMsgs.l6 fuel mKind mFrom mInc mSpanLo mSpanHi mSeq mTarget mLife mEpoch mBase mRecs k) (law40_LabelMsgs.l9 fuel mKind mFrom mInc mSpanLo mSpanHi mSeq mTarget mLife mEpoch mBase mRecs fuel) x2
noncomputable def law40_LabelMsgs.b (mKind : Int) (mFrom : Int) (mInc : Int) (mSpanLo : Int) (mSpanHi : Int) (mSeq : Int) (mTarget : Int) (mLife : Int) (mEpoch : Int) (mBase : Int) (mRecs : List (Int × Int × Int × (Int × Int) × Bool × List (Int × List Int))) (E6 : ByteArray → Option Bool) : Option Bool :=
  (if (smallRecs mRecs) then (if (!(few8 mRecs)) then (match (veil (law40_awake.f BIG ())) with | none => none | some y0 => some (y0)) else (match (veil (msg_Name.f BIG mKind)) with | none => none | some y1 => (if ((ByteArray.toList y1) == (ByteArray.toList (⟨(([] : List UInt8)).toArray⟩ : ByteArray))) then E6 (⟨((63 :: ([] : List UInt8))).toArray⟩ : ByteArray) else E6 y1))) else none)
noncomputable def law40_LabelMsgs.f (fuel : Nat) (mKind : Int) (mFrom : Int) (mInc : Int) (mSpanLo : Int) (mSpanHi : Int) (mSeq : Int) (mTarget : Int) (mLife : Int) (mEpoch : Int) (mBase : Int) (mRecs : List (Int × Int × Int × (Int × Int) × Bool × List (Int × List Int))) : Option Bool := law40_LabelMsgs.b mKind mFrom mInc mSpanLo mSpanHi mSeq mTarget mLife mEpoch mBase mRecs (law40_LabelMsgs.l6 fuel mKind mFrom mInc mSpanLo mSpanHi mSeq mTarget mLife mEpoch mBase mRecs fuel)
theorem law40_LabelMsgs.l15_eq (fuel : Nat) (mKind : Int) (mFrom : Int) (mInc : Int) (mSpanLo : Int) (mSpanHi : Int) (mSeq : Int) (mTarget : Int) (mLife : Int) (mEpoch : Int) (mBase : Int) (mRecs : List (Int × Int × Int × (Int × Int) × Bool × List (Int × List Int))) : ∀ (k : Nat) (x14 : ByteArray), lp law40_LabelMsgs_E fuel Try.f14 [.raw] 0 law40_LabelMsgs.k 15 [] k (law40_LabelMsgs.s15 mKind mFrom mInc mSpanLo mSpanHi mSeq mTarget mLife mEpoch mBase mRecs x14) = law40_LabelMsgs.l15 fuel mKind mFrom mInc mSpanLo mSpanHi mSeq mTarget mLife mEpoch mBase mRecs k x14 := by
  intro k
  induction k with
  | zero => intro x14; rfl
  | succ k ih =>
    intro x14
    have h : lp law40_LabelMsgs_E fuel Try.f14 [.raw] 0 law40_LabelMsgs.k 15 [] (k + 1) (law40_LabelMsgs.s15 mKind mFrom mInc mSpanLo mSpanHi mSeq mTarget mLife mEpoch mBase mRecs x14) = law40_LabelMsgs.b15 mKind mFrom mInc mSpanLo mSpanHi mSeq mTarget mLife mEpoch mBase mRecs (fun x14 => lp law40_LabelMsgs_E fuel Try.f14 [.raw] 0 law40_LabelMsgs.k 15 [] k (law40_LabelMsgs.s15 mKind mFrom mInc mSpanLo mSpanHi mSeq mTarget mLife mEpoch mBase mRecs x14)) x14 := by kernel_rfl
    rw [h]
    have e15 : (fun x14 => lp law40_LabelMsgs_E fuel Try.f14 [.raw] 0 law40_LabelMsgs.k 15 [] k (law40_LabelMsgs.s15 mKind mFrom mInc mSpanLo mSpanHi mSeq mTarget mLife mEpoch mBase mRecs x14)) = law40_LabelMsgs.l15 fuel mKind mFrom mInc mSpanLo mSpanHi mSeq mTarget mLife mEpoch mBase mRecs k := (funext fun x14 => ih x14)
    rw [e15]
    rfl
theorem law40_LabelMsgs.l13_eq (fuel : Nat) (mKind : Int) (mFrom : Int) (mInc : Int) (mSpanLo : Int) (mSpanHi : Int) (mSeq : Int) (mTarget : Int) (mLife : Int) (mEpoch : Int) (mBase : Int) (mRecs : List (Int × Int × Int × (Int × Int) × Bool × List (Int × List Int))) : ∀ (k : Nat) (x12 : ByteArray), lp law40_LabelMsgs_E fuel Try.f14 [.raw] 0 law40_LabelMsgs.k 13 [] k (law40_LabelMsgs.s13 mKind mFrom mInc mSpanLo mSpanHi mSeq mTarget mLife mEpoch mBase mRecs x12) = law40_LabelMsgs.l13 fuel mKind mFrom mInc mSpanLo mSpanHi mSeq mTarget mLife mEpoch mBase mRecs k x12 := by
  intro k
  induction k with
  | zero => intro x12; rfl
  | succ k ih =>
    intro x12
    have h : lp law40_LabelMsgs_E fuel Try.f14 [.raw] 0 law40_LabelMsgs.k 13 [] (k + 1) (law40_LabelMsgs.s13 mKind mFrom mInc mSpanLo mSpanHi mSeq mTarget mLife mEpoch mBase mRecs x12) = law40_LabelMsgs.b13 mKind mFrom mInc mSpanLo mSpanHi mSeq mTarget mLife mEpoch mBase mRecs (fun x12 => lp law40_LabelMsgs_E fuel Try.f14 [.raw] 0 law40_LabelMsgs.k 13 [] k (law40_LabelMsgs.s13 mKind mFrom mInc mSpanLo mSpanHi mSeq mTarget mLife mEpoch mBase mRecs x12)) (fun x14 => lp law40_LabelMsgs_E fuel Try.f14 [.raw] 0 law40_LabelMsgs.k 15 [] fuel (law40_LabelMsgs.s15 mKind mFrom mInc mSpanLo mSpanHi mSeq mTarget mLife mEpoch mBase mRecs x14)) x12 := by kernel_rfl
    rw [h]
    have e13 : (fun x12 => lp law40_LabelMsgs_E fuel Try.f14 [.raw] 0 law40_LabelMsgs.k 13 [] k (law40_LabelMsgs.s13 mKind mFrom mInc mSpanLo mSpanHi mSeq mTarget mLife mEpoch mBase mRecs x12)) = law40_LabelMsgs.l13 fuel mKind mFrom mInc mSpanLo mSpanHi mSeq mTarget mLife mEpoch mBase mRecs k := (funext fun x12 => ih x12)
    rw [e13]
    have e15 : (fun x14 => lp law40_LabelMsgs_E fuel Try.f14 [.raw] 0 law40_LabelMsgs.k 15 [] fuel (law40_LabelMsgs.s15 mKind mFrom mInc mSpanLo mSpanHi mSeq mTarget mLife mEpoch mBase mRecs x14)) = law40_LabelMsgs.l15 fuel mKind mFrom mInc mSpanLo mSpanHi mSeq mTarget mLife mEpoch mBase mRecs fuel := (funext fun x14 => law40_LabelMsgs.l15_eq fuel mKind mFrom mInc mSpanLo mSpanHi mSeq mTarget mLife mEpoch mBase mRecs fuel x14)
    rw [e15]
    rfl
theorem law40_LabelMsgs.l11_eq (fuel : Nat) (mKind : Int) (mFrom : Int) (mInc : Int) (mSpanLo : Int) (mSpanHi : Int) (mSeq : Int) (mTarget : Int) (mLife : Int) (mEpoch : Int) (mBase : Int) (mRecs : List (Int × Int × Int × (Int × Int) × Bool × List (Int × List Int))) : ∀ (k : Nat) (x9 : ByteArray), lp law40_LabelMsgs_E fuel Try.f14 [.raw] 0 law40_LabelMsgs.k 11 [] k (law40_LabelMsgs.s11 mKind mFrom mInc mSpanLo mSpanHi mSeq mTarget mLife mEpoch mBase mRecs x9) = law40_LabelMsgs.l11 fuel mKind mFrom mInc mSpanLo mSpanHi mSeq mTarget mLife mEpoch mBase mRecs k x9 := by
  intro k
  induction k with
  | zero => intro x9; rfl
  | succ k ih =>
    intro x9
    have h : lp law40_LabelMsgs_E fuel Try.f14 [.raw] 0 law40_LabelMsgs.k 11 [] (k + 1) (law40_LabelMsgs.s11 mKind mFrom mInc mSpanLo mSpanHi mSeq mTarget mLife mEpoch mBase mRecs x9) = law40_LabelMsgs.b11 mKind mFrom mInc mSpanLo mSpanHi mSeq mTarget mLife mEpoch mBase mRecs (fun x9 => lp law40_LabelMsgs_E fuel Try.f14 [.raw] 0 law40_LabelMsgs.k 11 [] k (law40_LabelMsgs.s11 mKind mFrom mInc mSpanLo mSpanHi mSeq mTarget mLife mEpoch mBase mRecs x9)) (fun x12 => lp law40_LabelMsgs_E fuel Try.f14 [.raw] 0 law40_LabelMsgs.k 13 [] fuel (law40_LabelMsgs.s13 mKind mFrom mInc mSpanLo mSpanHi mSeq mTarget mLife mEpoch mBase mRecs x12)) x9 := by kernel_rfl
    rw [h]
    have e11 : (fun x9 => lp law40_LabelMsgs_E fuel Try.f14 [.raw] 0 law40_LabelMsgs.k 11 [] k (law40_LabelMsgs.s11 mKind mFrom mInc mSpanLo mSpanHi mSeq mTarget mLife mEpoch mBase mRecs x9)) = law40_LabelMsgs.l11 fuel mKind mFrom mInc mSpanLo mSpanHi mSeq mTarget mLife mEpoch mBase mRecs k := (funext fun x9 => ih x9)
    rw [e11]
    have e13 : (fun x12 => lp law40_LabelMsgs_E fuel Try.f14 [.raw] 0 law40_LabelMsgs.k 13 [] fuel (law40_LabelMsgs.s13 mKind mFrom mInc mSpanLo mSpanHi mSeq mTarget mLife mEpoch mBase mRecs x12)) = law40_LabelMsgs.l13 fuel mKind mFrom mInc mSpanLo mSpanHi mSeq mTarget mLife mEpoch mBase mRecs fuel := (funext fun x12 => law40_LabelMsgs.l13_eq fuel mKind mFrom mInc mSpanLo mSpanHi mSeq mTarget mLife mEpoch mBase mRecs fuel x12)
    rw [e13]
    rfl
theorem law40_LabelMsgs.l9_eq (fuel : Nat) (mKind : Int) (mFrom : Int) (mInc : Int) (mSpanLo : Int) (mSpanHi : Int) (mSeq : Int) (mTarget : Int) (mLife : Int) (mEpoch : Int) (mBase : Int) (mRecs : List (Int × Int × Int × (Int × Int) × Bool × List (Int × List Int))) : ∀ (k : Nat) (x7 : ByteArray), lp law40_LabelMsgs_E fuel Try.f14 [.raw] 0 law40_LabelMsgs.k 9 [] k (law40_LabelMsgs.s9 mKind mFrom mInc mSpanLo mSpanHi mSeq mTarget mLife mEpoch mBase mRecs x7) = law40_LabelMsgs.l9 fuel mKind mFrom mInc mSpanLo mSpanHi mSeq mTarget mLife mEpoch mBase mRecs k x7 := by
  intro k
  induction k with
  | zero => intro x7; rfl
  | succ k ih =>
    intro x7
    have h : lp law40_LabelMsgs_E fuel Try.f14 [.raw] 0 law40_LabelMsgs.k 9 [] (k + 1) (law40_LabelMsgs.s9 mKind mFrom mInc mSpanLo mSpanHi mSeq mTarget mLife mEpoch mBase mRecs x7) = law40_LabelMsgs.b9 mKind mFrom mInc mSpanLo mSpanHi mSeq mTarget mLife mEpoch mBase mRecs (fun x7 => lp law40_LabelMsgs_E fuel Try.f14 [.raw] 0 law40_LabelMsgs.k 9 [] k (law40_LabelMsgs.s9 mKind mFrom mInc mSpanLo mSpanHi mSeq mTarget mLife mEpoch mBase mRecs x7)) (fun x9 => lp law40_LabelMsgs_E fuel Try.f14 [.raw] 0 law40_LabelMsgs.k 11 [] fuel (law40_LabelMsgs.s11 mKind mFrom mInc mSpanLo mSpanHi mSeq mTarget mLife mEpoch mBase mRecs x9)) x7 := by kernel_rfl
    rw [h]
    have e9 : (fun x7 => lp law40_LabelMsgs_E fuel Try.f14 [.raw] 0 law40_LabelMsgs.k 9 [] k (law40_LabelMsgs.s9 mKind mFrom mInc mSpanLo mSpanHi mSeq mTarget mLife mEpoch mBase mRecs x7)) = law40_LabelMsgs.l9 fuel mKind mFrom mInc mSpanLo mSpanHi mSeq mTarget mLife mEpoch mBase mRecs k := (funext fun x7 => ih x7)
    rw [e9]
    have e11 : (fun x9 => lp law40_LabelMsgs_E fuel Try.f14 [.raw] 0 law40_LabelMsgs.k 11 [] fuel (law40_LabelMsgs.s11 mKind mFrom mInc mSpanLo mSpanHi mSeq mTarget mLife mEpoch mBase mRecs x9)) = law40_LabelMsgs.l11 fuel mKind mFrom mInc mSpanLo mSpanHi mSeq mTarget mLife mEpoch mBase mRecs fuel := (funext fun x9 => law40_LabelMsgs.l11_eq fuel mKind mFrom mInc mSpanLo mSpanHi mSeq mTarget mLife mEpoch mBase mRecs fuel x9)
    rw [e11]
    rfl
theorem law40_LabelMsgs.l6_eq (fuel : Nat) (mKind : Int) (mFrom : Int) (mInc : Int) (mSpanLo : Int) (mSpanHi : Int) (mSeq : Int) (mTarget : Int) (mLife : Int) (mEpoch : Int) (mBase : Int) (mRecs : List (Int × Int × Int × (Int × Int) × Bool × List (Int × List Int))) : ∀ (k : Nat) (x2 : ByteArray), lp law40_LabelMsgs_E fuel Try.f14 [.raw] 0 law40_LabelMsgs.k 6 [] k (law40_LabelMsgs.s6 mKind mFrom mInc mSpanLo mSpanHi mSeq mTarget mLife mEpoch mBase mRecs x2) = law40_LabelMsgs.l6 fuel mKind mFrom mInc mSpanLo mSpanHi mSeq mTarget mLife mEpoch mBase mRecs k x2 := by
  intro k
  induction k with
  | zero => intro x2; rfl
  | succ k ih =>
    intro x2
    have h : lp law40_LabelMsgs_E fuel Try.f14 [.raw] 0 law40_LabelMsgs.k 6 [] (k + 1) (law40_LabelMsgs.s6 mKind mFrom mInc mSpanLo mSpanHi mSeq mTarget mLife mEpoch mBase mRecs x2) = law40_LabelMsgs.b6 mKind mFrom mInc mSpanLo mSpanHi mSeq mTarget mLife mEpoch mBase mRecs (fun x2 => lp law40_LabelMsgs_E fuel Try.f14 [.raw] 0 law40_LabelMsgs.k 6 [] k (law40_LabelMsgs.s6 mKind mFrom mInc mSpanLo mSpanHi mSeq mTarget mLife mEpoch mBase mRecs x2)) (fun x7 => lp law40_LabelMsgs_E fuel Try.f14 [.raw] 0 law40_LabelMsgs.k 9 [] fuel (law40_LabelMsgs.s9 mKind mFrom mInc mSpanLo mSpanHi mSeq mTarget mLife mEpoch mBase mRecs x7)) x2 := by kernel_rfl
    rw [h]
    have e6 : (fun x2 => lp law40_LabelMsgs_E fuel Try.f14 [.raw] 0 law40_LabelMsgs.k 6 [] k (law40_LabelMsgs.s6 mKind mFrom mInc mSpanLo mSpanHi mSeq mTarget mLife mEpoch mBase mRecs x2)) = law40_LabelMsgs.l6 fuel mKind mFrom mInc mSpanLo mSpanHi mSeq mTarget mLife mEpoch mBase mRecs k := (funext fun x2 => ih x2)
    rw [e6]
    have e9 : (fun x7 => lp law40_LabelMsgs_E fuel Try.f14 [.raw] 0 law40_LabelMsgs.k 9 [] fuel (law40_LabelMsgs.s9 mKind mFrom mInc mSpanLo mSpanHi mSeq mTarget mLife mEpoch mBase mRecs x7)) = law40_LabelMsgs.l9 fuel mKind mFrom mInc mSpanLo mSpanHi mSeq mTarget mLife mEpoch mBase mRecs fuel := (funext fun x7 => law40_LabelMsgs.l9_eq fuel mKind mFrom mInc mSpanLo mSpanHi mSeq mTarget mLife mEpoch mBase mRecs fuel x7)
    rw [e9]
    rfl
theorem law40_LabelMsgs.eq (fuel : Nat) (mKind : Int) (mFrom : Int) (mInc : Int) (mSpanLo : Int) (mSpanHi : Int) (mSeq : Int) (mTarget : Int) (mLife : Int) (mEpoch : Int) (mBase : Int) (mRecs : List (Int × Int × Int × (Int × Int) × Bool × List (Int × List Int))) : (denF law40_LabelMsgs_E loopN fuel Try.f14 [.raw] [.agg [.d (.int .i64) mKind, .d (.int .i64) mFrom, .d (.int .i64) mInc, .d (.int .i64) mSpanLo, .d (.int .i64) mSpanHi, .d (.int .i64) mSeq, .d (.int .i64) mTarget, .d (.int .i64) mLife, .d (.int .i64) mEpoch, .d (.int .i64) mBase, .d (.sl (.pair (.int .i64) (.pair (.int .i64) (.pair (.int .i64) (.pair (.pair (.int .i64) (.int .i64)) (.pair .bool (.sl (.pair (.int .i64) (.sl (.int .u8)))))))))) mRecs]] [] law40_LabelMsgs.k) = law40_LabelMsgs.f fuel mKind mFrom mInc mSpanLo mSpanHi mSeq mTarget mLife mEpoch mBase mRecs := by
  have h : (denF law40_LabelMsgs_E loopN fuel Try.f14 [.raw] [.agg [.d (.int .i64) mKind, .d (.int .i64) mFrom, .d (.int .i64) mInc, .d (.int .i64) mSpanLo, .d (.int .i64) mSpanHi, .d (.int .i64) mSeq, .d (.int .i64) mTarget, .d (.int .i64) mLife, .d (.int .i64) mEpoch, .d (.int .i64) mBase, .d (.sl (.pair (.int .i64) (.pair (.int .i64) (.pair (.int .i64) (.pair (.pair (.int .i64) (.int .i64)) (.pair .bool (.sl (.pair (.int .i64) (.sl (.int .u8)))))))))) mRecs]] [] law40_LabelMsgs.k) = law40_LabelMsgs.b mKind mFrom mInc mSpanLo mSpanHi mSeq mTarget mLife mEpoch mBase mRecs (fun x2 => lp law40_LabelMsgs_E fuel Try.f14 [.raw] 0 law40_LabelMsgs.k 6 [] fuel (law40_LabelMsgs.s6 mKind mFrom mInc mSpanLo mSpanHi mSeq mTarget mLife mEpoch mBase mRecs x2)) := by kernel_rfl
  rw [h]
  have e6 : (fun x2 => lp law40_LabelMsgs_E fuel Try.f14 [.raw] 0 law40_LabelMsgs.k 6 [] fuel (law40_LabelMsgs.s6 mKind mFrom mInc mSpanLo mSpanHi mSeq mTarget mLife mEpoch mBase mRecs x2)) = law40_LabelMsgs.l6 fuel mKind mFrom mInc mSpanLo mSpanHi mSeq mTarget mLife mEpoch mBase mRecs fuel := (funext fun x2 => law40_LabelMsgs.l6_eq fuel mKind mFrom mInc mSpanLo mSpanHi mSeq mTarget mLife mEpoch mBase mRecs fuel x2)
  rw [e6]
  rfl
theorem law40_LabelMsgs.l15_at (fuel nN kK : Nat) (hN : nN = kK + 1) (mKind : Int) (mFrom : Int) (mInc : Int) (mSpanLo : Int) (mSpanHi : Int) (mSeq : Int) (mTarget : Int) (mLife : Int) (mEpoch : Int) (mBase : Int) (mRecs : List (Int × Int × Int × (Int × Int) × Bool × List (Int × List Int))) (x14 : ByteArray) : law40_LabelMsgs.l15 fuel mKind mFrom mInc mSpanLo mSpanHi mSeq mTarget mLife mEpoch mBase mRecs nN x14 = law40_LabelMsgs.b15 mKind mFrom mInc mSpanLo mSpanHi mSeq mTarget mLife mEpoch mBase mRecs (law40_LabelMsgs.l15 fuel mKind mFrom mInc mSpanLo mSpanHi mSeq mTarget mLife mEpoch mBase mRecs kK) x14 := by
  subst hN
  rfl
theorem law40_LabelMsgs.l13_at (fuel nN kK : Nat) (hN : nN = kK + 1) (mKind : Int) (mFrom : Int) (mInc : Int) (mSpanLo : Int) (mSpanHi : Int) (mSeq : Int) (mTarget : Int) (mLife : Int) (mEpoch : Int) (mBase : Int) (mRecs : List (Int × Int × Int × (Int × Int) × Bool × List (Int × List Int))) (x12 : ByteArray) : law40_LabelMsgs.l13 fuel mKind mFrom mInc mSpanLo mSpanHi mSeq mTarget mLife mEpoch mBase mRecs nN x12 = law40_LabelMsgs.b13 mKind mFrom mInc mSpanLo mSpanHi mSeq mTarget mLife mEpoch mBase mRecs (law40_LabelMsgs.l13 fuel mKind mFrom mInc mSpanLo mSpanHi mSeq mTarget mLife mEpoch mBase mRecs kK) (law40_LabelMsgs.l15 fuel mKind mFrom mInc mSpanLo mSpanHi mSeq mTarget mLife mEpoch mBase mRecs fuel) x12 := by
  subst hN
  rfl
theorem law40_LabelMsgs.l11_at (fuel nN kK : Nat) (hN : nN = kK + 1) (mKind : Int) (mFrom : Int) (mInc : Int) (mSpanLo : Int) (mSpanHi : Int) (mSeq : Int) (mTarget : Int) (mLife : Int) (mEpoch : Int) (mBase : Int) (mRecs : List (Int × Int × Int × (Int × Int) × Bool × List (Int × List Int))) (x9 : ByteArray) : law40_LabelMsgs.l11 fuel mKind mFrom mInc mSpanLo mSpanHi mSeq mTarget mLife mEpoch mBase mRecs nN x9 = law40_LabelMsgs.b11 mKind mFrom mInc mSpanLo mSpanHi mSeq mTarget mLife mEpoch mBase mRecs (law40_LabelMsgs.l11 fuel mKind mFrom mInc mSpanLo mSpanHi mSeq mTarget mLife mEpoch mBase mRecs kK) (law40_LabelMsgs.l13 fuel mKind mFrom mInc mSpanLo mSpanHi mSeq mTarget mLife mEpoch mBase mRecs fuel) x9 := by
  subst hN
  rfl
theorem law40_LabelMsgs.l9_at (fuel nN kK : Nat) (hN : nN = kK + 1) (mKind : Int) (mFrom : Int) (mInc : Int) (mSpanLo : Int) (mSpanHi : Int) (mSeq : Int) (mTarget : Int) (mLife : Int) (mEpoch : Int) (mBase : Int) (mRecs : List (Int × Int × Int × (Int × Int) × Bool × List (Int × List Int))) (x7 : ByteArray) : law40_LabelMsgs.l9 fuel mKind mFrom mInc mSpanLo mSpanHi mSeq mTarget mLife mEpoch mBase mRecs nN x7 = law40_LabelMsgs.b9 mKind mFrom mInc mSpanLo mSpanHi mSeq mTarget mLife mEpoch mBase mRecs (law40_LabelMsgs.l9 fuel mKind mFrom mInc mSpanLo mSpanHi mSeq mTarget mLife mEpoch mBase mRecs kK) (law40_LabelMsgs.l11 fuel mKind mFrom mInc mSpanLo mSpanHi mSeq mTarget mLife mEpoch mBase mRecs fuel) x7 := by
  subst hN
  rfl
theorem law40_LabelMsgs.l6_at (fuel nN kK : Nat) (hN : nN = kK + 1) (mKind : Int) (mFrom : Int) (mInc : Int) (mSpanLo : Int) (mSpanHi : Int) (mSeq : Int) (mTarget : Int) (mLife : Int) (mEpoch : Int) (mBase : Int) (mRecs : List (Int × Int × Int × (Int × Int) × Bool × List (Int × List Int))) (x2 : ByteArray) : law40_LabelMsgs.l6 fuel mKind mFrom mInc mSpanLo mSpanHi mSeq mTarget mLife mEpoch mBase mRecs nN x2 = law40_LabelMsgs.b6 mKind mFrom mInc mSpanLo mSpanHi mSeq mTarget mLife mEpoch mBase mRecs (law40_LabelMsgs.l6 fuel mKind mFrom mInc mSpanLo mSpanHi mSeq mTarget mLife mEpoch mBase mRecs kK) (law40_LabelMsgs.l9 fuel mKind mFrom mInc mSpanLo mSpanHi mSeq mTarget mLife mEpoch mBase mRecs fuel) x2 := by
  subst hN
  rfl
def i64R (v : Int) : Prop := -9223372036854775808 ≤ v ∧ v < 9223372036854775808
theorem msgW_ne (k f i lo hi s t l e b : Int) : msgW k f i lo hi s t l e b ≠ [] := by unfold msgW msgW2 msgW1 msgW0; simp
theorem two_size (X : List ByteArray) (hX : X ≠ []) (w y : ByteArray) (hw : w.size ≤ 7) (hy : y.size ≤ 20) (c : Bool) : (joinB (X ++ if c = true then [w, y] else []) blank).size ≤ (joinB X blank).size + 40 := by
  have b1 := blank_size
  cases c with
  | false => simp
  | true =>
    rw [if_pos rfl, joinB_two X hX, app_size, app_size, app_size, app_size]
    omega
theorem msgW0_size (k f i lo hi s : Int) : (joinB (msgW0 k f i lo hi s) blank).size ≤ 200 := by
  have h1 := numT_size f
  have h2 := numT_size i
  have h3 := nameT_size k
  have h4 := spT_size lo hi
  have h5 := numT_size s
  have b1 := blank_size
  have c1 : wFrom.size = 4 := rfl
  have c2 : wInc.size = 3 := rfl
  have c3 : wSpan.size = 4 := rfl
  unfold msgW0
  refine Nat.le_trans (two_size _ (by simp) wSeq (numT s) (by decide) h5 (hasF k 0)) ?_
  simp only [joinB_cons, tailB_cons, app_size, tailB_zero]
  omega
theorem msgW0_ne (k f i lo hi s : Int) : msgW0 k f i lo hi s ≠ [] := by unfold msgW0; simp
theorem msgW_facts (k f i lo hi s t l e b : Int) : (msgW k f i lo hi s t l e b).length ≤ 20 ∧ (msgT k f i lo hi s t l e b).size ≤ 500 := by
  have h0 := msgW0_size k f i lo hi s
  have n0 := msgW0_ne k f i lo hi s
  have h1 := two_size _ n0 wTarget (numT t) (by decide) (numT_size t) (hasF k 1)
  have n1 : msgW1 k f i lo hi s t ≠ [] := by unfold msgW1; simp [n0]
  have h2 := two_size _ n1 wLife (numT l) (by decide) (numT_size l) (hasF k 2)
  have n2 : (msgW1 k f i lo hi s t ++ if hasF k 2 = true then [wLife, numT l] else []) ≠ [] := by simp [n1]
  have h3 := two_size _ n2 wEpoch (numT e) (by decide) (numT_size e) (hasF k 2)
  have e2 : msgW2 k f i lo hi s t l e = (msgW1 k f i lo hi s t ++ if hasF k 2 = true then [wLife, numT l] else []) ++ if hasF k 2 = true then [wEpoch, numT e] else [] := by
    unfold msgW2
    cases hasF k 2 <;> simp
  have n3 : msgW2 k f i lo hi s t l e ≠ [] := by unfold msgW2; simp [n1]
  rw [← e2] at h3
  have h4 := two_size _ n3 wBase (numT b) (by decide) (numT_size b) (hasF k 3)
  have h1 : (joinB (msgW1 k f i lo hi s t) blank).size ≤ (joinB (msgW0 k f i lo hi s) blank).size + 40 := h1
  have h4 : (joinB (msgW k f i lo hi s t l e b) blank).size ≤ (joinB (msgW2 k f i lo hi s t l e) blank).size + 40 := h4
  constructor
  · unfold msgW msgW2 msgW1 msgW0
    cases hasF k 0 <;> cases hasF k 1 <;> cases hasF k 2 <;> cases hasF k 3 <;> simp
  · unfold msgT
    omega
theorem LMsg.pure (k f i lo hi s t l e b : Int) (recs : LR) (hf : i64R f) (hi' : i64R i) (hs : i64R s) (ht : i64R t) (hl : i64R l) (he : i64R e) (hb : i64R b) :
    label_Msg.f BIG k f i lo hi s t l e b recs = some (msgT k f i lo hi s t l e b) := by
  have e10 : ∀ X : List ByteArray, label_Msg.l10 BIG k f i lo hi s t l e b recs BIG X = if joinFits X blank = true then some (joinB X blank) else none := by
    intro X
    rw [label_Msg.l10_at BIG BIG (BIG - 1) big_eq]
    rfl
  have e8 : ∀ X : List ByteArray, X.length ≤ 50 → label_Msg.l8 BIG k f i lo hi s t l e b recs BIG X = label_Msg.l10 BIG k f i lo hi s t l e b recs BIG (X ++ if hasF k 3 = true then [wBase, numT b] else []) := by
    intro X hX
    rw [label_Msg.l8_at BIG BIG (BIG - 1) big_eq]
    unfold label_Msg.b8
    simp only [veil_eq]
    cases hasF k 3 with
    | false => simp only [Bool.false_eq_true, if_false, List.append_nil]
    | true =>
      rw [if_pos rfl, if_pos rfl, LNum.pure b hb.1 hb.2]
      dsimp only
      rw [if_pos (by simp [lim]; omega)]
  have e6 : ∀ X : List ByteArray, X.length ≤ 40 → label_Msg.l6 BIG k f i lo hi s t l e b recs BIG X = label_Msg.l8 BIG k f i lo hi s t l e b recs BIG (X ++ if hasF k 2 = true then [wLife, numT l, wEpoch, numT e] else []) := by
    intro X hX
    rw [label_Msg.l6_at BIG BIG (BIG - 1) big_eq]
    unfold label_Msg.b6
    simp only [veil_eq]
    cases hasF k 2 with
    | false => simp only [Bool.false_eq_true, if_false, List.append_nil]
    | true =>
      rw [if_pos rfl, if_pos rfl, LNum.pure l hl.1 hl.2]
      dsimp only
      rw [LNum.pure e he.1 he.2]
      dsimp only
      rw [if_pos (by simp [lim]; omega)]
  have e4 : ∀ X : List ByteArray, X.length ≤ 30 → label_Msg.l4 BIG k f i lo hi s t l e b recs BIG X = label_Msg.l6 BIG k f i lo hi s t l e b recs BIG (X ++ if hasF k 1 = true then [wTarget, numT t] else []) := by
    intro X hX
    rw [label_Msg.l4_at BIG BIG (BIG - 1) big_eq]
    unfold label_Msg.b4
    simp only [veil_eq]
    cases hasF k 1 with
    | false => simp only [Bool.false_eq_true, if_false, List.append_nil]
    | true =>
      rw [if_pos rfl, if_pos rfl, LNum.pure t ht.1 ht.2]
      dsimp only
      rw [if_pos (by simp [lim]; omega)]
  have hW0 : (msgW0 k f i lo hi s).length ≤ 9 := by unfold msgW0; split <;> simp
  have hW1 : (msgW1 k f i lo hi s t).length ≤ 11 := by unfold msgW1; split <;> simp <;> omega
  have hW2 : (msgW2 k f i lo hi s t l e).length ≤ 15 := by unfold msgW2; split <;> simp <;> omega
  have hfin : label_Msg.l4 BIG k f i lo hi s t l e b recs BIG (msgW0 k f i lo hi s) = some (msgT k f i lo hi s t l e b) := by
    rw [e4 _ (by omega)]
    show label_Msg.l6 BIG k f i lo hi s t l e b recs BIG (msgW1 k f i lo hi s t) = _
    rw [e6 _ (by omega)]
    show label_Msg.l8 BIG k f i lo hi s t l e b recs BIG (msgW2 k f i lo hi s t l e) = _
    rw [e8 _ (by omega)]
    show label_Msg.l10 BIG k f i lo hi s t l e b recs BIG (msgW k f i lo hi s t l e b) = _
    obtain ⟨w1, w2⟩ := msgW_facts k f i lo hi s t l e b
    rw [e10, if_pos (joinFits_of (msgW_ne k f i lo hi s t l e b) (by omega) (by unfold msgT at w2; omega))]
    rfl
  have h2 := LSpan.pure lo hi
  have hor : label_or.f BIG (ofF k).1 = some (nameT k) := by
    unfold label_or.f label_or.b nameT
    split <;> rfl
  unfold label_Msg.f label_Msg.b
  simp only [veil_eq]
  rw [show msg_Name.f BIG k = some (ofF k).1 from rfl]
  dsimp only
  rw [hor]
  dsimp only
  rw [LNum.pure f hf.1 hf.2]
  dsimp only
  rw [LNum.pure i hi'.1 hi'.2]
  dsimp only
  revert h2
  cases span_Text.f BIG lo hi with
  | none => intro h2; cases h2
  | some y3 =>
    intro h2
    dsimp only at h2 ⊢
    rw [h2]
    dsimp only
    unfold msgW0 at hfin
    cases h0 : hasF k 0 with
    | true =>
      rw [h0] at hfin
      rw [if_pos rfl] at hfin ⊢
      rw [LNum.pure s hs.1 hs.2]
      exact hfin
    | false =>
      rw [h0] at hfin
      rw [if_neg (by simp)] at hfin ⊢
      rw [List.append_nil] at hfin
      exact hfin
theorem lit_ext (a b : ByteArray) (h : a.data.toList = b.data.toList) : a = b := by
  apply ByteArray.ext
  exact Array.ext' h
theorem Awake40.pure : law40_awake.f BIG () = some true := by
  unfold law40_awake.f law40_awake.b
  simp only [veil_eq]
  have h1 := LRec.pure (4, 3, 1, (1, 2), false, [(40, [10])]) ⟨by decide, by decide⟩ ⟨by decide, by decide⟩ ⟨by simp, fun x hx => by rw [List.mem_singleton.1 hx]; exact ⟨⟨by decide, by decide⟩, by unfold isB; decide, by decide⟩⟩
  have h2 := LMsg.pure 1 5 0 1 3 7 0 0 0 0 [] ⟨by decide, by decide⟩ ⟨by decide, by decide⟩ ⟨by decide, by decide⟩ ⟨by decide, by decide⟩ ⟨by decide, by decide⟩ ⟨by decide, by decide⟩ ⟨by decide, by decide⟩
  dsimp only at h1
  rw [h1, h2]
  have e1 : recT (4, 3, 1, (1, 2), false, [(40, [10])]) = (⟨((52 :: (32 :: (115 :: (117 :: (115 :: (112 :: (101 :: (99 :: (116 :: (32 :: (49 :: (45 :: (50 :: (32 :: (105 :: (110 :: (99 :: (32 :: (51 :: (32 :: (52 :: (48 :: (58 :: (48 :: (97 :: ([] : List UInt8))))))))))))))))))))))))))).toArray⟩ : ByteArray) := lit_ext _ _ (by kernel_rfl)
  have e2 : msgT 1 5 0 1 3 7 0 0 0 0 = (⟨((104 :: (101 :: (108 :: (108 :: (111 :: (32 :: (102 :: (114 :: (111 :: (109 :: (32 :: (53 :: (32 :: (105 :: (110 :: (99 :: (32 :: (48 :: (32 :: (115 :: (112 :: (97 :: (110 :: (32 :: (49 :: (45 :: (51 :: (32 :: (115 :: (101 :: (113 :: (32 :: (55 :: ([] : List UInt8))))))))))))))))))))))))))))))))))).toArray⟩ : ByteArray) := lit_ext _ _ (by kernel_rfl)
  rw [e1, e2]
  have e3 : label_Err.f BIG 9 = some (⟨((103 :: (101 :: (110 :: ([] : List UInt8))))).toArray⟩ : ByteArray) := by
    unfold label_Err.f label_Err.b
    simp only [veil_eq]
    rfl
  rw [e3]
  simp
theorem good_int {v : Int} (h : Go.Den.Good (.int .i64) v) : i64R v := by
  have h2 : (Lit.int .i64 v).wf = true := h
  simp [Lit.wf, IntKind.min, IntKind.max, IntKind.signed, IntKind.bits] at h2
  exact ⟨by omega, by omega⟩
theorem lit_inc : (⟨((32 :: (105 :: (110 :: (99 :: (32 :: ([] : List UInt8))))))).toArray⟩ : ByteArray) = blank ++ (wInc ++ blank) := lit_ext _ _ (by kernel_rfl)
theorem lit_from : (⟨((32 :: (102 :: (114 :: (111 :: (109 :: (32 :: ([] : List UInt8)))))))).toArray⟩ : ByteArray) = blank ++ (wFrom ++ blank) := lit_ext _ _ (by kernel_rfl)
theorem lit_span : (⟨((32 :: (115 :: (112 :: (97 :: (110 :: (32 :: ([] : List UInt8)))))))).toArray⟩ : ByteArray) = blank ++ (wSpan ++ blank) := lit_ext _ _ (by kernel_rfl)
theorem lit_seq : (⟨((32 :: (115 :: (101 :: (113 :: (32 :: ([] : List UInt8))))))).toArray⟩ : ByteArray) = blank ++ (wSeq ++ blank) := lit_ext _ _ (by kernel_rfl)
theorem lit_target : (⟨((32 :: (116 :: (97 :: (114 :: (103 :: (101 :: (116 :: (32 :: ([] : List UInt8)))))))))).toArray⟩ : ByteArray) = blank ++ (wTarget ++ blank) := lit_ext _ _ (by kernel_rfl)
theorem lit_life : (⟨((32 :: (108 :: (105 :: (102 :: (101 :: (32 :: ([] : List UInt8)))))))).toArray⟩ : ByteArray) = blank ++ (wLife ++ blank) := lit_ext _ _ (by kernel_rfl)
theorem lit_epoch : (⟨((32 :: (101 :: (112 :: (111 :: (99 :: (104 :: (32 :: ([] : List UInt8))))))))).toArray⟩ : ByteArray) = blank ++ (wEpoch ++ blank) := lit_ext _ _ (by kernel_rfl)
theorem lit_base : (⟨((32 :: (98 :: (97 :: (115 :: (101 :: (32 :: ([] : List UInt8)))))))).toArray⟩ : ByteArray) = blank ++ (wBase ++ blank) := lit_ext _ _ (by kernel_rfl)
theorem LawMsg13 (k f i lo hi s t l e b : Int) (recs : LR) (hb : i64R b) (X : List ByteArray) (hX : X ≠ []) (hsz : (joinB X blank).size ≤ 1000) : law40_LabelMsgs.l13 BIG k f i lo hi s t l e b recs BIG (joinB X blank) = law40_LabelMsgs.l15 BIG k f i lo hi s t l e b recs BIG (joinB (X ++ if hasF k 3 = true then [wBase, numT b] else []) blank) := by
  have b1 := blank_size
  have cBase : wBase.size = 4 := rfl
  have zb := numT_size b
  rw [law40_LabelMsgs.l13_at BIG BIG (BIG - 1) big_eq]
  unfold law40_LabelMsgs.b13
  simp only [veil_eq]
  cases hasF k 3 with
  | false => simp only [Bool.false_eq_true, if_false, List.append_nil]
  | true =>
    rw [if_pos rfl, if_pos rfl]
    rw [lit_base, if_pos (by simp only [app_size]; omega), Num40.pure b hb.1 hb.2]
    dsimp only
    rw [if_pos (by simp only [app_size]; omega)]
    rw [joinB_two _ hX]
theorem LawMsg11 (k f i lo hi s t l e b : Int) (recs : LR) (hl : i64R l) (he : i64R e) (X : List ByteArray) (hX : X ≠ []) (hsz : (joinB X blank).size ≤ 1000) : law40_LabelMsgs.l11 BIG k f i lo hi s t l e b recs BIG (joinB X blank) = law40_LabelMsgs.l13 BIG k f i lo hi s t l e b recs BIG (joinB (X ++ if hasF k 2 = true then [wLife, numT l, wEpoch, numT e] else []) blank) := by
  have b1 := blank_size
  have cLife : wLife.size = 4 := rfl
  have cEpoch : wEpoch.size = 5 := rfl
  have zl := numT_size l
  have ze := numT_size e
  rw [law40_LabelMsgs.l11_at BIG BIG (BIG - 1) big_eq]
  unfold law40_LabelMsgs.b11
  simp only [veil_eq]
  cases hasF k 2 with
  | false => simp only [Bool.false_eq_true, if_false, List.append_nil]
  | true =>
    rw [if_pos rfl, if_pos rfl]
    rw [lit_life, lit_epoch, if_pos (by simp only [app_size]; omega), Num40.pure l hl.1 hl.2]
    dsimp only
    rw [if_pos (by simp only [app_size]; omega)]
    rw [if_pos (by simp only [app_size]; omega), Num40.pure e he.1 he.2]
    dsimp only
    rw [if_pos (by simp only [app_size]; omega)]
    rw [show X ++ [wLife, numT l, wEpoch, numT e] = (X ++ [wLife, numT l]) ++ [wEpoch, numT e] from by simp, joinB_two _ (by simp), joinB_two _ hX]
theorem LawMsg9 (k f i lo hi s t l e b : Int) (recs : LR) (ht : i64R t) (X : List ByteArray) (hX : X ≠ []) (hsz : (joinB X blank).size ≤ 1000) : law40_LabelMsgs.l9 BIG k f i lo hi s t l e b recs BIG (joinB X blank) = law40_LabelMsgs.l11 BIG k f i lo hi s t l e b recs BIG (joinB (X ++ if hasF k 1 = true then [wTarget, numT t] else []) blank) := by
  have b1 := blank_size
  have cTarget : wTarget.size = 6 := rfl
  have zt := numT_size t
  rw [law40_LabelMsgs.l9_at BIG BIG (BIG - 1) big_eq]
  unfold law40_LabelMsgs.b9
  simp only [veil_eq]
  cases hasF k 1 with
  | false => simp only [Bool.false_eq_true, if_false, List.append_nil]
  | true =>
    rw [if_pos rfl, if_pos rfl]
    rw [lit_target, if_pos (by simp only [app_size]; omega), Num40.pure t ht.1 ht.2]
    dsimp only
    rw [if_pos (by simp only [app_size]; omega)]
    rw [joinB_two _ hX]
theorem LawMsg6 (k f i lo hi s t l e b : Int) (recs : LR) (hf : i64R f) (hi' : i64R i) (hs : i64R s) : law40_LabelMsgs.l6 BIG k f i lo hi s t l e b recs BIG (nameT k) = law40_LabelMsgs.l9 BIG k f i lo hi s t l e b recs BIG (joinB (msgW0 k f i lo hi s) blank) := by
  have b1 := blank_size
  have h1 := numT_size f
  have h2 := numT_size i
  have h3 := nameT_size k
  have h4 := spT_size lo hi
  have h5 := numT_size s
  have c1 : wFrom.size = 4 := rfl
  have c2 : wInc.size = 3 := rfl
  have c3 : wSpan.size = 4 := rfl
  have c4 : wSeq.size = 3 := rfl
  have hj : joinB [nameT k, wFrom, numT f, wInc, numT i, wSpan, spT lo hi] blank = ((((((nameT k ++ (blank ++ (wFrom ++ blank))) ++ numT f) ++ (blank ++ (wInc ++ blank))) ++ numT i) ++ (blank ++ (wSpan ++ blank))) ++ spT lo hi) := by
    rw [show [nameT k, wFrom, numT f, wInc, numT i, wSpan, spT lo hi] = (([nameT k] ++ [wFrom, numT f]) ++ [wInc, numT i]) ++ [wSpan, spT lo hi] from rfl, joinB_two _ (by simp), joinB_two _ (by simp), joinB_two _ (by simp), joinB_one]
  have hw : joinB (msgW0 k f i lo hi s) blank = (if hasF k 0 = true then (joinB [nameT k, wFrom, numT f, wInc, numT i, wSpan, spT lo hi] blank ++ (blank ++ (wSeq ++ blank))) ++ numT s else joinB [nameT k, wFrom, numT f, wInc, numT i, wSpan, spT lo hi] blank) := by
    unfold msgW0
    cases hasF k 0 with
    | false => rw [if_neg (by simp), if_neg (by simp), List.append_nil]
    | true => rw [if_pos rfl, if_pos rfl, joinB_two _ (by simp)]
  rw [hw, hj, law40_LabelMsgs.l6_at BIG BIG (BIG - 1) big_eq]
  unfold law40_LabelMsgs.b6
  simp only [veil_eq]
  rw [lit_from, lit_inc, lit_span, lit_seq, if_pos (by simp only [app_size]; omega), Num40.pure f hf.1 hf.2]
  dsimp only
  rw [if_pos (by simp only [app_size]; omega), if_pos (by simp only [app_size]; omega), Num40.pure i hi'.1 hi'.2]
  dsimp only
  rw [if_pos (by simp only [app_size]; omega), if_pos (by simp only [app_size]; omega), Spoken.pure]
  dsimp only
  rw [if_pos (by simp only [app_size]; omega)]
  cases hasF k 0 with
  | false =>
    rw [if_neg (by simp), if_neg (by simp)]
  | true =>
    rw [if_pos rfl, if_pos rfl, if_pos (by simp only [app_size]; omega), Num40.pure s hs.1 hs.2]
    dsimp only
    rw [if_pos (by simp only [app_size]; omega)]
theorem LabelMsgs.pure (k f i lo hi s t l e b : Int) (recs : LR) (hh : i64R f ∧ i64R i ∧ i64R s ∧ i64R t ∧ i64R l ∧ i64R e ∧ i64R b ∧ smallRecs recs = true) : law40_LabelMsgs.f BIG k f i lo hi s t l e b recs = some true := by
  obtain ⟨hf, hi', hs, ht, hl, he, hb, hsm⟩ := hh
  have h0 := msgW0_size k f i lo hi s
  have n0 := msgW0_ne k f i lo hi s
  have n1 : msgW1 k f i lo hi s t ≠ [] := by unfold msgW1; simp [n0]
  have n2 : msgW2 k f i lo hi s t l e ≠ [] := by unfold msgW2; simp [n1]
  have s1 : (joinB (msgW1 k f i lo hi s t) blank).size ≤ 240 := by
    have h1 := two_size _ n0 wTarget (numT t) (by decide) (numT_size t) (hasF k 1)
    have h1 : (joinB (msgW1 k f i lo hi s t) blank).size ≤ (joinB (msgW0 k f i lo hi s) blank).size + 40 := h1
    omega
  have s2 : (joinB (msgW2 k f i lo hi s t l e) blank).size ≤ 320 := by
    have h2 := two_size _ n1 wLife (numT l) (by decide) (numT_size l) (hasF k 2)
    have n3 : (msgW1 k f i lo hi s t ++ if hasF k 2 = true then [wLife, numT l] else []) ≠ [] := by simp [n1]
    have h3 := two_size _ n3 wEpoch (numT e) (by decide) (numT_size e) (hasF k 2)
    have e2 : msgW2 k f i lo hi s t l e = (msgW1 k f i lo hi s t ++ if hasF k 2 = true then [wLife, numT l] else []) ++ if hasF k 2 = true then [wEpoch, numT e] else [] := by
      unfold msgW2
      cases hasF k 2 <;> simp
    rw [← e2] at h3
    omega
  have hfin : law40_LabelMsgs.l6 BIG k f i lo hi s t l e b recs BIG (nameT k) = some true := by
    rw [LawMsg6 k f i lo hi s t l e b recs hf hi' hs, LawMsg9 k f i lo hi s t l e b recs ht _ n0 (by omega)]
    show law40_LabelMsgs.l11 BIG k f i lo hi s t l e b recs BIG (joinB (msgW1 k f i lo hi s t) blank) = _
    rw [LawMsg11 k f i lo hi s t l e b recs hl he _ n1 (by omega)]
    show law40_LabelMsgs.l13 BIG k f i lo hi s t l e b recs BIG (joinB (msgW2 k f i lo hi s t l e) blank) = _
    rw [LawMsg13 k f i lo hi s t l e b recs hb _ n2 (by omega)]
    show law40_LabelMsgs.l15 BIG k f i lo hi s t l e b recs BIG (msgT k f i lo hi s t l e b) = _
    rw [law40_LabelMsgs.l15_at BIG BIG (BIG - 1) big_eq]
    unfold law40_LabelMsgs.b15
    simp only [veil_eq]
    rw [LMsg.pure k f i lo hi s t l e b recs hf hi' hs ht hl he hb, Awake40.pure]
    dsimp only
    rw [if_pos (by simp)]
  unfold law40_LabelMsgs.f law40_LabelMsgs.b
  simp only [veil_eq]
  rw [hsm, Awake40.pure, if_pos (c := true = true) rfl, show msg_Name.f BIG k = some (ofF k).1 from rfl]
  cases few8 recs with
  | false => rfl
  | true =>
    rw [if_neg (c := (!true) = true) (by simp)]
    dsimp only
    unfold nameT at hfin
    split at hfin
    · rename_i h
      rw [if_pos h]
      exact hfin
    · rename_i h
      rw [if_neg h]
      exact hfin
theorem labelMsgs_envOk : EnvOk Try.prog law40_LabelMsgs_E := env_ok (l := [(17, s_few8), (43, s_law40_awake), (44, s_law40_num), (45, s_law40_spoken), (49, s_msg_Name), (50, s_has), (51, s_label_Msg)]) th_ok any_ok ⟨⟨s_few8_ok, s_few8_det⟩, ⟨s_law40_awake_ok, s_law40_awake_det⟩, ⟨s_law40_num_ok, s_law40_num_det⟩, ⟨s_law40_spoken_ok, s_law40_spoken_det⟩, ⟨s_msg_Name_ok, s_msg_Name_det⟩, ⟨s_has_ok, s_has_det⟩, ⟨s_label_Msg_ok, s_label_Msg_det⟩, trivial⟩ _
theorem labelMsgs_tells (mKind : Int) (mFrom : Int) (mInc : Int) (mSpanLo : Int) (mSpanHi : Int) (mSeq : Int) (mTarget : Int) (mLife : Int) (mEpoch : Int) (mBase : Int) (mRecs : List (Int × Int × Int × (Int × Int) × Bool × List (Int × List Int))) (hl : i64R mFrom ∧ i64R mInc ∧ i64R mSeq ∧ i64R mTarget ∧ i64R mLife ∧ i64R mEpoch ∧ i64R mBase ∧ smallRecs mRecs = true) : denF law40_LabelMsgs_E loopN BIG Try.f14 [.raw] [.agg [.d (.int .i64) mKind, .d (.int .i64) mFrom, .d (.int .i64) mInc, .d (.int .i64) mSpanLo, .d (.int .i64) mSpanHi, .d (.int .i64) mSeq, .d (.int .i64) mTarget, .d (.int .i64) mLife, .d (.int .i64) mEpoch, .d (.int .i64) mBase, .d (.sl (.pair (.int .i64) (.pair (.int .i64) (.pair (.int .i64) (.pair (.pair (.int .i64) (.int .i64)) (.pair .bool (.sl (.pair (.int .i64) (.sl (.int .u8)))))))))) mRecs]] [] isTrue = some () := by
  rw [denF_any labelMsgs_envOk.D ((law40_LabelMsgs.eq BIG mKind mFrom mInc mSpanLo mSpanHi mSeq mTarget mLife mEpoch mBase mRecs).trans (LabelMsgs.pure mKind mFrom mInc mSpanLo mSpanHi mSeq mTarget mLife mEpoch mBase mRecs hl)) (out := [.d .bool true]) (os := []) (fun rs ros hk => by
    unfold law40_LabelMsgs.k at hk
    split at hk
    · first | (cases hk; exact ⟨rfl, rfl⟩) | (have e := Option.some.inj hk; rw [← e]; exact ⟨rfl, rfl⟩)
    · cases hk)]
  rfl
set_option maxRecDepth 100000 in
theorem labelMsgs_lifted (os : Os) (started : os.Started) (H : Type) (enc : TypeId × Value → H) :
    ReturnsInHanded {} Try.checked os 14 .any (Rows.labelMsgsSpec.pre6 enc Try.prog Try.f14 Rows.labelMsgsRow.domain false) (Rows.labelMsgsSpec.post enc Try.prog Try.f14 false true false false) := by
  refine returnsInHanded_of_change_sized (C := Try.checked) Try.own started (by kernel_rfl) Try.func14
    (ChangeSpec.witness6 (enc := enc) (C := Try.checked) false ⟨#[], #[.agg #[.int .i64 0, .int .i64 0, .int .i64 0, .int .i64 0, .int .i64 0, .int .i64 0, .int .i64 0, .int .i64 0, .int .i64 0, .int .i64 0, .slice none 0 0]], []⟩ 8 (by kernel_rfl) (by kernel_rfl) (by kernel_rfl) (by kernel_rfl)) ?_
  intro W base args ds gs before hval hW _ hwt _
  exact law_contract labelMsgs_envOk Try.func14 rfl [((.pair (.int .i64) (.pair (.int .i64) (.pair (.int .i64) (.pair (.pair (.int .i64) (.int .i64)) (.pair (.int .i64) (.pair (.int .i64) (.pair (.int .i64) (.pair (.int .i64) (.pair (.int .i64) (.sl (.pair (.int .i64) (.pair (.int .i64) (.pair (.int .i64) (.pair (.pair (.int .i64) (.int .i64)) (.pair .bool (.sl (.pair (.int .i64) (.sl (.int .u8))))))))))))))))))), true)] (tb := 4) (by kernel_rfl) (by kernel_rfl) (by kernel_rfl) rfl
    (fun ds h => by match ds, h with | [_], _ => rfl) Try.laidOut Try.mapsRow Try.slicesSize (fun y hg => ⟨BIG, labelMsgs_tells y.1.1 y.1.2.1 y.1.2.2.1 y.1.2.2.2.1.1 y.1.2.2.2.1.2 y.1.2.2.2.2.1 y.1.2.2.2.2.2.1 y.1.2.2.2.2.2.2.1 y.1.2.2.2.2.2.2.2.1 y.1.2.2.2.2.2.2.2.2.1 y.1.2.2.2.2.2.2.2.2.2 ⟨(good_int (hg.1.2.1)), (good_int (hg.1.2.2.1)), (good_int (hg.1.2.2.2.2.1)), (good_int (hg.1.2.2.2.2.2.1)), (good_int (hg.1.2.2.2.2.2.2.1)), (good_int (hg.1.2.2.2.2.2.2.2.1)), (good_int (hg.1.2.2.2.2.2.2.2.2.1)), (good_recs (hg.1.2.2.2.2.2.2.2.2.2))⟩⟩) W base args ds gs before hval hW hwt
theorem labelMsgs_holds : Rows.LabelMsgsSaid :=
  OpenClaim.holds_of_wide 14 Try.f14 rfl rfl rfl rfl rfl rfl rfl ⟨rfl, rfl, rfl, rfl, rfl⟩ rfl rfl rfl rfl rfl (by kernel_rfl) Try.func14 (by kernel_rfl)
    (of_decide_eq_true (by kernel_rfl)) (by unfold Func.isWrapper; first | (rw [if_pos (by decide +kernel)]; kernel_rfl) | (rw [if_neg (by decide +kernel)]; exact ⟨rfl, rfl⟩))
    (fun os started H enc _ => labelMsgs_lifted os started H enc)
end Go.Proofs.Ytnlkghcibpopgaa
