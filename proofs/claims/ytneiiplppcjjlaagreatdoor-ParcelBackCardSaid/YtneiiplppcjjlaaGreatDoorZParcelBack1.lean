/- ParcelBack, part 1: what the row leans on. -/
import Derived.Test.YtneiiplppcjjlaaGreatDoorEw3
import Derived.Test.YtneiiplppcjjlaaGreatDoorRows
import Derived.Test.YtneiiplppcjjlaaGreatDoorTie
import Derived.Test.YtneiiplppcjjlaaGreatDoorCards
import Derived.Test.YtneiiplppcjjlaaGreatDoorTw
import Derived.Laws.BitsLemmas
import Derived.KernelRfl
import Derived.ProofKit
import Derived.LaidMore
import Derived.OpenShut
import Derived.Stop.Joined
import Derived.Lib.LaidTab
import Derived.SevenTiedAt
import Derived.Laws.Bits64
set_option linter.unusedVariables false
set_option linter.unusedSimpArgs false
set_option maxRecDepth 100000
namespace Go.Proofs.YtneiiplppcjjlaaGreatDoor
open Go.Den
noncomputable section
abbrev dD : AV := AV.dead
abbrev LF := List (Int × List Int)
abbrev LR := List (Int × Int × Int × (Int × Int) × Bool × LF)
abbrev tQi : Ty := .int .i64
abbrev tQr : Ty := .pair (.int .i64) (.pair (.int .i64) (.pair (.int .i64) (.pair (.pair (.int .i64) (.int .i64)) (.pair .bool (.sl (.pair (.int .i64) (.sl (.int .u8))))))))
theorem sdet {S : Den.Sum} (h : ∀ avs objs (R : Type) (κ : List AV × List Den.Obj → Option R), S.run avs objs (two κ) = (S.run avs objs (two some)).bind κ) : SumDet S := h
theorem any_ok : Tryz.prog.follows .mixedOrders = true := by kernel_rfl
theorem wrap_small (n : Int) (h0 : -9223372036854775808 ≤ n) (h1 : n < 9223372036854775808) : IntKind.wrap .i64 n = n := by
 rw [IntKind.wrap_i64]; omega
theorem idx_at {α : Type} (l : List α) (i : Nat) : idx l (i : Int) = l[i]? := by
 unfold idx
 rw [if_pos (by omega)]
 simp
theorem getD_at {α : Type} (l : List α) (d : α) (i : Nat) (h : i < l.length) : idx l (i : Int) = some (l.getD i d) := by
 rw [idx_at, List.getElem?_eq_getElem h]; simp [List.getD, List.getElem?_eq_getElem h]
def okS (lo hi : Int) : Bool := decide (1 ≤ lo) && decide (lo ≤ hi) && decide (hi ≤ 3)
def codeF (a b : Int) : Int := if !okS a b then 0 else Den.bits .or .i64 (IntKind.wrap .i64 (a * 16)) b
def tableL : List (ByteArray × Int) := [(⟨#[]⟩, 0), (⟨#[104, 101, 108, 108, 111]⟩, 1), (⟨#[119, 101, 108, 99, 111, 109, 101]⟩, 1), (⟨#[114, 101, 106, 101, 99, 116]⟩, 2), (⟨#[112, 105, 110, 103]⟩, 17), (⟨#[97, 99, 107]⟩, 17), (⟨#[97, 115, 107]⟩, 19), (⟨#[112, 117, 115, 104]⟩, 28), (⟨#[112, 117, 108, 108]⟩, 20), (⟨#[114, 101, 115, 101, 116]⟩, 4)]
def ofF (k : Int) : ByteArray × Int := if decide (k < 1) || decide (k > 9) then (⟨#[]⟩, 0) else tableL.getD k.toNat (⟨#[]⟩, 0)
def withinF (had : Bool) (v lo hi : Int) : Bool := if !had then v == 0 else (decide (v ≥ lo) && decide (v ≤ hi))
def bagGo : LF → Int → Int → Bool
 | [], _, _ => true
 | x :: l, last, size => if decide (x.1 < last) || decide (x.1 > 255) then false else if decide (size + (x.2.length : Int) > 4096) then false else bagGo l x.1 (size + (x.2.length : Int))
def bagOk (b : LF) : Bool := if decide ((b.length : Int) > 32) then false else bagGo b 32 0
def recOk (id inc st lo hi : Int) (cut : Bool) (bag : LF) : Bool :=
 if decide (id < 0) || decide (id > 4095) then false else if decide (inc < 0) || decide (inc > 281474976710655) then false else if decide (st < 0) || decide (st > 3) then false else
 if !okS lo hi || !bagOk bag then false else if cut && decide ((bag.length : Int) > 0) then false else true
def smallBag (b : LF) : Bool := decide (b.length < 281474976710656) && b.all fun x => decide (x.2.length < 281474976710656)
def s_sv : Den.Sum := ⟨[.dat (.pair tQi tQi) true], fun args objs κ => match args, objs with
 | [.agg [.d (.int .i64) lo, .d (.int .i64) hi]], [] => κ [.d .bool (okS lo hi)] []
 | _, _ => none⟩
def s_code : Den.Sum := ⟨[.dat (.pair tQi tQi) true], fun args objs κ => match args, objs with
 | [.agg [.d (.int .i64) a, .d (.int .i64) b]], [] => κ [.d (.int .i64) (codeF a b)] []
 | _, _ => none⟩
def s_table : Den.Sum := ⟨[], fun args objs κ => match args, objs with
 | [], [] => κ [.d (.arr 10 (.pair .str (.int .u8))) tableL] []
 | _, _ => none⟩
def s_of : Den.Sum := ⟨[.raw], fun args objs κ => match args, objs with
 | [.d (.int .i64) k], [] => κ [.agg [.d .str (ofF k).1, .d (.int .u8) (ofF k).2]] []
 | _, _ => none⟩
def s_within : Den.Sum := ⟨[.raw, .raw, .raw, .raw], fun args objs κ => match args, objs with
 | [.d .bool had, .d (.int .i64) v, .d (.int .i64) lo, .d (.int .i64) hi], [] => κ [.d .bool (withinF had v lo hi)] []
 | _, _ => none⟩
def s_bagv : Den.Sum := ⟨[.dat (.sl (.pair tQi (.sl (.int .u8)))) false], fun args objs κ => match args, objs with
 | [.d (.sl (.pair (.int .i64) (.sl (.int .u8)))) b], [] => if smallBag b = true then κ [.d .bool (bagOk b)] [] else none
 | _, _ => none⟩
def s_recv : Den.Sum := ⟨[.dat tQr true], fun args objs κ => match args, objs with
 | [.agg [.d (.int .i64) rid, .d (.int .i64) rinc, .d (.int .i64) rst, .d (.int .i64) rlo, .d (.int .i64) rhi, .d .bool rcut, .d (.sl (.pair (.int .i64) (.sl (.int .u8)))) rbag]], [] => if smallBag rbag = true then κ [.d .bool (recOk rid rinc rst rlo rhi rcut rbag)] [] else none
 | _, _ => none⟩
def SpanValid_E : Env := ⟨th, gam [], fun i => ⟨[], [], []⟩⟩
def SpanValid.k (rs : List AV) (os : List Den.Obj) : Option Bool :=
 match rs, os with
 | [.d .bool r0], [] => some r0
 | _, _ => none
def SpanValid.b (lo hi : Int) : Option Bool :=
 (if (decide (lo ≥ (1 : Int))) then (if (decide (lo ≤ hi)) then some ((decide (hi ≤ (3 : Int)))) else some (false)) else some (false))
def SpanValid.f (fuel : Nat) (lo hi : Int) : Option Bool := SpanValid.b lo hi
theorem SpanValid.eq (fuel : Nat) (lo hi : Int) : (denF SpanValid_E loopN fuel Tryz.f33 [.raw] [.agg [.d tQi lo, .d tQi hi]] [] SpanValid.k) = SpanValid.f fuel lo hi := by
 kernel_rfl
def SpanCode_E : Env := ⟨th, gam [(33, s_sv)], fun i => ⟨[], [], []⟩⟩
def SpanCode.k (rs : List AV) (os : List Den.Obj) : Option Int :=
 match rs, os with
 | [.d (.int .i64) r0], [] => some r0
 | _, _ => none
def SpanCode.b (a b : Int) : Option Int :=
 (if (!(okS a b)) then some ((0 : Int)) else some ((bits BinOp.or .i64 (IntKind.wrap .i64 (a * ((2 : Int) ^ (Min.min (Int.toNat (4 : Int)) (IntKind.bits .i64))))) b)))
def SpanCode.f (fuel : Nat) (a b : Int) : Option Int := SpanCode.b a b
theorem SpanCode.eq (fuel : Nat) (a b : Int) : (denF SpanCode_E loopN fuel Tryz.f80 [.raw] [.agg [.d tQi a, .d tQi b]] [] SpanCode.k) = SpanCode.f fuel a b := by
 kernel_rfl
def MsgTable_E : Env := ⟨th, gam [], fun i => ⟨[], [], []⟩⟩
def MsgTable.k (rs : List AV) (os : List Den.Obj) : Option (List (ByteArray × Int)) :=
 match rs, os with
 | [.d (.arr 10 (.pair .str (.int .u8))) r0], [] => some r0
 | _, _ => none
def MsgTable.b (u : Unit) : Option (List (ByteArray × Int)) :=
 some ((((⟨([]).toArray⟩ : ByteArray), 0) :: (((⟨((104 :: (101 :: (108 :: (108 :: (111 :: [])))))).toArray⟩ : ByteArray), (1 : Int)) :: (((⟨((119 :: (101 :: (108 :: (99 :: (111 :: (109 :: (101 :: [])))))))).toArray⟩ : ByteArray), (1 : Int)) :: (((⟨((114 :: (101 :: (106 :: (101 :: (99 :: (116 :: []))))))).toArray⟩ : ByteArray), (2 : Int)) :: (((⟨((112 :: (105 :: (110 :: (103 :: []))))).toArray⟩ : ByteArray), (17 : Int)) :: (((⟨((97 :: (99 :: (107 :: [])))).toArray⟩ : ByteArray), (17 : Int)) :: (((⟨((97 :: (115 :: (107 :: [])))).toArray⟩ : ByteArray), (19 : Int)) :: (((⟨((112 :: (117 :: (115 :: (104 :: []))))).toArray⟩ : ByteArray), (28 : Int)) :: (((⟨((112 :: (117 :: (108 :: (108 :: []))))).toArray⟩ : ByteArray), (20 : Int)) :: (((⟨((114 :: (101 :: (115 :: (101 :: (116 :: [])))))).toArray⟩ : ByteArray), (4 : Int)) :: [])))))))))))
def MsgTable.f (fuel : Nat) (u : Unit) : Option (List (ByteArray × Int)) := MsgTable.b u
theorem MsgTable.eq (fuel : Nat) (u : Unit) : (denF MsgTable_E loopN fuel Tryz.f100 [.raw] [] [] MsgTable.k) = MsgTable.f fuel u := by
 kernel_rfl
def MsgOf_E : Env := ⟨th, gam [(100, s_table)], fun i => ⟨[], [], []⟩⟩
def MsgOf.k (rs : List AV) (os : List Den.Obj) : Option (ByteArray × Int) :=
 match rs, os with
 | [.agg [.d .str r0, .d (.int .u8) r1]], [] => some (r0, r1)
 | _, _ => none
def MsgOf.b (k : Int) : Option (ByteArray × Int) :=
 (if (decide (k < (1 : Int))) then some ((⟨([]).toArray⟩ : ByteArray), 0) else (if (decide (k > (9 : Int))) then some ((⟨([]).toArray⟩ : ByteArray), 0) else (match (idx tableL k) with | none => none | some y0 => some (y0.1, y0.2))))
def MsgOf.f (fuel : Nat) (k : Int) : Option (ByteArray × Int) := MsgOf.b k
theorem MsgOf.eq (fuel : Nat) (k : Int) : (denF MsgOf_E loopN fuel Tryz.f66 [.dat (.pair .str (.int .u8)) true] [.d tQi k] [] MsgOf.k) = MsgOf.f fuel k := by
 kernel_rfl
def MsgWithin_E : Env := ⟨th, gam [], fun i => ⟨[], [], []⟩⟩
def MsgWithin.k (rs : List AV) (os : List Den.Obj) : Option Bool :=
 match rs, os with
 | [.d .bool r0], [] => some r0
 | _, _ => none
def MsgWithin.b (had : Bool) (v lo hi : Int) : Option Bool :=
 (if (!had) then some ((v == (0 : Int))) else (if (decide (v ≥ lo)) then some ((decide (v ≤ hi))) else some (false)))
def MsgWithin.f (fuel : Nat) (had : Bool) (v lo hi : Int) : Option Bool := MsgWithin.b had v lo hi
theorem MsgWithin.eq (fuel : Nat) (had : Bool) (v lo hi : Int) : (denF MsgWithin_E loopN fuel Tryz.f109 [.raw] [.d .bool had, .d tQi v, .d tQi lo, .d tQi hi] [] MsgWithin.k) = MsgWithin.f fuel had v lo hi := by
 kernel_rfl
def BagValid_E : Env := ⟨th, gam [], fun i => if i = 5 then ⟨[3, 4, 10, 11, 12], [], []⟩ else ⟨[], [], []⟩⟩
def BagValid.k (rs : List AV) (os : List Den.Obj) : Option Bool :=
 match rs, os with
 | [.d .bool r0], [] => some r0
 | _, _ => none
def BagValid.s5 (b : LF) (x0 x1 x2 x3 : Int) : St := ⟨[dD, dD, dD, .d tQi x0, .d tQi x1, dD, dD, dD, dD, dD, .d (.sl (.pair tQi (.sl (.int .u8)))) (b), .d tQi x2, .d tQi x3, dD, dD, dD, dD, dD, dD, dD, dD, dD, dD, dD, dD, dD, dD, dD, dD, dD, dD, dD, dD, dD, .dead], ofL [], 0⟩
def BagValid.p5 (fuel : Nat) (b : LF) (k : Nat) := fun x0 x1 x2 x3 => lp BagValid_E fuel Tryz.f129 [.raw] 0 BagValid.k 5 [] k (BagValid.s5 b x0 x1 x2 x3)
def BagValid.b5 (b : LF) (A5 : Int → Int → Int → Int → Option Bool) (x0 x1 x2 x3 : Int) : Option Bool :=
 (if (decide (x3 < x2)) then (match (idx b x3) with | none => none | some y4 => (if (decide (y4.1 < x0)) then some (false) else (if (decide (y4.1 > (255 : Int))) then some (false) else (if (decide ((IntKind.wrap .i64 (x1 + ((((List.length y4.2)) : Nat) : Int))) > (4096 : Int))) then some (false) else A5 y4.1 (IntKind.wrap .i64 (x1 + ((((List.length y4.2)) : Nat) : Int))) x2 (IntKind.wrap .i64 (x3 + (1 : Int))))))) else some (true))
def BagValid.l5 (fuel : Nat) (b : LF) : Nat → Int → Int → Int → Int → Option Bool
 | 0, _, _, _, _ => none
 | k + 1, x0, x1, x2, x3 => BagValid.b5 b (BagValid.l5 fuel b k) x0 x1 x2 x3
def BagValid.b (b : LF) (E5 : Int → Int → Int → Int → Option Bool) : Option Bool :=
 (if (decide (((((List.length b)) : Nat) : Int) > (32 : Int))) then some (false) else E5 (32 : Int) (0 : Int) ((((List.length b)) : Nat) : Int) (0 : Int))
def BagValid.f (fuel : Nat) (b : LF) : Option Bool := BagValid.b b (BagValid.l5 fuel b fuel)
theorem BagValid.l5_eq (fuel : Nat) (b : LF) : ∀ k : Nat, BagValid.p5 fuel b k = BagValid.l5 fuel b k
 | 0 => by kernel_rfl
 | k + 1 => by
  refine Eq.trans (b := BagValid.b5 b (BagValid.p5 fuel b k)) (by kernel_rfl) ?_
  rw [BagValid.l5_eq fuel b k]
  kernel_rfl
theorem BagValid.eq (fuel : Nat) (b : LF) : (denF BagValid_E loopN fuel Tryz.f129 [.raw] [.d (.sl (.pair tQi (.sl (.int .u8)))) b] [] BagValid.k) = BagValid.f fuel b := by
 refine Eq.trans (b := BagValid.b b (BagValid.p5 fuel b fuel)) (by kernel_rfl) ?_
 rw [BagValid.l5_eq fuel b fuel]
 kernel_rfl
def RecValid_E : Env := ⟨th, gam [(33, s_sv), (129, s_bagv)], fun i => ⟨[], [], []⟩⟩
def RecValid.k (rs : List AV) (os : List Den.Obj) : Option Bool :=
 match rs, os with
 | [.d .bool r0], [] => some r0
 | _, _ => none
def RecValid.b (rid rinc rst rlo rhi : Int) (rcut : Bool) (rbag : LF) : Option Bool :=
 (if (decide (rid < (0 : Int))) then some (false) else (if (decide (rid > (4095 : Int))) then some (false) else (if (decide (rinc < (0 : Int))) then some (false) else (if (decide (rinc > (veil (281474976710655 : Int)))) then some (false) else (if (decide (rst < (0 : Int))) then some (false) else (if (decide (rst > (3 : Int))) then some (false) else (if (!(okS rlo rhi)) then some (false) else (if (smallBag rbag) then (if (!(bagOk rbag)) then some (false) else (if rcut then (if (decide (((((List.length rbag)) : Nat) : Int) > (0 : Int))) then some (false) else some (true)) else some (true))) else none))))))))
def RecValid.f (fuel : Nat) (rid rinc rst rlo rhi : Int) (rcut : Bool) (rbag : LF) : Option Bool := RecValid.b rid rinc rst rlo rhi rcut rbag
theorem RecValid.eq (fuel : Nat) (rid rinc rst rlo rhi : Int) (rcut : Bool) (rbag : LF) : (denF RecValid_E loopN fuel Tryz.f118 [.raw] [.agg [.d tQi rid, .d tQi rinc, .d tQi rst, .d tQi rlo, .d tQi rhi, .d .bool rcut, .d (.sl (.pair tQi (.sl (.int .u8)))) rbag]] [] RecValid.k) = RecValid.f fuel rid rinc rst rlo rhi rcut rbag := by
 kernel_rfl
def OctFits_E : Env := ⟨th, gam [], fun i => ⟨[], [], []⟩⟩
def OctFits.k (rs : List AV) (os : List Den.Obj) : Option Bool :=
 match rs, os with
 | [.d .bool r0], [] => some r0
 | _, _ => none
def OctFits.b (n v : Int) : Option Bool :=
 (if (decide (n ≥ (1 : Int))) then (if (decide (n ≤ (7 : Int))) then (if (decide (v ≥ (0 : Int))) then (if ((IntKind.wrap .i64 ((8 : Int) * n)) < (0 : Int)) then none else some (((Int.fdiv v ((2 : Int) ^ (Min.min (Int.toNat (IntKind.wrap .i64 ((8 : Int) * n))) (IntKind.bits .i64)))) == (0 : Int)))) else some (false)) else some (false)) else some (false))
def OctFits.f (fuel : Nat) (n v : Int) : Option Bool := OctFits.b n v
theorem OctFits.eq (fuel : Nat) (n v : Int) : (denF OctFits_E loopN fuel Tryz.f111 [.raw] [.d tQi n, .d tQi v] [] OctFits.k) = OctFits.f fuel n v := by
 kernel_rfl
def MsgHas_E : Env := ⟨th, gam [(66, s_of)], fun i => ⟨[], [], []⟩⟩
def MsgHas.k (rs : List AV) (os : List Den.Obj) : Option Bool :=
 match rs, os with
 | [.d .bool r0], [] => some r0
 | _, _ => none
def MsgHas.b (k p : Int) : Option Bool :=
 (if (decide (p ≥ (0 : Int))) then (if (decide (p ≤ (4 : Int))) then (if (p < (0 : Int)) then none else some (((bits BinOp.and .u8 (Int.fdiv (ofF k).2 ((2 : Int) ^ (Min.min (Int.toNat p) (IntKind.bits .u8)))) (1 : Int)) == (1 : Int)))) else some (false)) else some (false))
def MsgHas.f (fuel : Nat) (k p : Int) : Option Bool := MsgHas.b k p
theorem MsgHas.eq (fuel : Nat) (k p : Int) : (denF MsgHas_E loopN fuel Tryz.f41 [.raw] [.d tQi k, .d tQi p] [] MsgHas.k) = MsgHas.f fuel k p := by
 kernel_rfl
theorem okS_iff (a b : Int) : okS a b = true ↔ 1 ≤ a ∧ a ≤ b ∧ b ≤ 3 := by
 unfold okS
 simp only [Bool.and_eq_true, decide_eq_true_eq]
 omega
theorem SpanValid.pure (lo hi : Int) : SpanValid.f 0 lo hi = some (okS lo hi) := by
 unfold SpanValid.f SpanValid.b okS
 by_cases h1 : 1 ≤ lo
 ·by_cases h2 : lo ≤ hi <;> simp [h1, h2]
 ·simp [h1]
theorem SpanCode.pure (a b : Int) : SpanCode.f 0 a b = some (codeF a b) := by
 unfold SpanCode.f SpanCode.b codeF
 cases okS a b <;> rfl
theorem MsgOf.pure (k : Int) : MsgOf.f 0 k = some ((ofF k).1, (ofF k).2) := by
 unfold MsgOf.f MsgOf.b ofF
 by_cases h1 : k < 1
 ·simp [h1]
 ·by_cases h2 : k > 9
  ·simp [h1, h2]
  ·have := getD_at tableL (⟨#[]⟩, 0) k.toNat (by show k.toNat < 10; omega)
   rw [Int.toNat_of_nonneg (by omega)] at this
   simp [h1, h2, this]
theorem MsgWithin.pure (had : Bool) (v lo hi : Int) : MsgWithin.f 0 had v lo hi = some (withinF had v lo hi) := by
 unfold MsgWithin.f MsgWithin.b withinF
 cases had
 ·rfl
 ·by_cases h : v ≥ lo <;> simp [h]
theorem smallBag_iff (b : LF) : smallBag b = true ↔ b.length < 281474976710656 ∧ ∀ x ∈ b, x.2.length < 281474976710656 := by
 unfold smallBag
 simp [List.all_eq_true]
theorem BagValid.loop (fuel : Nat) (b : LF) (hl : smallBag b = true) : ∀ (k i : Nat) (last size : Int), i ≤ b.length → b.length - i < k → 0 ≤ size → size ≤ 4096 →
  BagValid.l5 fuel b k last size (b.length : Int) (i : Int) = some (bagGo (b.drop i) last size) := by
 obtain ⟨hb, hx⟩ := (smallBag_iff b).1 hl
 intro k
 induction k with
 | zero => intro i last size h1 h2; omega
 | succ k ih =>
  intro i last size h1 h2 h3 h4
  rw [BagValid.l5]
  unfold BagValid.b5
  by_cases hi : i < b.length
  ·rw [if_pos (by simp; omega), idx_at, List.getElem?_eq_getElem hi]
   simp only
   rw [List.drop_eq_getElem_cons hi]
   have hxl := hx b[i] (List.getElem_mem hi)
   unfold bagGo
   rw [wrap_small (size + _) (by omega) (by omega), wrap_small ((i : Int) + 1) (by omega) (by omega)]
   by_cases c1 : b[i].1 < last
   ·simp [c1]
   ·by_cases c2 : b[i].1 > 255
    ·simp [c1, c2]
    ·by_cases c3 : size + (b[i].2.length : Int) > 4096
     ·simp [c1, c2, c3]
     ·simp only [c1, c2, c3, decide_false, Bool.or_self, Bool.false_eq_true, if_false]
      exact ih (i + 1) _ _ (by omega) (by omega) (by omega) (by omega)
  ·rw [if_neg (by simp; omega)]
   rw [List.drop_of_length_le (by omega)]
   rfl
theorem BagValid.pure (b : LF) (hl : smallBag b = true) : BagValid.f (b.length + 1) b = some (bagOk b) := by
 unfold BagValid.f BagValid.b bagOk
 split
 ·rfl
 ·exact BagValid.loop _ b hl _ 0 32 0 (by omega) (by omega) (by omega) (by omega)
theorem RecValid.pure (id inc st lo hi : Int) (cut : Bool) (bag : LF) (hl : smallBag bag = true) : RecValid.f 0 id inc st lo hi cut bag = some (recOk id inc st lo hi cut bag) := by
 unfold RecValid.f RecValid.b recOk
 rw [veil_eq, hl]
 by_cases c1 : id < 0
 ·simp [c1]
 by_cases c2 : id > 4095
 ·simp [c1, c2]
 by_cases c3 : inc < 0
 ·simp [c1, c2, c3]
 by_cases c4 : inc > 281474976710655
 ·simp [c1, c2, c3, c4]
 by_cases c5 : st < 0
 ·simp [c1, c2, c3, c4, c5]
 by_cases c6 : st > 3
 ·simp [c1, c2, c3, c4, c5, c6]
 simp only [c1, c2, c3, c4, c5, c6, decide_false, Bool.or_self, Bool.false_eq_true, if_false, if_true]
 cases okS lo hi <;> cases bagOk bag <;> cases cut <;> simp
 split <;> simp_all
theorem s_sv_det : SumDet s_sv := sdet fun _ _ _ _ => by
 unfold s_sv
 simp only
 split
 ·first | rfl | (split <;> rfl)
 ·rfl
theorem s_sv_ok : SumOk Tryz.prog 33 s_sv := by
 have hE : EnvOk Tryz.prog SpanValid_E := env_ok (l := []) th_ok any_ok trivial _
 refine sum_ok hE Tryz.func33 rfl (by kernel_rfl) s_sv [.raw] SpanValid.k ?_
 intro R avs objs κ r h
 unfold s_sv at h
 simp only at h
 split at h
 ·rename_i lo hi
  refine ⟨0, _, _, _, (SpanValid.eq (0) lo hi).trans (SpanValid.pure lo hi), ?_, h⟩
  intro rs ros hk
  unfold SpanValid.k at hk
  split at hk
  ·first | (cases hk; exact ⟨rfl, rfl⟩) | (rw [← Option.some.inj hk]; exact ⟨rfl, rfl⟩)
  ·cases hk
 ·cases h
theorem s_code_det : SumDet s_code := sdet fun _ _ _ _ => by
 unfold s_code
 simp only
 split
 ·first | rfl | (split <;> rfl)
 ·rfl
theorem s_code_ok : SumOk Tryz.prog 80 s_code := by
 have hE : EnvOk Tryz.prog SpanCode_E := env_ok (l := [(33, s_sv)]) th_ok any_ok ⟨⟨s_sv_ok, s_sv_det⟩, trivial⟩ _
 refine sum_ok hE Tryz.func80 rfl (by kernel_rfl) s_code [.raw] SpanCode.k ?_
 intro R avs objs κ r h
 unfold s_code at h
 simp only at h
 split at h
 ·rename_i a b
  refine ⟨0, _, _, _, (SpanCode.eq (0) a b).trans (SpanCode.pure a b), ?_, h⟩
  intro rs ros hk
  unfold SpanCode.k at hk
  split at hk
  ·first | (cases hk; exact ⟨rfl, rfl⟩) | (rw [← Option.some.inj hk]; exact ⟨rfl, rfl⟩)
  ·cases hk
 ·cases h
theorem s_table_det : SumDet s_table := sdet fun _ _ _ _ => by
 unfold s_table
 simp only
 split
 ·first | rfl | (split <;> rfl)
 ·rfl
theorem s_table_ok : SumOk Tryz.prog 100 s_table := by
 have hE : EnvOk Tryz.prog MsgTable_E := env_ok (l := []) th_ok any_ok trivial _
 refine sum_ok hE Tryz.func100 rfl (by kernel_rfl) s_table [.raw] MsgTable.k ?_
 intro R avs objs κ r h
 unfold s_table at h
 simp only at h
 split at h
 ·skip
  refine ⟨0, _, _, _, (MsgTable.eq (0) ()).trans (rfl), ?_, h⟩
  intro rs ros hk
  unfold MsgTable.k at hk
  split at hk
  ·first | (cases hk; exact ⟨rfl, rfl⟩) | (rw [← Option.some.inj hk]; exact ⟨rfl, rfl⟩)
  ·cases hk
 ·cases h
theorem s_of_det : SumDet s_of := sdet fun _ _ _ _ => by
 unfold s_of
 simp only
 split
 ·first | rfl | (split <;> rfl)
 ·rfl
theorem s_of_ok : SumOk Tryz.prog 66 s_of := by
 have hE : EnvOk Tryz.prog MsgOf_E := env_ok (l := [(100, s_table)]) th_ok any_ok ⟨⟨s_table_ok, s_table_det⟩, trivial⟩ _
 refine sum_ok hE Tryz.func66 rfl (by kernel_rfl) s_of [.dat (.pair .str (.int .u8)) true] MsgOf.k ?_
 intro R avs objs κ r h
 unfold s_of at h
 simp only at h
 split at h
 ·rename_i k
  refine ⟨0, _, _, _, (MsgOf.eq (0) k).trans (MsgOf.pure k), ?_, h⟩
  intro rs ros hk
  unfold MsgOf.k at hk
  split at hk
  ·first | (cases hk; exact ⟨rfl, rfl⟩) | (rw [← Option.some.inj hk]; exact ⟨rfl, rfl⟩)
  ·cases hk
 ·cases h
theorem s_within_det : SumDet s_within := sdet fun _ _ _ _ => by
 unfold s_within
 simp only
 split
 ·first | rfl | (split <;> rfl)
 ·rfl
theorem s_within_ok : SumOk Tryz.prog 109 s_within := by
 have hE : EnvOk Tryz.prog MsgWithin_E := env_ok (l := []) th_ok any_ok trivial _
 refine sum_ok hE Tryz.func109 rfl (by kernel_rfl) s_within [.raw] MsgWithin.k ?_
 intro R avs objs κ r h
 unfold s_within at h
 simp only at h
 split at h
 ·rename_i had v lo hi
  refine ⟨0, _, _, _, (MsgWithin.eq (0) had v lo hi).trans (MsgWithin.pure had v lo hi), ?_, h⟩
  intro rs ros hk
  unfold MsgWithin.k at hk
  split at hk
  ·first | (cases hk; exact ⟨rfl, rfl⟩) | (rw [← Option.some.inj hk]; exact ⟨rfl, rfl⟩)
  ·cases hk
 ·cases h
theorem s_bagv_det : SumDet s_bagv := sdet fun _ _ _ _ => by
 unfold s_bagv
 simp only
 split
 ·first | rfl | (split <;> rfl)
 ·rfl
theorem s_bagv_ok : SumOk Tryz.prog 129 s_bagv := by
 have hE : EnvOk Tryz.prog BagValid_E := env_ok (l := []) th_ok any_ok trivial _
 refine sum_ok hE Tryz.func129 rfl (by kernel_rfl) s_bagv [.raw] BagValid.k ?_
 intro R avs objs κ r h
 unfold s_bagv at h
 simp only at h
 split at h
 ·rename_i b
  split at h
  case isFalse => cases h
  rename_i hl
  refine ⟨b.length + 1, _, _, _, (BagValid.eq (b.length + 1) b).trans (BagValid.pure b hl), ?_, h⟩
  intro rs ros hk
  unfold BagValid.k at hk
  split at hk
  ·first | (cases hk; exact ⟨rfl, rfl⟩) | (rw [← Option.some.inj hk]; exact ⟨rfl, rfl⟩)
  ·cases hk
 ·cases h
theorem s_recv_det : SumDet s_recv := sdet fun _ _ _ _ => by
 unfold s_recv
 simp only
 split
 ·first | rfl | (split <;> rfl)
 ·rfl
theorem s_recv_ok : SumOk Tryz.prog 118 s_recv := by
 have hE : EnvOk Tryz.prog RecValid_E := env_ok (l := [(33, s_sv), (129, s_bagv)]) th_ok any_ok ⟨⟨s_sv_ok, s_sv_det⟩, ⟨s_bagv_ok, s_bagv_det⟩, trivial⟩ _
 refine sum_ok hE Tryz.func118 rfl (by kernel_rfl) s_recv [.raw] RecValid.k ?_
 intro R avs objs κ r h
 unfold s_recv at h
 simp only at h
 split at h
 ·rename_i rid rinc rst rlo rhi rcut rbag
  split at h
  case isFalse => cases h
  rename_i hl
  refine ⟨0, _, _, _, (RecValid.eq (0) rid rinc rst rlo rhi rcut rbag).trans (RecValid.pure rid rinc rst rlo rhi rcut rbag hl), ?_, h⟩
  intro rs ros hk
  unfold RecValid.k at hk
  split at hk
  ·first | (cases hk; exact ⟨rfl, rfl⟩) | (rw [← Option.some.inj hk]; exact ⟨rfl, rfl⟩)
  ·cases hk
 ·cases h
def hasF (k p : Int) : Bool := if decide (p ≥ 0) && decide (p ≤ 4) then (bits BinOp.and .u8 (Int.fdiv (ofF k).2 ((2 : Int) ^ (Min.min (Int.toNat p) (IntKind.bits .u8)))) (1 : Int)) == (1 : Int) else false
def livesF (kind life epoch base : Int) : Bool :=
 if !withinF (hasF kind 2) life 0 281474976710655 || !withinF (hasF kind 2) epoch 0 65535 then false else
 if epoch == 0 && (life != 0 || kind == 9) then false else base == 0 || (hasF kind 3 && (decide (base > 0) && decide (base < epoch)))
def smallRec (r : (Int × Int × Int × (Int × Int) × Bool × LF)) : Bool := smallBag r.2.2.2.2.2
def smallRecs (l : LR) : Bool := decide (l.length < 281474976710656) && l.all smallRec
def recOkT (r : (Int × Int × Int × (Int × Int) × Bool × LF)) : Bool := recOk r.1 r.2.1 r.2.2.1 r.2.2.2.1.1 r.2.2.2.1.2 r.2.2.2.2.1 r.2.2.2.2.2
def whGo : LR → Int → Int → Int × Int
 | [], i, last => (i, last)
 | r :: l, i, last => if !recOkT r || decide (r.1 ≤ last) then (i, r.1) else whGo l (i + 1) r.1
def sortedF (l : LR) : Bool := (whGo l 0 (-1)).1 == (l.length : Int)
def validF (kind from0 inc lo hi seq target life epoch base : Int) (recs : LR) : Bool :=
 if (ofF kind).1.toList == (⟨#[]⟩ : ByteArray).toList || (decide (from0 < 0) || (decide (from0 > 4095) || (decide (inc < 0) || (decide (inc > 281474976710655) || !okS lo hi)))) then false else
 if !withinF (hasF kind 0) seq 0 65535 || (!withinF (hasF kind 1) target (if kind == 3 then 1 else 0) (if kind == 3 then 3 else 4095) || !livesF kind life epoch base) then false else
 if !hasF kind 4 then recs.length == 0 else decide ((recs.length : Int) ≤ 255) && sortedF recs
def few6Go : LF → Int → Bool
 | [], _ => true
 | x :: l, n => if decide (n + (x.2.length : Int) > 5000) then false else few6Go l (n + (x.2.length : Int))
def few6 (b : LF) : Bool := if decide ((b.length : Int) > 40) then false else few6Go b 0
def few8 (l : LR) : Bool := if decide ((l.length : Int) > 20) then false else l.all fun r => few6 r.2.2.2.2.2
def fitGo : LR → Bool
 | [] => true
 | r :: l => if decide (r.2.1 > 65535) || decide ((r.2.2.2.2.2.length : Int) > 0) then false else fitGo l
def fits1 (kind from0 inc lo hi seq target life epoch base : Int) (recs : LR) : Bool :=
 if !validF kind from0 inc lo hi seq target life epoch base recs || (kind == 9 || epoch != 0) then false else fitGo recs
def fitsL (kind from0 inc lo hi seq target life epoch base : Int) (recs : LR) : Bool :=
 if !validF kind from0 inc lo hi seq target life epoch base recs || (kind == 9 || (life != 0 || (epoch != 0 || base != 0))) then false else fitGo recs
def stateF (st lo hi : Int) (cut : Bool) : Int :=
 let v := bits .or .i64 (bits .or .i64 st (IntKind.wrap .i64 (lo * 4))) (IntKind.wrap .i64 (hi * 16))
 if cut then bits .or .i64 v 64 else v
def be : Nat → Int → List Int
 | 0, _ => []
 | n + 1, v => be n (v / 256) ++ [v % 256]
def fitsF (n v : Int) : Bool := decide (1 ≤ n) && (decide (n ≤ 7) && (decide (0 ≤ v) && decide (v < 256 ^ n.toNat)))
def s_has : Den.Sum := ⟨[.raw, .raw], fun args objs κ => match args, objs with
 | [.d (.int .i64) k, .d (.int .i64) p], [] => κ [.d .bool (hasF k p)] []
 | _, _ => none⟩
def s_lives : Den.Sum := ⟨[.dat (.pair tQi (.pair tQi (.pair tQi (.pair (.pair tQi tQi) (.pair tQi (.pair tQi (.pair tQi (.pair tQi (.pair tQi (.sl tQr)))))))))) true], fun args objs κ => match args, objs with
 | [.agg [.d (.int .i64) mkind, .d (.int .i64) mfrom0, .d (.int .i64) minc, .d (.int .i64) mlo, .d (.int .i64) mhi, .d (.int .i64) mseq, .d (.int .i64) mtarget, .d (.int .i64) mlife, .d (.int .i64) mepoch, .d (.int .i64) mbase, .d (.sl (.pair (.int .i64) (.pair (.int .i64) (.pair (.int .i64) (.pair (.pair (.int .i64) (.int .i64)) (.pair .bool (.sl (.pair (.int .i64) (.sl (.int .u8)))))))))) mrecs]], [] => κ [.d .bool (livesF mkind mlife mepoch mbase)] []
 | _, _ => none⟩
def s_srt1 : Den.Sum := ⟨[.dat tQr true, .raw], fun args objs κ => match args, objs with
 | [.agg [.d (.int .i64) rid, .d (.int .i64) rinc, .d (.int .i64) rst, .d (.int .i64) rlo, .d (.int .i64) rhi, .d .bool rcut, .d (.sl (.pair (.int .i64) (.sl (.int .u8)))) rbag], .ptr 0 0], [.box [.d (.int .i64) last]] => if smallBag rbag = true then κ [.d .bool (!recOk rid rinc rst rlo rhi rcut rbag || decide (rid ≤ last))] [.box [.d (.int .i64) rid]] else none
 | _, _ => none⟩
def s_where : Den.Sum := ⟨[.dat (.sl tQr) false, .raw], fun args objs κ => match args, objs with
 | [.d (.sl (.pair (.int .i64) (.pair (.int .i64) (.pair (.int .i64) (.pair (.pair (.int .i64) (.int .i64)) (.pair .bool (.sl (.pair (.int .i64) (.sl (.int .u8)))))))))) l, .fn (.func 117) [] [.ptr 0 0]], [.box [.d (.int .i64) last]] => if smallRecs l = true then κ [.d (.int .i64) (whGo l 0 last).1] [.box [.d (.int .i64) (whGo l 0 last).2]] else none
 | _, _ => none⟩
def s_sorted : Den.Sum := ⟨[.dat (.sl tQr) false], fun args objs κ => match args, objs with
 | [.d (.sl (.pair (.int .i64) (.pair (.int .i64) (.pair (.int .i64) (.pair (.pair (.int .i64) (.int .i64)) (.pair .bool (.sl (.pair (.int .i64) (.sl (.int .u8)))))))))) l], [] => if smallRecs l = true then κ [.d .bool (sortedF l)] [] else none
 | _, _ => none⟩
def s_valid : Den.Sum := ⟨[.dat (.pair tQi (.pair tQi (.pair tQi (.pair (.pair tQi tQi) (.pair tQi (.pair tQi (.pair tQi (.pair tQi (.pair tQi (.sl tQr)))))))))) true], fun args objs κ => match args, objs with
 | [.agg [.d (.int .i64) mkind, .d (.int .i64) mfrom0, .d (.int .i64) minc, .d (.int .i64) mlo, .d (.int .i64) mhi, .d (.int .i64) mseq, .d (.int .i64) mtarget, .d (.int .i64) mlife, .d (.int .i64) mepoch, .d (.int .i64) mbase, .d (.sl (.pair (.int .i64) (.pair (.int .i64) (.pair (.int .i64) (.pair (.pair (.int .i64) (.int .i64)) (.pair .bool (.sl (.pair (.int .i64) (.sl (.int .u8)))))))))) mrecs]], [] => if smallRecs mrecs = true then κ [.d .bool (validF mkind mfrom0 minc mlo mhi mseq mtarget mlife mepoch mbase mrecs)] [] else none
 | _, _ => none⟩
def s_few6 : Den.Sum := ⟨[.dat (.sl (.pair tQi (.sl (.int .u8)))) false], fun args objs κ => match args, objs with
 | [.d (.sl (.pair (.int .i64) (.sl (.int .u8)))) b], [] => if smallBag b = true then κ [.d .bool (few6 b)] [] else none
 | _, _ => none⟩
def s_few8 : Den.Sum := ⟨[.dat (.sl tQr) false], fun args objs κ => match args, objs with
 | [.d (.sl (.pair (.int .i64) (.pair (.int .i64) (.pair (.int .i64) (.pair (.pair (.int .i64) (.int .i64)) (.pair .bool (.sl (.pair (.int .i64) (.sl (.int .u8)))))))))) l], [] => if smallRecs l = true then κ [.d .bool (few8 l)] [] else none
 | _, _ => none⟩
def s_few10 : Den.Sum := ⟨[.dat (.pair tQi (.pair tQi (.pair tQi (.pair (.pair tQi tQi) (.pair tQi (.pair tQi (.pair tQi (.pair tQi (.pair tQi (.sl tQr)))))))))) true], fun args objs κ => match args, objs with
 | [.agg [.d (.int .i64) mkind, .d (.int .i64) mfrom0, .d (.int .i64) minc, .d (.int .i64) mlo, .d (.int .i64) mhi, .d (.int .i64) mseq, .d (.int .i64) mtarget, .d (.int .i64) mlife, .d (.int .i64) mepoch, .d (.int .i64) mbase, .d (.sl (.pair (.int .i64) (.pair (.int .i64) (.pair (.int .i64) (.pair (.pair (.int .i64) (.int .i64)) (.pair .bool (.sl (.pair (.int .i64) (.sl (.int .u8)))))))))) mrecs]], [] => if smallRecs mrecs = true then κ [.d .bool (few8 mrecs)] [] else none
 | _, _ => none⟩
def s_fits1 : Den.Sum := ⟨[.dat (.pair tQi (.pair tQi (.pair tQi (.pair (.pair tQi tQi) (.pair tQi (.pair tQi (.pair tQi (.pair tQi (.pair tQi (.sl tQr)))))))))) true], fun args objs κ => match args, objs with
 | [.agg [.d (.int .i64) mkind, .d (.int .i64) mfrom0, .d (.int .i64) minc, .d (.int .i64) mlo, .d (.int .i64) mhi, .d (.int .i64) mseq, .d (.int .i64) mtarget, .d (.int .i64) mlife, .d (.int .i64) mepoch, .d (.int .i64) mbase, .d (.sl (.pair (.int .i64) (.pair (.int .i64) (.pair (.int .i64) (.pair (.pair (.int .i64) (.int .i64)) (.pair .bool (.sl (.pair (.int .i64) (.sl (.int .u8)))))))))) mrecs]], [] => if smallRecs mrecs = true then κ [.d .bool (fits1 mkind mfrom0 minc mlo mhi mseq mtarget mlife mepoch mbase mrecs)] [] else none
 | _, _ => none⟩
def s_state : Den.Sum := ⟨[.dat tQr true], fun args objs κ => match args, objs with
 | [.agg [.d (.int .i64) rid, .d (.int .i64) rinc, .d (.int .i64) rst, .d (.int .i64) rlo, .d (.int .i64) rhi, .d .bool rcut, .d (.sl (.pair (.int .i64) (.sl (.int .u8)))) rbag]], [] => κ [.d (.int .i64) (stateF rst rlo rhi rcut)] []
 | _, _ => none⟩
def s_ofits : Den.Sum := ⟨[.raw, .raw], fun args objs κ => match args, objs with
 | [.d (.int .i64) n, .d (.int .i64) v], [] => if fitsF n v = true then κ [.d .bool true] [] else none
 | _, _ => none⟩
def MsgLives_E : Env := ⟨th, gam [(41, s_has), (109, s_within)], fun i => ⟨[], [], []⟩⟩
def MsgLives.k (rs : List AV) (os : List Den.Obj) : Option Bool :=
 match rs, os with
 | [.d .bool r0], [] => some r0
 | _, _ => none
def MsgLives.b (mkind mfrom0 minc mlo mhi mseq mtarget mlife mepoch mbase : Int) (mrecs : LR) : Option Bool :=
 (if (!(withinF (hasF mkind (2 : Int)) mlife (0 : Int) (veil (281474976710655 : Int)))) then some (false) else (if (!(withinF (hasF mkind (2 : Int)) mepoch (0 : Int) (65535 : Int))) then some (false) else (if (mepoch == (0 : Int)) then (if (mlife != (0 : Int)) then some (false) else (if (mkind == (9 : Int)) then some (false) else (if (mbase == (0 : Int)) then some (true) else (if (hasF mkind (3 : Int)) then (if (decide (mbase > (0 : Int))) then some ((decide (mbase < mepoch))) else some (false)) else some (false))))) else (if (mbase == (0 : Int)) then some (true) else (if (hasF mkind (3 : Int)) then (if (decide (mbase > (0 : Int))) then some ((decide (mbase < mepoch))) else some (false)) else some (false))))))
def MsgLives.f (fuel : Nat) (mkind mfrom0 minc mlo mhi mseq mtarget mlife mepoch mbase : Int) (mrecs : LR) : Option Bool := MsgLives.b mkind mfrom0 minc mlo mhi mseq mtarget mlife mepoch mbase mrecs
theorem MsgLives.eq (fuel : Nat) (mkind mfrom0 minc mlo mhi mseq mtarget mlife mepoch mbase : Int) (mrecs : LR) : (denF MsgLives_E loopN fuel Tryz.f110 [.raw] [.agg [.d tQi mkind, .d tQi mfrom0, .d tQi minc, .d tQi mlo, .d tQi mhi, .d tQi mseq, .d tQi mtarget, .d tQi mlife, .d tQi mepoch, .d tQi mbase, .d (.sl tQr) mrecs]] [] MsgLives.k) = MsgLives.f fuel mkind mfrom0 minc mlo mhi mseq mtarget mlife mepoch mbase mrecs := by
 kernel_rfl
def Srt1_E : Env := ⟨th, gam [(118, s_recv)], fun i => ⟨[], [], []⟩⟩
def Srt1.k (rs : List AV) (os : List Den.Obj) : Option (Bool × Int) :=
 match rs, os with
 | [.d .bool r0], [.box [.d (.int .i64) r1]] => some (r0, r1)
 | _, _ => none
def Srt1.b (rid rinc rst rlo rhi : Int) (rcut : Bool) (rbag : LF) (last : Int) : Option (Bool × Int) :=
 (if (smallBag (rinc, (rst, ((rlo, rhi), (rcut, rbag)))).2.2.2.2) then (if (!(recOk rid (rinc, (rst, ((rlo, rhi), (rcut, rbag)))).1 (rinc, (rst, ((rlo, rhi), (rcut, rbag)))).2.1 (rinc, (rst, ((rlo, rhi), (rcut, rbag)))).2.2.1.1 (rinc, (rst, ((rlo, rhi), (rcut, rbag)))).2.2.1.2 (rinc, (rst, ((rlo, rhi), (rcut, rbag)))).2.2.2.1 (rinc, (rst, ((rlo, rhi), (rcut, rbag)))).2.2.2.2)) then some (true, rid) else some ((decide (rid ≤ last)), rid)) else none)
def Srt1.f (fuel : Nat) (rid rinc rst rlo rhi : Int) (rcut : Bool) (rbag : LF) (last : Int) : Option (Bool × Int) := Srt1.b rid rinc rst rlo rhi rcut rbag last
theorem Srt1.eq (fuel : Nat) (rid rinc rst rlo rhi : Int) (rcut : Bool) (rbag : LF) (last : Int) : (denF Srt1_E loopN fuel Tryz.f117 [.raw] [.agg [.d tQi rid, .d tQi rinc, .d tQi rst, .d tQi rlo, .d tQi rhi, .d .bool rcut, .d (.sl (.pair tQi (.sl (.int .u8)))) rbag], .ptr 0 0] [.box [.d tQi last]] Srt1.k) = Srt1.f fuel rid rinc rst rlo rhi rcut rbag last := by
 kernel_rfl
def Where_E : Env := ⟨th, gam [(117, s_srt1)], fun i => if i = 2 then ⟨[0, 1, 7, 8, 9], [], []⟩ else ⟨[], [], []⟩⟩
def Where.k (rs : List AV) (os : List Den.Obj) : Option (Int × Int) :=
 match rs, os with
 | [.d (.int .i64) r0], [.box [.d (.int .i64) r1]] => some (r0, r1)
 | _, _ => none
def Where.s2 (l : LR) (last x0 x1 x2 : Int) : St := ⟨[.d (.sl tQr) (l), .fn (.func 117) [] [.ptr 0 0], dD, dD, dD, dD, dD, .d (.sl tQr) (l), .d tQi x0, .d tQi x1, dD, dD, dD, dD, dD, dD, dD, dD, dD, dD, .dead], ofL [(0, .box [.d tQi x2])], 1⟩
def Where.p2 (fuel : Nat) (l : LR) (last : Int) (k : Nat) := fun x0 x1 x2 => lp Where_E fuel Tryz.f116 [.raw] 1 Where.k 2 [] k (Where.s2 l last x0 x1 x2)
def Where.b2 (l : LR) (last : Int) (A2 : Int → Int → Int → Option (Int × Int)) (x0 : Int) (x1 : Int) (x2 : Int) : Option (Int × Int) :=
 (if (decide (x1 < x0)) then (match (idx l x1) with | none => none | some y3 => (if (smallBag (y3.2.1, (y3.2.2.1, ((y3.2.2.2.1.1, y3.2.2.2.1.2), (y3.2.2.2.2.1, y3.2.2.2.2.2)))).2.2.2.2) then (if ((!(recOk y3.1 (y3.2.1, (y3.2.2.1, ((y3.2.2.2.1.1, y3.2.2.2.1.2), (y3.2.2.2.2.1, y3.2.2.2.2.2)))).1 (y3.2.1, (y3.2.2.1, ((y3.2.2.2.1.1, y3.2.2.2.1.2), (y3.2.2.2.2.1, y3.2.2.2.2.2)))).2.1 (y3.2.1, (y3.2.2.1, ((y3.2.2.2.1.1, y3.2.2.2.1.2), (y3.2.2.2.2.1, y3.2.2.2.2.2)))).2.2.1.1 (y3.2.1, (y3.2.2.1, ((y3.2.2.2.1.1, y3.2.2.2.1.2), (y3.2.2.2.2.1, y3.2.2.2.2.2)))).2.2.1.2 (y3.2.1, (y3.2.2.1, ((y3.2.2.2.1.1, y3.2.2.2.1.2), (y3.2.2.2.2.1, y3.2.2.2.2.2)))).2.2.2.1 (y3.2.1, (y3.2.2.1, ((y3.2.2.2.1.1, y3.2.2.2.1.2), (y3.2.2.2.2.1, y3.2.2.2.2.2)))).2.2.2.2)) || (decide (y3.1 ≤ x2))) then some (x1, y3.1) else A2 x0 (IntKind.wrap .i64 (x1 + (1 : Int))) y3.1) else none)) else some (((((List.length l)) : Nat) : Int), x2))
def Where.l2 (fuel : Nat) (l : LR) (last : Int) : Nat → Int → Int → Int → Option (Int × Int)
 | 0, _, _, _ => none
 | k + 1, x0, x1, x2 => Where.b2 l last (Where.l2 fuel l last k) x0 x1 x2
def Where.b (l : LR) (last : Int) (E2 : Int → Int → Int → Option (Int × Int)) : Option (Int × Int) :=
 E2 ((((List.length l)) : Nat) : Int) (0 : Int) last
def Where.f (fuel : Nat) (l : LR) (last : Int) : Option (Int × Int) := Where.b l last (Where.l2 fuel l last fuel)
theorem Where.l2_eq (fuel : Nat) (l : LR) (last : Int) : ∀ k : Nat, Where.p2 fuel l last k = Where.l2 fuel l last k
 | 0 => by kernel_rfl
 | k + 1 => by
  refine Eq.trans (b := Where.b2 l last (Where.p2 fuel l last k)) (by kernel_rfl) ?_
  rw [Where.l2_eq fuel l last k]
  kernel_rfl
theorem Where.eq (fuel : Nat) (l : LR) (last : Int) : (denF Where_E loopN fuel Tryz.f116 [.raw] [.d (.sl tQr) l, .fn (.func 117) [] [.ptr 0 0]] [.box [.d tQi last]] Where.k) = Where.f fuel l last := by
 refine Eq.trans (b := Where.b l last (Where.p2 fuel l last fuel)) (by kernel_rfl) ?_
 rw [Where.l2_eq fuel l last fuel]
 kernel_rfl
def Sorted_E : Env := ⟨th, gam [(116, s_where)], fun i => ⟨[], [], []⟩⟩
def Sorted.k (rs : List AV) (os : List Den.Obj) : Option Bool :=
 match rs, os with
 | [.d .bool r0], [] => some r0
 | _, _ => none
def Sorted.b (l : LR) : Option Bool :=
 (if (smallRecs l) then some (((whGo l (0 : Int) (-(1 : Int))).1 == ((((List.length l)) : Nat) : Int))) else none)
def Sorted.f (fuel : Nat) (l : LR) : Option Bool := Sorted.b l
theorem Sorted.eq (fuel : Nat) (l : LR) : (denF Sorted_E loopN fuel Tryz.f96 [.raw] [.d (.sl tQr) l] [] Sorted.k) = Sorted.f fuel l := by
 kernel_rfl
def MsgValid_E : Env := ⟨th, gam [(66, s_of), (33, s_sv), (109, s_within), (41, s_has), (110, s_lives), (96, s_sorted)], fun i => ⟨[], [], []⟩⟩
def MsgValid.k (rs : List AV) (os : List Den.Obj) : Option Bool :=
 match rs, os with
 | [.d .bool r0], [] => some r0
 | _, _ => none
def MsgValid.b (mkind mfrom0 minc mlo mhi mseq mtarget mlife mepoch mbase : Int) (mrecs : LR) : Option Bool :=
 (if ((ByteArray.toList (ofF mkind).1) == (ByteArray.toList (⟨([]).toArray⟩ : ByteArray))) then some (false) else (if (decide (mfrom0 < (0 : Int))) then some (false) else (if (decide (mfrom0 > (4095 : Int))) then some (false) else (if (decide (minc < (0 : Int))) then some (false) else (if (decide (minc > (veil (281474976710655 : Int)))) then some (false) else (if (!(okS mlo mhi)) then some (false) else (if (mkind == (3 : Int)) then (if (!(withinF (hasF mkind (0 : Int)) mseq (0 : Int) (65535 : Int))) then some (false) else (if (!(withinF (hasF mkind (1 : Int)) mtarget (1 : Int) (3 : Int))) then some (false) else (if (!(livesF mkind (mfrom0, (minc, ((mlo, mhi), (mseq, (mtarget, (mlife, (mepoch, (mbase, mrecs)))))))).2.2.2.2.2.1 (mfrom0, (minc, ((mlo, mhi), (mseq, (mtarget, (mlife, (mepoch, (mbase, mrecs)))))))).2.2.2.2.2.2.1 (mfrom0, (minc, ((mlo, mhi), (mseq, (mtarget, (mlife, (mepoch, (mbase, mrecs)))))))).2.2.2.2.2.2.2.1)) then some (false) else (if (!(hasF mkind (4 : Int))) then some ((((((List.length mrecs)) : Nat) : Int) == (0 : Int))) else (if (decide (((((List.length mrecs)) : Nat) : Int) ≤ (255 : Int))) then (if (smallRecs mrecs) then some ((sortedF mrecs)) else none) else some (false)))))) else (if (!(withinF (hasF mkind (0 : Int)) mseq (0 : Int) (65535 : Int))) then some (false) else (if (!(withinF (hasF mkind (1 : Int)) mtarget (0 : Int) (4095 : Int))) then some (false) else (if (!(livesF mkind (mfrom0, (minc, ((mlo, mhi), (mseq, (mtarget, (mlife, (mepoch, (mbase, mrecs)))))))).2.2.2.2.2.1 (mfrom0, (minc, ((mlo, mhi), (mseq, (mtarget, (mlife, (mepoch, (mbase, mrecs)))))))).2.2.2.2.2.2.1 (mfrom0, (minc, ((mlo, mhi), (mseq, (mtarget, (mlife, (mepoch, (mbase, mrecs)))))))).2.2.2.2.2.2.2.1)) then some (false) else (if (!(hasF mkind (4 : Int))) then some ((((((List.length mrecs)) : Nat) : Int) == (0 : Int))) else (if (decide (((((List.length mrecs)) : Nat) : Int) ≤ (255 : Int))) then (if (smallRecs mrecs) then some ((sortedF mrecs)) else none) else some (false)))))))))))))
def MsgValid.f (fuel : Nat) (mkind mfrom0 minc mlo mhi mseq mtarget mlife mepoch mbase : Int) (mrecs : LR) : Option Bool := MsgValid.b mkind mfrom0 minc mlo mhi mseq mtarget mlife mepoch mbase mrecs
theorem MsgValid.eq (fuel : Nat) (mkind mfrom0 minc mlo mhi mseq mtarget mlife mepoch mbase : Int) (mrecs : LR) : (denF MsgValid_E loopN fuel Tryz.f76 [.raw] [.agg [.d tQi mkind, .d tQi mfrom0, .d tQi minc, .d tQi mlo, .d tQi mhi, .d tQi mseq, .d tQi mtarget, .d tQi mlife, .d tQi mepoch, .d tQi mbase, .d (.sl tQr) mrecs]] [] MsgValid.k) = MsgValid.f fuel mkind mfrom0 minc mlo mhi mseq mtarget mlife mepoch mbase mrecs := by
 kernel_rfl
def Few6_E : Env := ⟨th, gam [], fun i => if i = 5 then ⟨[0, 3, 4], [], []⟩ else ⟨[], [], []⟩⟩
def Few6.k (rs : List AV) (os : List Den.Obj) : Option Bool :=
 match rs, os with
 | [.d .bool r0], [] => some r0
 | _, _ => none
def Few6.s5 (b : LF) (x0 x1 : Int) : St := ⟨[.d (.sl (.pair tQi (.sl (.int .u8)))) (b), .dead, .dead, .d tQi x0, .d tQi x1, dD, dD, dD, dD, dD, dD, dD, dD, dD, dD, dD, dD, dD, dD, dD, dD, dD, dD, .dead], ofL [], 0⟩
def Few6.p5 (fuel : Nat) (b : LF) (k : Nat) := fun x0 x1 => lp Few6_E fuel Tryz.f28 [.raw] 0 Few6.k 5 [] k (Few6.s5 b x0 x1)
def Few6.b5 (b : LF) (A5 : Int → Int → Option Bool) (x0 x1 : Int) : Option Bool :=
 (if (decide (x1 < ((((List.length b)) : Nat) : Int))) then (match (idx b x1) with | none => none | some y2 => (if (decide ((IntKind.wrap .i64 (x0 + ((((List.length y2.2)) : Nat) : Int))) > (5000 : Int))) then some (false) else A5 (IntKind.wrap .i64 (x0 + ((((List.length y2.2)) : Nat) : Int))) (IntKind.wrap .i64 (x1 + (1 : Int))))) else some (true))
def Few6.l5 (fuel : Nat) (b : LF) : Nat → Int → Int → Option Bool
 | 0, _, _ => none
 | k + 1, x0, x1 => Few6.b5 b (Few6.l5 fuel b k) x0 x1
def Few6.b (b : LF) (E5 : Int → Int → Option Bool) : Option Bool :=
 (if (decide (((((List.length b)) : Nat) : Int) > (40 : Int))) then some (false) else E5 (0 : Int) (0 : Int))
def Few6.f (fuel : Nat) (b : LF) : Option Bool := Few6.b b (Few6.l5 fuel b fuel)
theorem Few6.l5_eq (fuel : Nat) (b : LF) : ∀ k : Nat, Few6.p5 fuel b k = Few6.l5 fuel b k
 | 0 => by kernel_rfl
 | k + 1 => by
  refine Eq.trans (b := Few6.b5 b (Few6.p5 fuel b k)) (by kernel_rfl) ?_
  rw [Few6.l5_eq fuel b k]
  kernel_rfl
theorem Few6.eq (fuel : Nat) (b : LF) : (denF Few6_E loopN fuel Tryz.f28 [.raw] [.d (.sl (.pair tQi (.sl (.int .u8)))) b] [] Few6.k) = Few6.f fuel b := by
 refine Eq.trans (b := Few6.b b (Few6.p5 fuel b fuel)) (by kernel_rfl) ?_
 rw [Few6.l5_eq fuel b fuel]
 kernel_rfl
def Few8_E : Env := ⟨th, gam [(28, s_few6)], fun i => if i = 4 then ⟨[0, 3], [], []⟩ else ⟨[], [], []⟩⟩
def Few8.k (rs : List AV) (os : List Den.Obj) : Option Bool :=
 match rs, os with
 | [.d .bool r0], [] => some r0
 | _, _ => none
def Few8.s4 (l : LR) (x0 : Int) : St := ⟨[.d (.sl tQr) (l), .dead, .dead, .d tQi x0, dD, dD, dD, dD, dD, dD, dD, dD, dD, dD, dD, dD, dD, dD, dD, .dead], ofL [], 0⟩
def Few8.p4 (fuel : Nat) (l : LR) (k : Nat) := fun x0 => lp Few8_E fuel Tryz.f8 [.raw] 0 Few8.k 4 [] k (Few8.s4 l x0)
def Few8.b4 (l : LR) (A4 : Int → Option Bool) (x0 : Int) : Option Bool :=
 (if (decide (x0 < ((((List.length l)) : Nat) : Int))) then (match (idx l x0) with | none => none | some y1 => (if (smallBag y1.2.2.2.2.2) then (if (!(few6 y1.2.2.2.2.2)) then some (false) else A4 (IntKind.wrap .i64 (x0 + (1 : Int)))) else none)) else some (true))
def Few8.l4 (fuel : Nat) (l : LR) : Nat → Int → Option Bool
 | 0, _ => none
 | k + 1, x0 => Few8.b4 l (Few8.l4 fuel l k) x0
def Few8.b (l : LR) (E4 : Int → Option Bool) : Option Bool :=
 (if (decide (((((List.length l)) : Nat) : Int) > (20 : Int))) then some (false) else E4 (0 : Int))
def Few8.f (fuel : Nat) (l : LR) : Option Bool := Few8.b l (Few8.l4 fuel l fuel)
theorem Few8.l4_eq (fuel : Nat) (l : LR) : ∀ k : Nat, Few8.p4 fuel l k = Few8.l4 fuel l k
 | 0 => by kernel_rfl
 | k + 1 => by
  refine Eq.trans (b := Few8.b4 l (Few8.p4 fuel l k)) (by kernel_rfl) ?_
  rw [Few8.l4_eq fuel l k]
  kernel_rfl
theorem Few8.eq (fuel : Nat) (l : LR) : (denF Few8_E loopN fuel Tryz.f8 [.raw] [.d (.sl tQr) l] [] Few8.k) = Few8.f fuel l := by
 refine Eq.trans (b := Few8.b l (Few8.p4 fuel l fuel)) (by kernel_rfl) ?_
 rw [Few8.l4_eq fuel l fuel]
 kernel_rfl
def Few10_E : Env := ⟨th, gam [(8, s_few8)], fun i => ⟨[], [], []⟩⟩
def Few10.k (rs : List AV) (os : List Den.Obj) : Option Bool :=
 match rs, os with
 | [.d .bool r0], [] => some r0
 | _, _ => none
def Few10.b (mkind mfrom0 minc mlo mhi mseq mtarget mlife mepoch mbase : Int) (mrecs : LR) : Option Bool :=
 (if (smallRecs mrecs) then some ((few8 mrecs)) else none)
def Few10.f (fuel : Nat) (mkind mfrom0 minc mlo mhi mseq mtarget mlife mepoch mbase : Int) (mrecs : LR) : Option Bool := Few10.b mkind mfrom0 minc mlo mhi mseq mtarget mlife mepoch mbase mrecs
theorem Few10.eq (fuel : Nat) (mkind mfrom0 minc mlo mhi mseq mtarget mlife mepoch mbase : Int) (mrecs : LR) : (denF Few10_E loopN fuel Tryz.f7 [.raw] [.agg [.d tQi mkind, .d tQi mfrom0, .d tQi minc, .d tQi mlo, .d tQi mhi, .d tQi mseq, .d tQi mtarget, .d tQi mlife, .d tQi mepoch, .d tQi mbase, .d (.sl tQr) mrecs]] [] Few10.k) = Few10.f fuel mkind mfrom0 minc mlo mhi mseq mtarget mlife mepoch mbase mrecs := by
 kernel_rfl
def Fits1_E : Env := ⟨th, gam [(76, s_valid)], fun i => if i = 4 then ⟨[19, 20, 21], [], []⟩ else ⟨[], [], []⟩⟩
def Fits1.k (rs : List AV) (os : List Den.Obj) : Option Bool :=
 match rs, os with
 | [.d .bool r0], [] => some r0
 | _, _ => none
def Fits1.s4 (mkind mfrom0 minc mlo mhi mseq mtarget mlife mepoch mbase : Int) (mrecs : LR) (x0 x1 : Int) : St := ⟨[dD, dD, dD, dD, dD, dD, dD, dD, dD, dD, dD, dD, dD, dD, dD, dD, dD, dD, dD, .d (.sl tQr) (mrecs), .d tQi x0, .d tQi x1, dD, dD, dD, dD, dD, dD, dD, dD, dD, dD, dD, dD, .dead], ofL [], 0⟩
def Fits1.p4 (fuel : Nat) (mkind mfrom0 minc mlo mhi mseq mtarget mlife mepoch mbase : Int) (mrecs : LR) (k : Nat) := fun x0 x1 => lp Fits1_E fuel Tryz.f77 [.raw] 0 Fits1.k 4 [] k (Fits1.s4 mkind mfrom0 minc mlo mhi mseq mtarget mlife mepoch mbase mrecs x0 x1)
def Fits1.b4 (mkind mfrom0 minc mlo mhi mseq mtarget mlife mepoch mbase : Int) (mrecs : LR) (A4 : Int → Int → Option Bool) (x0 x1 : Int) : Option Bool :=
 (if (decide (x1 < x0)) then (match (idx mrecs x1) with | none => none | some y2 => (if (decide (y2.2.1 > (65535 : Int))) then some (false) else (if (decide (((((List.length y2.2.2.2.2.2)) : Nat) : Int) > (0 : Int))) then some (false) else A4 x0 (IntKind.wrap .i64 (x1 + (1 : Int)))))) else some (true))
def Fits1.l4 (fuel : Nat) (mkind mfrom0 minc mlo mhi mseq mtarget mlife mepoch mbase : Int) (mrecs : LR) : Nat → Int → Int → Option Bool
 | 0, _, _ => none
 | k + 1, x0, x1 => Fits1.b4 mkind mfrom0 minc mlo mhi mseq mtarget mlife mepoch mbase mrecs (Fits1.l4 fuel mkind mfrom0 minc mlo mhi mseq mtarget mlife mepoch mbase mrecs k) x0 x1
def Fits1.b (mkind mfrom0 minc mlo mhi mseq mtarget mlife mepoch mbase : Int) (mrecs : LR) (E4 : Int → Int → Option Bool) : Option Bool :=
 (if (smallRecs (mfrom0, (minc, ((mlo, mhi), (mseq, (mtarget, (mlife, (mepoch, (mbase, mrecs)))))))).2.2.2.2.2.2.2.2) then (if (!(validF mkind (mfrom0, (minc, ((mlo, mhi), (mseq, (mtarget, (mlife, (mepoch, (mbase, mrecs)))))))).1 (mfrom0, (minc, ((mlo, mhi), (mseq, (mtarget, (mlife, (mepoch, (mbase, mrecs)))))))).2.1 (mfrom0, (minc, ((mlo, mhi), (mseq, (mtarget, (mlife, (mepoch, (mbase, mrecs)))))))).2.2.1.1 (mfrom0, (minc, ((mlo, mhi), (mseq, (mtarget, (mlife, (mepoch, (mbase, mrecs)))))))).2.2.1.2 (mfrom0, (minc, ((mlo, mhi), (mseq, (mtarget, (mlife, (mepoch, (mbase, mrecs)))))))).2.2.2.1 (mfrom0, (minc, ((mlo, mhi), (mseq, (mtarget, (mlife, (mepoch, (mbase, mrecs)))))))).2.2.2.2.1 (mfrom0, (minc, ((mlo, mhi), (mseq, (mtarget, (mlife, (mepoch, (mbase, mrecs)))))))).2.2.2.2.2.1 (mfrom0, (minc, ((mlo, mhi), (mseq, (mtarget, (mlife, (mepoch, (mbase, mrecs)))))))).2.2.2.2.2.2.1 (mfrom0, (minc, ((mlo, mhi), (mseq, (mtarget, (mlife, (mepoch, (mbase, mrecs)))))))).2.2.2.2.2.2.2.1 (mfrom0, (minc, ((mlo, mhi), (mseq, (mtarget, (mlife, (mepoch, (mbase, mrecs)))))))).2.2.2.2.2.2.2.2)) then some (false) else (if (mkind == (9 : Int)) then some (false) else (if (mepoch != (0 : Int)) then some (false) else E4 ((((List.length mrecs)) : Nat) : Int) (0 : Int)))) else none)
def Fits1.f (fuel : Nat) (mkind mfrom0 minc mlo mhi mseq mtarget mlife mepoch mbase : Int) (mrecs : LR) : Option Bool := Fits1.b mkind mfrom0 minc mlo mhi mseq mtarget mlife mepoch mbase mrecs (Fits1.l4 fuel mkind mfrom0 minc mlo mhi mseq mtarget mlife mepoch mbase mrecs fuel)
theorem Fits1.l4_eq (fuel : Nat) (mkind mfrom0 minc mlo mhi mseq mtarget mlife mepoch mbase : Int) (mrecs : LR) : ∀ k : Nat, Fits1.p4 fuel mkind mfrom0 minc mlo mhi mseq mtarget mlife mepoch mbase mrecs k = Fits1.l4 fuel mkind mfrom0 minc mlo mhi mseq mtarget mlife mepoch mbase mrecs k
 | 0 => by kernel_rfl
 | k + 1 => by
  refine Eq.trans (b := Fits1.b4 mkind mfrom0 minc mlo mhi mseq mtarget mlife mepoch mbase mrecs (Fits1.p4 fuel mkind mfrom0 minc mlo mhi mseq mtarget mlife mepoch mbase mrecs k)) (by kernel_rfl) ?_
  rw [Fits1.l4_eq fuel mkind mfrom0 minc mlo mhi mseq mtarget mlife mepoch mbase mrecs k]
  kernel_rfl
theorem Fits1.eq (fuel : Nat) (mkind mfrom0 minc mlo mhi mseq mtarget mlife mepoch mbase : Int) (mrecs : LR) : (denF Fits1_E loopN fuel Tryz.f77 [.raw] [.agg [.d tQi mkind, .d tQi mfrom0, .d tQi minc, .d tQi mlo, .d tQi mhi, .d tQi mseq, .d tQi mtarget, .d tQi mlife, .d tQi mepoch, .d tQi mbase, .d (.sl tQr) mrecs]] [] Fits1.k) = Fits1.f fuel mkind mfrom0 minc mlo mhi mseq mtarget mlife mepoch mbase mrecs := by
 refine Eq.trans (b := Fits1.b mkind mfrom0 minc mlo mhi mseq mtarget mlife mepoch mbase mrecs (Fits1.p4 fuel mkind mfrom0 minc mlo mhi mseq mtarget mlife mepoch mbase mrecs fuel)) (by kernel_rfl) ?_
 rw [Fits1.l4_eq fuel mkind mfrom0 minc mlo mhi mseq mtarget mlife mepoch mbase mrecs fuel]
 kernel_rfl
def State_E : Env := ⟨th, gam [], fun i => ⟨[], [], []⟩⟩
def State.k (rs : List AV) (os : List Den.Obj) : Option Int :=
 match rs, os with
 | [.d (.int .i64) r0], [] => some r0
 | _, _ => none
def State.b (rid rinc rst rlo rhi : Int) (rcut : Bool) (rbag : LF) : Option Int :=
 (if rcut then some ((bits BinOp.or .i64 (bits BinOp.or .i64 (bits BinOp.or .i64 rst (IntKind.wrap .i64 (rlo * ((2 : Int) ^ (Min.min (Int.toNat (2 : Int)) (IntKind.bits .i64)))))) (IntKind.wrap .i64 (rhi * ((2 : Int) ^ (Min.min (Int.toNat (4 : Int)) (IntKind.bits .i64)))))) (64 : Int))) else some ((bits BinOp.or .i64 (bits BinOp.or .i64 rst (IntKind.wrap .i64 (rlo * ((2 : Int) ^ (Min.min (Int.toNat (2 : Int)) (IntKind.bits .i64)))))) (IntKind.wrap .i64 (rhi * ((2 : Int) ^ (Min.min (Int.toNat (4 : Int)) (IntKind.bits .i64))))))))
def State.f (fuel : Nat) (rid rinc rst rlo rhi : Int) (rcut : Bool) (rbag : LF) : Option Int := State.b rid rinc rst rlo rhi rcut rbag
theorem State.eq (fuel : Nat) (rid rinc rst rlo rhi : Int) (rcut : Bool) (rbag : LF) : (denF State_E loopN fuel Tryz.f81 [.raw] [.agg [.d tQi rid, .d tQi rinc, .d tQi rst, .d tQi rlo, .d tQi rhi, .d .bool rcut, .d (.sl (.pair tQi (.sl (.int .u8)))) rbag]] [] State.k) = State.f fuel rid rinc rst rlo rhi rcut rbag := by
 kernel_rfl
theorem MsgHas.pure (k p : Int) : MsgHas.f 0 k p = some (hasF k p) := by
 unfold MsgHas.f MsgHas.b hasF
 by_cases h1 : p ≥ 0
 ·by_cases h2 : p ≤ 4
  ·rw [if_pos (by simpa using h1), if_pos (by simpa using h2), if_neg (by omega), if_pos (by simp; omega)]
  ·simp [h1, h2]
 ·simp [h1]
theorem MsgLives.pure (kind from0 inc lo hi seq target life epoch base : Int) (recs : LR) : MsgLives.f 0 kind from0 inc lo hi seq target life epoch base recs = some (livesF kind life epoch base) := by
 unfold MsgLives.f MsgLives.b livesF
 rw [veil_eq]
 cases withinF (hasF kind 2) life 0 281474976710655
 ·simp
 cases withinF (hasF kind 2) epoch 0 65535
 ·simp
 simp only [Bool.not_true, Bool.false_eq_true, if_false, Bool.or_self]
 by_cases h1 : epoch = 0 <;> by_cases h2 : life = 0 <;> by_cases h3 : kind = 9 <;> by_cases h4 : base = 0 <;> cases hasF kind 3 <;> by_cases h5 : base > 0 <;> simp [h1, h2, h3, h4, h5]
theorem Srt1.pure (id inc st lo hi : Int) (cut : Bool) (bag : LF) (last : Int) (hl : smallBag bag = true) : Srt1.f 0 id inc st lo hi cut bag last = some (!recOk id inc st lo hi cut bag || decide (id ≤ last), id) := by
 unfold Srt1.f Srt1.b
 dsimp only
 rw [hl]
 cases recOk id inc st lo hi cut bag <;> simp
theorem smallRecs_iff (l : LR) : smallRecs l = true ↔ l.length < 281474976710656 ∧ ∀ r ∈ l, smallBag r.2.2.2.2.2 = true := by
 unfold smallRecs
 simp [List.all_eq_true, smallRec]
theorem Where.loop (fuel : Nat) (l : LR) (l0 : Int) (hl : smallRecs l = true) : ∀ (k i : Nat) (last : Int), i ≤ l.length → l.length - i < k →
  Where.l2 fuel l l0 k (l.length : Int) (i : Int) last = some (whGo (l.drop i) (i : Int) last) := by
 obtain ⟨hb, hx⟩ := (smallRecs_iff l).1 hl
 intro k
 induction k with
 | zero => intro i last h1 h2; omega
 | succ k ih =>
  intro i last h1 h2
  rw [Where.l2]
  unfold Where.b2
  by_cases hi : i < l.length
  ·rw [if_pos (by simp; omega), idx_at, List.getElem?_eq_getElem hi]
   dsimp only
   rw [List.drop_eq_getElem_cons hi, hx l[i] (List.getElem_mem hi)]
   unfold whGo recOkT
   rw [if_pos rfl, wrap_small ((i : Int) + 1) (by omega) (by omega)]
   split
   ·rfl
   ·exact ih (i + 1) _ (by omega) (by omega)
  ·rw [if_neg (by simp; omega)]
   have : i = l.length := by omega
   subst this
   rw [List.drop_of_length_le (by omega)]
   rfl
theorem Where.pure (l : LR) (last : Int) (hl : smallRecs l = true) : Where.f (l.length + 1) l last = some ((whGo l 0 last).1, (whGo l 0 last).2) := by
 unfold Where.f Where.b
 exact Where.loop _ l last hl _ 0 last (by omega) (by omega)
theorem Sorted.pure (l : LR) (hl : smallRecs l = true) : Sorted.f 0 l = some (sortedF l) := by
 unfold Sorted.f Sorted.b sortedF
 rw [hl]; rfl
theorem MsgValid.pure (kind from0 inc lo hi seq target life epoch base : Int) (recs : LR) (hl : smallRecs recs = true) : MsgValid.f 0 kind from0 inc lo hi seq target life epoch base recs = some (validF kind from0 inc lo hi seq target life epoch base recs) := by
 unfold MsgValid.f MsgValid.b validF
 rw [veil_eq, hl]
 dsimp only
 cases h0 : ((ofF kind).1.toList == (⟨[].toArray⟩ : ByteArray).toList)
 case true => simp [h0]
 by_cases c1 : from0 < 0
 ·simp [h0, c1]
 by_cases c2 : from0 > 4095
 ·simp [h0, c1, c2]
 by_cases c3 : inc < 0
 ·simp [h0, c1, c2, c3]
 by_cases c4 : inc > 281474976710655
 ·simp [h0, c1, c2, c3, c4]
 cases h1 : okS lo hi
 ·simp [h0, c1, c2, c3, c4]
 simp only [h0, c1, c2, c3, c4, decide_false, Bool.or_self, Bool.not_true, Bool.false_eq_true, if_false]
 cases withinF (hasF kind 0) seq 0 65535
 ·by_cases h3 : kind = 3 <;> simp [h3]
 by_cases h3 : kind = 3
 ·subst h3
  simp only [beq_self_eq_true, if_true]
  cases withinF (hasF 3 1) target 1 3 <;> cases livesF 3 life epoch base <;> cases hasF 3 4 <;> simp
  ·exact Bool.eq_iff_iff.2 (by simp)
  ·split
   ·simp_all
   ·simp_all; omega
 ·have h3' : (kind == 3) = false := by simpa using h3
  simp only [h3', Bool.false_eq_true, if_false]
  cases withinF (hasF kind 1) target 0 4095 <;> cases livesF kind life epoch base <;> cases hasF kind 4 <;> simp
  ·exact Bool.eq_iff_iff.2 (by simp)
  ·split
   ·simp_all
   ·simp_all; omega
theorem Few6.loop (fuel : Nat) (b : LF) (hl : smallBag b = true) : ∀ (k i : Nat) (n : Int), i ≤ b.length → b.length - i < k → 0 ≤ n → n ≤ 5000 → Few6.l5 fuel b k n (i : Int) = some (few6Go (b.drop i) n) := by
 obtain ⟨hb, hx⟩ := (smallBag_iff b).1 hl
 intro k
 induction k with
 | zero => intro i n h1 h2; omega
 | succ k ih =>
  intro i n h1 h2 h3 h4
  rw [Few6.l5]
  unfold Few6.b5
  by_cases hi : i < b.length
  ·rw [if_pos (by simp; omega), idx_at, List.getElem?_eq_getElem hi]
   dsimp only
   rw [List.drop_eq_getElem_cons hi]
   have hxl := hx b[i] (List.getElem_mem hi)
   unfold few6Go
   rw [wrap_small (n + _) (by omega) (by omega), wrap_small ((i : Int) + 1) (by omega) (by omega)]
   split
   ·rfl
   ·rename_i hh
    exact ih (i + 1) _ (by omega) (by omega) (by omega) (by simpa using hh)
  ·rw [if_neg (by simp; omega), List.drop_of_length_le (by omega)]
   rfl
theorem Few6.pure (b : LF) (hl : smallBag b = true) : Few6.f (b.length + 1) b = some (few6 b) := by
 unfold Few6.f Few6.b few6
 split
 ·rfl
 ·exact Few6.loop _ b hl _ 0 0 (by omega) (by omega) (by omega) (by omega)
theorem Few8.loop (fuel : Nat) (l : LR) (hl : smallRecs l = true) : ∀ (k i : Nat), i ≤ l.length → l.length - i < k → Few8.l4 fuel l k (i : Int) = some ((l.drop i).all fun r => few6 r.2.2.2.2.2) := by
 obtain ⟨hb, hx⟩ := (smallRecs_iff l).1 hl
 intro k
 induction k with
 | zero => intro i h1 h2; omega
 | succ k ih =>
  intro i h1 h2
  rw [Few8.l4]
  unfold Few8.b4
  by_cases hi : i < l.length
  ·rw [if_pos (by simp; omega), idx_at, List.getElem?_eq_getElem hi]
   dsimp only
   rw [List.drop_eq_getElem_cons hi, hx l[i] (List.getElem_mem hi), if_pos rfl, wrap_small ((i : Int) + 1) (by omega) (by omega), List.all_cons]
   cases few6 l[i].2.2.2.2.2
   ·rfl
   ·simp only [Bool.not_true, Bool.false_eq_true, if_false, Bool.true_and]
    exact ih (i + 1) (by omega) (by omega)
  ·rw [if_neg (by simp; omega), List.drop_of_length_le (by omega)]
   rfl
theorem Few8.pure (l : LR) (hl : smallRecs l = true) : Few8.f (l.length + 1) l = some (few8 l) := by
 unfold Few8.f Few8.b few8
 split
 ·rfl
 ·exact Few8.loop _ l hl _ 0 (by omega) (by omega)
theorem Few10.pure (kind from0 inc lo hi seq target life epoch base : Int) (recs : LR) (hl : smallRecs recs = true) : Few10.f 0 kind from0 inc lo hi seq target life epoch base recs = some (few8 recs) := by
 unfold Few10.f Few10.b
 rw [hl]; rfl
theorem Fits1.loop (fuel : Nat) (kind from0 inc lo hi seq target life epoch base : Int) (l : LR) (hl : l.length < 281474976710656) : ∀ (k i : Nat), i ≤ l.length → l.length - i < k → Fits1.l4 fuel kind from0 inc lo hi seq target life epoch base l k (l.length : Int) (i : Int) = some (fitGo (l.drop i)) := by
 intro k
 induction k with
 | zero => intro i h1 h2; omega
 | succ k ih =>
  intro i h1 h2
  rw [Fits1.l4]
  unfold Fits1.b4
  by_cases hi : i < l.length
  ·rw [if_pos (by simp; omega), idx_at, List.getElem?_eq_getElem hi]
   dsimp only
   rw [List.drop_eq_getElem_cons hi, wrap_small ((i : Int) + 1) (by omega) (by omega)]
   unfold fitGo
   by_cases c1 : l[i].2.1 > 65535
   ·simp [c1]
   ·by_cases c2 : ((l[i].2.2.2.2.2.length : Nat) : Int) > 0
    ·rw [if_neg (by simpa using c1), if_pos (by simpa using c2), if_pos (by simp; right; simpa using c2)]
    ·rw [if_neg (by simpa using c1), if_neg (by simpa using c2), if_neg (by simp; exact ⟨by omega, by simpa using c2⟩)]
     exact ih (i + 1) (by omega) (by omega)
  ·rw [if_neg (by simp; omega), List.drop_of_length_le (by omega)]
   rfl
theorem Fits1.pure (kind from0 inc lo hi seq target life epoch base : Int) (recs : LR) (hl : smallRecs recs = true) : Fits1.f (recs.length + 1) kind from0 inc lo hi seq target life epoch base recs = some (fits1 kind from0 inc lo hi seq target life epoch base recs) := by
 unfold Fits1.f Fits1.b fits1
 dsimp only
 have := Fits1.loop (recs.length + 1) kind from0 inc lo hi seq target life epoch base recs ((smallRecs_iff recs).1 hl).1 (recs.length + 1) 0 (by omega) (by omega)
 rw [hl, if_pos rfl]
 cases validF kind from0 inc lo hi seq target life epoch base recs
 ·rfl
 ·by_cases h1 : kind = 9
  ·simp [h1]
  ·by_cases h2 : epoch = 0
   ·subst h2
    have h1' : (kind == 9) = false := by simpa using h1
    simp only [h1', bne_self_eq_false, Bool.false_eq_true, if_false, Bool.or_self, Bool.not_true]
    exact this
   ·have h1' : (kind == 9) = false := by simpa using h1
    simp [h1', h2]
theorem State.pure (id inc st lo hi : Int) (cut : Bool) (bag : LF) : State.f 0 id inc st lo hi cut bag = some (stateF st lo hi cut) := by
 unfold State.f State.b stateF
 cases cut <;> rfl
theorem fitsF_iff (n v : Int) : fitsF n v = true ↔ 1 ≤ n ∧ n ≤ 7 ∧ 0 ≤ v ∧ v < 256 ^ n.toNat := by
 unfold fitsF
 simp only [Bool.and_eq_true, decide_eq_true_eq]
theorem fdiv_zero (v m : Int) (h0 : 0 ≤ v) (hm : v < m) : Int.fdiv v m = 0 := by
 rw [Int.fdiv_eq_ediv_of_nonneg _ (by omega)]
 exact Int.ediv_eq_zero_of_lt h0 hm
theorem pow8 (n : Int) (h1 : 1 ≤ n) (h7 : n ≤ 7) : ((2 : Int) ^ (Min.min (Int.toNat (IntKind.wrap .i64 ((8 : Int) * n))) (IntKind.bits .i64))) = 256 ^ n.toNat := by
 have : n = 1 ∨ n = 2 ∨ n = 3 ∨ n = 4 ∨ n = 5 ∨ n = 6 ∨ n = 7 := by omega
 rcases this with rfl | rfl | rfl | rfl | rfl | rfl | rfl <;> rfl
theorem OctFits.pure (n v : Int) (hl : fitsF n v = true) : OctFits.f 0 n v = some true := by
 obtain ⟨h1, h2, h3, h4⟩ := (fitsF_iff n v).1 hl
 unfold OctFits.f OctFits.b
 rw [if_pos (by simpa using h1), if_pos (by simpa using h2), if_pos (by simpa using h3), if_neg (by rw [wrap_small _ (by omega) (by omega)]; omega), pow8 n h1 h2, fdiv_zero v _ h3 h4]
 rfl
theorem s_has_det : SumDet s_has := sdet fun _ _ _ _ => by
 unfold s_has
 simp only
 split
 ·first | rfl | (split <;> rfl)
 ·rfl
theorem s_has_ok : SumOk Tryz.prog 41 s_has := by
 have hE : EnvOk Tryz.prog MsgHas_E := env_ok (l := [(66, s_of)]) th_ok any_ok ⟨⟨s_of_ok, s_of_det⟩, trivial⟩ _
 refine sum_ok hE Tryz.func41 rfl (by kernel_rfl) s_has [.raw] MsgHas.k ?_
 intro R avs objs κ r h
 unfold s_has at h
 simp only at h
 split at h
 ·rename_i k p
  refine ⟨0, _, _, _, (MsgHas.eq (0) k p).trans (MsgHas.pure k p), ?_, h⟩
  intro rs ros hk
  unfold MsgHas.k at hk
  split at hk
  ·first | (cases hk; exact ⟨rfl, rfl⟩) | (rw [← Option.some.inj hk]; exact ⟨rfl, rfl⟩)
  ·cases hk
 ·cases h
theorem s_lives_det : SumDet s_lives := sdet fun _ _ _ _ => by
 unfold s_lives
 simp only
 split
 ·first | rfl | (split <;> rfl)
 ·rfl
theorem s_lives_ok : SumOk Tryz.prog 110 s_lives := by
 have hE : EnvOk Tryz.prog MsgLives_E := env_ok (l := [(41, s_has), (109, s_within)]) th_ok any_ok ⟨⟨s_has_ok, s_has_det⟩, ⟨s_within_ok, s_within_det⟩, trivial⟩ _
 refine sum_ok hE Tryz.func110 rfl (by kernel_rfl) s_lives [.raw] MsgLives.k ?_
 intro R avs objs κ r h
 unfold s_lives at h
 simp only at h
 split at h
 ·rename_i mkind mfrom0 minc mlo mhi mseq mtarget mlife mepoch mbase mrecs
  refine ⟨0, _, _, _, (MsgLives.eq (0) mkind mfrom0 minc mlo mhi mseq mtarget mlife mepoch mbase mrecs).trans (MsgLives.pure mkind mfrom0 minc mlo mhi mseq mtarget mlife mepoch mbase mrecs), ?_, h⟩
  intro rs ros hk
  unfold MsgLives.k at hk
  split at hk
  ·first | (cases hk; exact ⟨rfl, rfl⟩) | (rw [← Option.some.inj hk]; exact ⟨rfl, rfl⟩)
  ·cases hk
 ·cases h
theorem s_srt1_det : SumDet s_srt1 := sdet fun _ _ _ _ => by
 unfold s_srt1
 simp only
 split
 ·first | rfl | (split <;> rfl)
 ·rfl
theorem s_srt1_ok : SumOk Tryz.prog 117 s_srt1 := by
 have hE : EnvOk Tryz.prog Srt1_E := env_ok (l := [(118, s_recv)]) th_ok any_ok ⟨⟨s_recv_ok, s_recv_det⟩, trivial⟩ _
 refine sum_ok hE Tryz.func117 rfl (by kernel_rfl) s_srt1 [.raw] Srt1.k ?_
 intro R avs objs κ r h
 unfold s_srt1 at h
 simp only at h
 split at h
 ·rename_i rid rinc rst rlo rhi rcut rbag last
  split at h
  case isFalse => cases h
  rename_i hl
  refine ⟨0, _, _, _, (Srt1.eq (0) rid rinc rst rlo rhi rcut rbag last).trans (Srt1.pure rid rinc rst rlo rhi rcut rbag last hl), ?_, h⟩
  intro rs ros hk
  unfold Srt1.k at hk
  split at hk
  ·first | (cases hk; exact ⟨rfl, rfl⟩) | (rw [← Option.some.inj hk]; exact ⟨rfl, rfl⟩)
  ·cases hk
 ·cases h
theorem s_where_det : SumDet s_where := sdet fun _ _ _ _ => by
 unfold s_where
 simp only
 split
 ·first | rfl | (split <;> rfl)
 ·rfl
theorem s_where_ok : SumOk Tryz.prog 116 s_where := by
 have hE : EnvOk Tryz.prog Where_E := env_ok (l := [(117, s_srt1)]) th_ok any_ok ⟨⟨s_srt1_ok, s_srt1_det⟩, trivial⟩ _
 refine sum_ok hE Tryz.func116 rfl (by kernel_rfl) s_where [.raw] Where.k ?_
 intro R avs objs κ r h
 unfold s_where at h
 simp only at h
 split at h
 ·rename_i l last
  split at h
  case isFalse => cases h
  rename_i hl
  refine ⟨l.length + 1, _, _, _, (Where.eq (l.length + 1) l last).trans (Where.pure l last hl), ?_, h⟩
  intro rs ros hk
  unfold Where.k at hk
  split at hk
  ·first | (cases hk; exact ⟨rfl, rfl⟩) | (rw [← Option.some.inj hk]; exact ⟨rfl, rfl⟩)
  ·cases hk
 ·cases h
theorem s_sorted_det : SumDet s_sorted := sdet fun _ _ _ _ => by
 unfold s_sorted
 simp only
 split
 ·first | rfl | (split <;> rfl)
 ·rfl
theorem s_sorted_ok : SumOk Tryz.prog 96 s_sorted := by
 have hE : EnvOk Tryz.prog Sorted_E := env_ok (l := [(116, s_where)]) th_ok any_ok ⟨⟨s_where_ok, s_where_det⟩, trivial⟩ _
 refine sum_ok hE Tryz.func96 rfl (by kernel_rfl) s_sorted [.raw] Sorted.k ?_
 intro R avs objs κ r h
 unfold s_sorted at h
 simp only at h
 split at h
 ·rename_i l
  split at h
  case isFalse => cases h
  rename_i hl
  refine ⟨0, _, _, _, (Sorted.eq (0) l).trans (Sorted.pure l hl), ?_, h⟩
  intro rs ros hk
  unfold Sorted.k at hk
  split at hk
  ·first | (cases hk; exact ⟨rfl, rfl⟩) | (rw [← Option.some.inj hk]; exact ⟨rfl, rfl⟩)
  ·cases hk
 ·cases h
theorem s_valid_det : SumDet s_valid := sdet fun _ _ _ _ => by
 unfold s_valid
 simp only
 split
 ·first | rfl | (split <;> rfl)
 ·rfl
theorem s_valid_ok : SumOk Tryz.prog 76 s_valid := by
 have hE : EnvOk Tryz.prog MsgValid_E := env_ok (l := [(66, s_of), (33, s_sv), (109, s_within), (41, s_has), (110, s_lives), (96, s_sorted)]) th_ok any_ok ⟨⟨s_of_ok, s_of_det⟩, ⟨s_sv_ok, s_sv_det⟩, ⟨s_within_ok, s_within_det⟩, ⟨s_has_ok, s_has_det⟩, ⟨s_lives_ok, s_lives_det⟩, ⟨s_sorted_ok, s_sorted_det⟩, trivial⟩ _
 refine sum_ok hE Tryz.func76 rfl (by kernel_rfl) s_valid [.raw] MsgValid.k ?_
 intro R avs objs κ r h
 unfold s_valid at h
 simp only at h
 split at h
 ·rename_i mkind mfrom0 minc mlo mhi mseq mtarget mlife mepoch mbase mrecs
  split at h
  case isFalse => cases h
  rename_i hl
  refine ⟨0, _, _, _, (MsgValid.eq (0) mkind mfrom0 minc mlo mhi mseq mtarget mlife mepoch mbase mrecs).trans (MsgValid.pure mkind mfrom0 minc mlo mhi mseq mtarget mlife mepoch mbase mrecs hl), ?_, h⟩
  intro rs ros hk
  unfold MsgValid.k at hk
  split at hk
  ·first | (cases hk; exact ⟨rfl, rfl⟩) | (rw [← Option.some.inj hk]; exact ⟨rfl, rfl⟩)
  ·cases hk
 ·cases h
theorem s_few6_det : SumDet s_few6 := sdet fun _ _ _ _ => by
 unfold s_few6
 simp only
 split
 ·first | rfl | (split <;> rfl)
 ·rfl
theorem s_few6_ok : SumOk Tryz.prog 28 s_few6 := by
 have hE : EnvOk Tryz.prog Few6_E := env_ok (l := []) th_ok any_ok trivial _
 refine sum_ok hE Tryz.func28 rfl (by kernel_rfl) s_few6 [.raw] Few6.k ?_
 intro R avs objs κ r h
 unfold s_few6 at h
 simp only at h
 split at h
 ·rename_i b
  split at h
  case isFalse => cases h
  rename_i hl
  refine ⟨b.length + 1, _, _, _, (Few6.eq (b.length + 1) b).trans (Few6.pure b hl), ?_, h⟩
  intro rs ros hk
  unfold Few6.k at hk
  split at hk
  ·first | (cases hk; exact ⟨rfl, rfl⟩) | (rw [← Option.some.inj hk]; exact ⟨rfl, rfl⟩)
  ·cases hk
 ·cases h
theorem s_few8_det : SumDet s_few8 := sdet fun _ _ _ _ => by
 unfold s_few8
 simp only
 split
 ·first | rfl | (split <;> rfl)
 ·rfl
theorem s_few8_ok : SumOk Tryz.prog 8 s_few8 := by
 have hE : EnvOk Tryz.prog Few8_E := env_ok (l := [(28, s_few6)]) th_ok any_ok ⟨⟨s_few6_ok, s_few6_det⟩, trivial⟩ _
 refine sum_ok hE Tryz.func8 rfl (by kernel_rfl) s_few8 [.raw] Few8.k ?_
 intro R avs objs κ r h
 unfold s_few8 at h
 simp only at h
 split at h
 ·rename_i l
  split at h
  case isFalse => cases h
  rename_i hl
  refine ⟨l.length + 1, _, _, _, (Few8.eq (l.length + 1) l).trans (Few8.pure l hl), ?_, h⟩
  intro rs ros hk
  unfold Few8.k at hk
  split at hk
  ·first | (cases hk; exact ⟨rfl, rfl⟩) | (rw [← Option.some.inj hk]; exact ⟨rfl, rfl⟩)
  ·cases hk
 ·cases h
theorem s_few10_det : SumDet s_few10 := sdet fun _ _ _ _ => by
 unfold s_few10
 simp only
 split
 ·first | rfl | (split <;> rfl)
 ·rfl
theorem s_few10_ok : SumOk Tryz.prog 7 s_few10 := by
 have hE : EnvOk Tryz.prog Few10_E := env_ok (l := [(8, s_few8)]) th_ok any_ok ⟨⟨s_few8_ok, s_few8_det⟩, trivial⟩ _
 refine sum_ok hE Tryz.func7 rfl (by kernel_rfl) s_few10 [.raw] Few10.k ?_
 intro R avs objs κ r h
 unfold s_few10 at h
 simp only at h
 split at h
 ·rename_i mkind mfrom0 minc mlo mhi mseq mtarget mlife mepoch mbase mrecs
  split at h
  case isFalse => cases h
  rename_i hl
  refine ⟨0, _, _, _, (Few10.eq (0) mkind mfrom0 minc mlo mhi mseq mtarget mlife mepoch mbase mrecs).trans (Few10.pure mkind mfrom0 minc mlo mhi mseq mtarget mlife mepoch mbase mrecs hl), ?_, h⟩
  intro rs ros hk
  unfold Few10.k at hk
  split at hk
  ·first | (cases hk; exact ⟨rfl, rfl⟩) | (rw [← Option.some.inj hk]; exact ⟨rfl, rfl⟩)
  ·cases hk
 ·cases h
theorem s_fits1_det : SumDet s_fits1 := sdet fun _ _ _ _ => by
 unfold s_fits1
 simp only
 split
 ·first | rfl | (split <;> rfl)
 ·rfl
theorem s_fits1_ok : SumOk Tryz.prog 77 s_fits1 := by
 have hE : EnvOk Tryz.prog Fits1_E := env_ok (l := [(76, s_valid)]) th_ok any_ok ⟨⟨s_valid_ok, s_valid_det⟩, trivial⟩ _
 refine sum_ok hE Tryz.func77 rfl (by kernel_rfl) s_fits1 [.raw] Fits1.k ?_
 intro R avs objs κ r h
 unfold s_fits1 at h
 simp only at h
 split at h
 ·rename_i mkind mfrom0 minc mlo mhi mseq mtarget mlife mepoch mbase mrecs
  split at h
  case isFalse => cases h
  rename_i hl
  refine ⟨mrecs.length + 1, _, _, _, (Fits1.eq (mrecs.length + 1) mkind mfrom0 minc mlo mhi mseq mtarget mlife mepoch mbase mrecs).trans (Fits1.pure mkind mfrom0 minc mlo mhi mseq mtarget mlife mepoch mbase mrecs hl), ?_, h⟩
  intro rs ros hk
  unfold Fits1.k at hk
  split at hk
  ·first | (cases hk; exact ⟨rfl, rfl⟩) | (rw [← Option.some.inj hk]; exact ⟨rfl, rfl⟩)
  ·cases hk
 ·cases h
theorem s_state_det : SumDet s_state := sdet fun _ _ _ _ => by
 unfold s_state
 simp only
 split
 ·first | rfl | (split <;> rfl)
 ·rfl
theorem s_state_ok : SumOk Tryz.prog 81 s_state := by
 have hE : EnvOk Tryz.prog State_E := env_ok (l := []) th_ok any_ok trivial _
 refine sum_ok hE Tryz.func81 rfl (by kernel_rfl) s_state [.raw] State.k ?_
 intro R avs objs κ r h
 unfold s_state at h
 simp only at h
 split at h
 ·rename_i rid rinc rst rlo rhi rcut rbag
  refine ⟨0, _, _, _, (State.eq (0) rid rinc rst rlo rhi rcut rbag).trans (State.pure rid rinc rst rlo rhi rcut rbag), ?_, h⟩
  intro rs ros hk
  unfold State.k at hk
  split at hk
  ·first | (cases hk; exact ⟨rfl, rfl⟩) | (rw [← Option.some.inj hk]; exact ⟨rfl, rfl⟩)
  ·cases hk
 ·cases h
theorem s_ofits_det : SumDet s_ofits := sdet fun _ _ _ _ => by
 unfold s_ofits
 simp only
 split
 ·first | rfl | (split <;> rfl)
 ·rfl
theorem s_ofits_ok : SumOk Tryz.prog 111 s_ofits := by
 have hE : EnvOk Tryz.prog OctFits_E := env_ok (l := []) th_ok any_ok trivial _
 refine sum_ok hE Tryz.func111 rfl (by kernel_rfl) s_ofits [.raw] OctFits.k ?_
 intro R avs objs κ r h
 unfold s_ofits at h
 simp only at h
 split at h
 ·rename_i n v
  split at h
  case isFalse => cases h
  rename_i hl
  refine ⟨0, _, _, _, (OctFits.eq (0) n v).trans (OctFits.pure n v hl), ?_, h⟩
  intro rs ros hk
  unfold OctFits.k at hk
  split at hk
  ·first | (cases hk; exact ⟨rfl, rfl⟩) | (rw [← Option.some.inj hk]; exact ⟨rfl, rfl⟩)
  ·cases hk
 ·cases h
def roomy (l : List Int) : Bool := decide (l.length < 1099511600000)
def s_write : Den.Sum := ⟨[], fun args objs κ => match args, objs with
 | [], [] => κ [.ptr 0 0] [.box [.nilsl, .d .bool false]]
 | _, _ => none⟩
def s_num : Den.Sum := ⟨[.raw, .raw, .raw], fun args objs κ => match args, objs with
 | [.ptr 0 0, .d (.int .i64) n, .d (.int .i64) v], [.box [.nilsl, .d .bool false]] => if fitsF n v = true then κ [.ptr 0 0] [.box [.row 1, .d .bool false], .row 5 (.int .u8) (be n.toNat v) false] else none
 | [.ptr 0 0, .d (.int .i64) n, .d (.int .i64) v], [.box [.row 1, .d .bool false], .row 5 (.int .u8) l false] => if fitsF n v = true ∧ roomy l = true then κ [.ptr 0 0] [.box [.row 2, .d .bool false], .gone, .row 5 (.int .u8) (l ++ be n.toNat v) false] else none
 | _, _ => none⟩
def s_bytes : Den.Sum := ⟨[.raw], fun args objs κ => match args, objs with
 | [.ptr 0 0], [.box [.row 1, .d .bool false], .row 5 (.int .u8) l false] => if roomy l = true then κ [.d (.sl (.int .u8)) l, .d .bool true] [.box [.row 1, .d .bool false], .row 5 (.int .u8) l false] else none
 | _, _ => none⟩
def OWrite_E : Env := ⟨th, gam [], fun i => ⟨[], [], []⟩⟩
def OWrite.k (rs : List AV) (os : List Den.Obj) : Option Bool :=
 match rs, os with
 | [.ptr 0 0], [.box [.nilsl, .d .bool r0]] => some r0
 | _, _ => none
def OWrite.b (u : Unit) : Option Bool :=
 some (false)
def OWrite.f (fuel : Nat) (u : Unit) : Option Bool := OWrite.b u
theorem OWrite.eq (fuel : Nat) (u : Unit) : (denF OWrite_E loopN fuel Tryz.f78 [.raw] [] [] OWrite.k) = OWrite.f fuel u := by
 kernel_rfl
def NumN_E : Env := ⟨th, gam [(111, s_ofits)], fun i => if i = 7 then ⟨[0, 2, 7], [(1000, 5, (.int .u8))], [1001]⟩ else ⟨[], [], []⟩⟩
def NumN.k (rs : List AV) (os : List Den.Obj) : Option (Bool × (List Int)) :=
 match rs, os with
 | [.ptr 0 0], [.box [.row 1, .d .bool r0], .row 5 (.int .u8) r1 false] => some (r0, r1)
 | _, _ => none
def NumN.s7 (n v x0 : Int) (x1 : (List Int)) : St := ⟨[.ptr 0 0, .dead, .d tQi (v), dD, dD, dD, dD, .d tQi x0, dD, dD, dD, dD, dD, dD, dD, dD, dD, dD, dD, dD, dD, dD, dD, dD, dD, dD, dD, dD, dD, dD, dD, dD, dD, dD, dD, dD, dD, dD, dD, dD, dD, dD, dD, dD, dD, .dead], ofL [(0, .box [.row 64, .d .bool (false)]), (64, .row 5 (.int .u8) x1 false)], 1⟩
def NumN.p7 (fuel : Nat) (n v : Int) (k : Nat) := fun x0 x1 => lp NumN_E fuel Tryz.f79 [.raw] 1 NumN.k 7 [] k (NumN.s7 n v x0 x1)
def NumN.b7 (n v : Int) (A7 : Int → (List Int) → Option (Bool × (List Int))) (x0 : Int) (x1 : (List Int)) : Option (Bool × (List Int)) :=
 (if (decide (x0 ≥ (0 : Int))) then (if ((IntKind.wrap .i64 ((8 : Int) * x0)) < (0 : Int)) then none else (if ((((List.length x1) + (List.length ((IntKind.wrap .u8 (Int.fdiv v ((2 : Int) ^ (Min.min (Int.toNat (IntKind.wrap .i64 ((8 : Int) * x0))) (IntKind.bits .i64))))) :: []))) * (1 : Nat)) ≤ lim) then A7 (IntKind.wrap .i64 (x0 - (1 : Int))) (x1 ++ ((IntKind.wrap .u8 (Int.fdiv v ((2 : Int) ^ (Min.min (Int.toNat (IntKind.wrap .i64 ((8 : Int) * x0))) (IntKind.bits .i64))))) :: [])) else none)) else some (false, x1))
def NumN.l7 (fuel : Nat) (n v : Int) : Nat → Int → (List Int) → Option (Bool × (List Int))
 | 0, _, _ => none
 | k + 1, x0, x1 => NumN.b7 n v (NumN.l7 fuel n v k) x0 x1
def NumN.b (n v : Int) (E7 : Int → (List Int) → Option (Bool × (List Int))) : Option (Bool × (List Int)) :=
 (if (fitsF n v) then E7 (IntKind.wrap .i64 (n - (1 : Int))) [] else none)
def NumN.f (fuel : Nat) (n v : Int) : Option (Bool × (List Int)) := NumN.b n v (NumN.l7 fuel n v fuel)
theorem NumN.l7_eq (fuel : Nat) (n v : Int) : ∀ k : Nat, NumN.p7 fuel n v k = NumN.l7 fuel n v k
 | 0 => by kernel_rfl
 | k + 1 => by
  refine Eq.trans (b := NumN.b7 n v (NumN.p7 fuel n v k)) (by kernel_rfl) ?_
  rw [NumN.l7_eq fuel n v k]
  kernel_rfl
theorem NumN.eq (fuel : Nat) (n v : Int) : (denF NumN_E loopN fuel Tryz.f79 [.raw] [.ptr 0 0, .d tQi n, .d tQi v] [.box [.nilsl, .d .bool false]] NumN.k) = NumN.f fuel n v := by
 refine Eq.trans (b := NumN.b n v (NumN.p7 fuel n v fuel)) (by kernel_rfl) ?_
 rw [NumN.l7_eq fuel n v fuel]
 kernel_rfl
def NumR_E : Env := ⟨th, gam [(111, s_ofits)], fun i => if i = 7 then ⟨[0, 2, 7], [(1000, 5, (.int .u8))], [1001]⟩ else ⟨[], [], []⟩⟩
def NumR.k (rs : List AV) (os : List Den.Obj) : Option (Bool × (List Int)) :=
 match rs, os with
 | [.ptr 0 0], [.box [.row 2, .d .bool r0], .gone, .row 5 (.int .u8) r1 false] => some (r0, r1)
 | _, _ => none
def NumR.s7 (n v : Int) (l : List Int) (x0 : Int) (x1 : (List Int)) : St := ⟨[.ptr 0 0, .dead, .d tQi (v), dD, dD, dD, dD, .d tQi x0, dD, dD, dD, dD, dD, dD, dD, dD, dD, dD, dD, dD, dD, dD, dD, dD, dD, dD, dD, dD, dD, dD, dD, dD, dD, dD, dD, dD, dD, dD, dD, dD, dD, dD, dD, dD, dD, .dead], ofL [(0, .box [.row 64, .d .bool (false)]), (1, .gone), (64, .row 5 (.int .u8) x1 false)], 2⟩
def NumR.p7 (fuel : Nat) (n v : Int) (l : List Int) (k : Nat) := fun x0 x1 => lp NumR_E fuel Tryz.f79 [.raw] 2 NumR.k 7 [] k (NumR.s7 n v l x0 x1)
def NumR.b7 (n v : Int) (l : List Int) (A7 : Int → (List Int) → Option (Bool × (List Int))) (x0 : Int) (x1 : (List Int)) : Option (Bool × (List Int)) :=
 (if (decide (x0 ≥ (0 : Int))) then (if ((IntKind.wrap .i64 ((8 : Int) * x0)) < (0 : Int)) then none else (if ((((List.length x1) + (List.length ((IntKind.wrap .u8 (Int.fdiv v ((2 : Int) ^ (Min.min (Int.toNat (IntKind.wrap .i64 ((8 : Int) * x0))) (IntKind.bits .i64))))) :: []))) * (1 : Nat)) ≤ lim) then A7 (IntKind.wrap .i64 (x0 - (1 : Int))) (x1 ++ ((IntKind.wrap .u8 (Int.fdiv v ((2 : Int) ^ (Min.min (Int.toNat (IntKind.wrap .i64 ((8 : Int) * x0))) (IntKind.bits .i64))))) :: [])) else none)) else some (false, x1))
def NumR.l7 (fuel : Nat) (n v : Int) (l : List Int) : Nat → Int → (List Int) → Option (Bool × (List Int))
 | 0, _, _ => none
 | k + 1, x0, x1 => NumR.b7 n v l (NumR.l7 fuel n v l k) x0 x1
def NumR.b (n v : Int) (l : List Int) (E7 : Int → (List Int) → Option (Bool × (List Int))) : Option (Bool × (List Int)) :=
 (if (fitsF n v) then E7 (IntKind.wrap .i64 (n - (1 : Int))) l else none)
def NumR.f (fuel : Nat) (n v : Int) (l : List Int) : Option (Bool × (List Int)) := NumR.b n v l (NumR.l7 fuel n v l fuel)
theorem NumR.l7_eq (fuel : Nat) (n v : Int) (l : List Int) : ∀ k : Nat, NumR.p7 fuel n v l k = NumR.l7 fuel n v l k
 | 0 => by kernel_rfl
 | k + 1 => by
  refine Eq.trans (b := NumR.b7 n v l (NumR.p7 fuel n v l k)) (by kernel_rfl) ?_
  rw [NumR.l7_eq fuel n v l k]
  kernel_rfl
theorem NumR.eq (fuel : Nat) (n v : Int) (l : List Int) : (denF NumR_E loopN fuel Tryz.f79 [.raw] [.ptr 0 0, .d tQi n, .d tQi v] [.box [.row 1, .d .bool false], .row 5 (.int .u8) l false] NumR.k) = NumR.f fuel n v l := by
 refine Eq.trans (b := NumR.b n v l (NumR.p7 fuel n v l fuel)) (by kernel_rfl) ?_
 rw [NumR.l7_eq fuel n v l fuel]
 kernel_rfl
def OBytes_E : Env := ⟨th, gam [], fun i => ⟨[], [], []⟩⟩
def OBytes.k (rs : List AV) (os : List Den.Obj) : Option ((List Int) × Bool × Bool × (List Int)) :=
 match rs, os with
 | [.d (.sl (.int .u8)) r0, .d .bool r1], [.box [.row 1, .d .bool r2], .row 5 (.int .u8) r3 false] => some (r0, r1, r2, r3)
 | _, _ => none
def OBytes.b (l : List Int) : Option ((List Int) × Bool × Bool × (List Int)) :=
 (if (((0 : Int) ≤ ((((List.length l)) : Nat) : Int)) ∧ ((((((List.length l)) : Nat) : Int) ≤ ((((List.length l)) : Nat) : Int)) ∧ (((((((List.length l)) : Nat) : Int) * ((((1 : Nat)) : Nat) : Int)) ≤ (1099511627776 : Int)) ∧ (((((List.length l)) : Nat) : Int) ≤ (1099511627776 : Int))))) then (if ((false = false) ∧ ((List.length l) ≤ (List.length (List.replicate (Int.toNat ((((List.length l)) : Nat) : Int)) (zeroI (Go.Den.Ty.int .u8)))))) then some ((l ++ (List.drop (List.length l) (List.replicate (Int.toNat ((((List.length l)) : Nat) : Int)) (zeroI (Go.Den.Ty.int .u8))))), true, false, l) else none) else none)
def OBytes.f (fuel : Nat) (l : List Int) : Option ((List Int) × Bool × Bool × (List Int)) := OBytes.b l
theorem OBytes.eq (fuel : Nat) (l : List Int) : (denF OBytes_E loopN fuel Tryz.f82 [.dat (.sl (.int .u8)) false, .raw] [.ptr 0 0] [.box [.row 1, .d .bool false], .row 5 (.int .u8) l false] OBytes.k) = OBytes.f fuel l := by
 kernel_rfl
theorem be_cons : ∀ (n : Nat) (v : Int), be (n + 1) v = (v / 256 ^ n % 256) :: be n v
 | 0, v => by simp [be]
 | n + 1, v => by
  have ih := be_cons n (v / 256)
  show be (n + 1) (v / 256) ++ [v % 256] = _
  rw [ih, Int.ediv_ediv_of_nonneg (by omega)]
  show ((v / (256 * 256 ^ n)) % 256 :: be n (v / 256)) ++ [v % 256] = (v / 256 ^ (n + 1) % 256) :: (be n (v / 256) ++ [v % 256])
  rw [Int.pow_succ, Int.mul_comm (256 ^ n) 256]
  rfl
theorem be_length : ∀ (n : Nat) (v : Int), (be n v).length = n
 | 0, v => rfl
 | n + 1, v => by
  show (be n (v / 256) ++ [v % 256]).length = n + 1
  rw [List.length_append, be_length n]; rfl
theorem wrap8 (x : Int) : IntKind.wrap .u8 x = x % 256 := by
 rw [IntKind.wrap_u8]
theorem pow8' (n : Int) (h1 : 0 ≤ n) (h7 : n ≤ 6) : ((2 : Int) ^ (Min.min (Int.toNat (IntKind.wrap .i64 ((8 : Int) * n))) (IntKind.bits .i64))) = 256 ^ n.toNat := by
 have : n = 0 ∨ n = 1 ∨ n = 2 ∨ n = 3 ∨ n = 4 ∨ n = 5 ∨ n = 6 := by omega
 rcases this with rfl | rfl | rfl | rfl | rfl | rfl | rfl <;> rfl
theorem roomy_iff (l : List Int) : roomy l = true ↔ l.length < 1099511600000 := by unfold roomy; simp
theorem byteAt (v : Int) (i : Nat) : IntKind.wrap .u8 (Int.fdiv v (256 ^ i)) = v / 256 ^ i % 256 := by
 rw [wrap8, Int.fdiv_eq_ediv_of_nonneg _ (Int.pow_nonneg (by omega))]
theorem NumR.loop (fuel : Nat) (n v : Int) (l0 : List Int) : ∀ (k i : Nat) (acc : List Int), i ≤ 7 → i < k → acc.length + i < 1099511620000 → NumR.l7 fuel n v l0 k ((i : Int) - 1) acc = some (false, acc ++ be i v) := by
 intro k
 induction k with
 | zero => intro i acc h1 h2; omega
 | succ k ih =>
  intro i acc h1 h2 h3
  rw [NumR.l7]
  unfold NumR.b7
  cases i with
  | zero => rw [if_neg (by simp)]; simp [be]
  | succ i =>
   rw [show ((i + 1 : Nat) : Int) - 1 = (i : Int) from by omega]
   rw [if_pos (by simp), if_neg (by rw [wrap_small _ (by omega) (by omega)]; omega), pow8' (i : Int) (by omega) (by omega), Int.toNat_natCast, byteAt, if_pos (by simp [lim]; omega), wrap_small _ (by omega) (by omega), ih i _ (by omega) (by omega) (by simp; omega), be_cons i v]
   simp
theorem NumR.pure (n v : Int) (l : List Int) (hf : fitsF n v = true) (hr : roomy l = true) : NumR.f 9 n v l = some (false, l ++ be n.toNat v) := by
 obtain ⟨h1, h2, h3, h4⟩ := (fitsF_iff n v).1 hf
 have hr' := (roomy_iff l).1 hr
 unfold NumR.f NumR.b
 rw [hf, if_pos rfl, wrap_small _ (by omega) (by omega)]
 have := NumR.loop 9 n v l 9 n.toNat l (by omega) (by omega) (by omega)
 rw [Int.toNat_of_nonneg (by omega)] at this
 exact this
theorem NumN.loop (fuel : Nat) (n v : Int) : ∀ (k i : Nat) (acc : List Int), i ≤ 7 → i < k → acc.length + i < 1099511620000 → NumN.l7 fuel n v k ((i : Int) - 1) acc = some (false, acc ++ be i v) := by
 intro k
 induction k with
 | zero => intro i acc h1 h2; omega
 | succ k ih =>
  intro i acc h1 h2 h3
  rw [NumN.l7]
  unfold NumN.b7
  cases i with
  | zero => rw [if_neg (by simp)]; simp [be]
  | succ i =>
   rw [show ((i + 1 : Nat) : Int) - 1 = (i : Int) from by omega]
   rw [if_pos (by simp), if_neg (by rw [wrap_small _ (by omega) (by omega)]; omega), pow8' (i : Int) (by omega) (by omega), Int.toNat_natCast, byteAt, if_pos (by simp [lim]; omega), wrap_small _ (by omega) (by omega), ih i _ (by omega) (by omega) (by simp; omega), be_cons i v]
   simp
theorem NumN.pure (n v : Int) (hf : fitsF n v = true) : NumN.f 9 n v = some (false, be n.toNat v) := by
 obtain ⟨h1, h2, h3, h4⟩ := (fitsF_iff n v).1 hf
 unfold NumN.f NumN.b
 rw [hf, if_pos rfl, wrap_small _ (by omega) (by omega)]
 have := NumN.loop 9 n v 9 n.toNat [] (by omega) (by omega) (by simp; omega)
 rw [Int.toNat_of_nonneg (by omega), List.nil_append] at this
 exact this
theorem OBytes.pure (l : List Int) (hr : roomy l = true) : OBytes.f 0 l = some (l, true, false, l) := by
 have hr' := (roomy_iff l).1 hr
 unfold OBytes.f OBytes.b
 rw [if_pos (by refine ⟨by omega, by omega, by omega, by omega⟩), if_pos (by simp)]
 simp
theorem s_write_det : SumDet s_write := sdet fun _ _ _ _ => by
 unfold s_write
 simp only
 split
 ·first | rfl | (split <;> rfl)
 ·rfl
theorem s_write_ok : SumOk Tryz.prog 78 s_write := by
 have hE : EnvOk Tryz.prog OWrite_E := env_ok (l := []) th_ok any_ok trivial _
 refine sum_ok hE Tryz.func78 rfl (by kernel_rfl) s_write [.raw] OWrite.k ?_
 intro R avs objs κ r h
 unfold s_write at h
 simp only at h
 split at h
 ·skip
  refine ⟨0, _, _, _, (OWrite.eq (0) ()).trans (rfl), ?_, h⟩
  intro rs ros hk
  unfold OWrite.k at hk
  split at hk
  ·first | (cases hk; exact ⟨rfl, rfl⟩) | (rw [← Option.some.inj hk]; exact ⟨rfl, rfl⟩)
  ·cases hk
 ·cases h
theorem s_bytes_det : SumDet s_bytes := sdet fun _ _ _ _ => by
 unfold s_bytes
 simp only
 split
 ·first | rfl | (split <;> rfl)
 ·rfl
theorem s_bytes_ok : SumOk Tryz.prog 82 s_bytes := by
 have hE : EnvOk Tryz.prog OBytes_E := env_ok (l := []) th_ok any_ok trivial _
 refine sum_ok hE Tryz.func82 rfl (by kernel_rfl) s_bytes [.dat (.sl (.int .u8)) false, .raw] OBytes.k ?_
 intro R avs objs κ r h
 unfold s_bytes at h
 simp only at h
 split at h
 ·rename_i l
  split at h
  case isFalse => cases h
  rename_i hl
  refine ⟨0, _, _, _, (OBytes.eq (0) l).trans (OBytes.pure l hl), ?_, h⟩
  intro rs ros hk
  unfold OBytes.k at hk
  split at hk
  ·first | (cases hk; exact ⟨rfl, rfl⟩) | (rw [← Option.some.inj hk]; exact ⟨rfl, rfl⟩)
  ·cases hk
 ·cases h
theorem s_num_det : SumDet s_num := sdet fun _ _ _ _ => by
 unfold s_num
 simp only
 split
 ·split <;> rfl
 ·split <;> rfl
 ·rfl
theorem s_num_ok : SumOk Tryz.prog 79 s_num := by
 have hN : EnvOk Tryz.prog NumN_E := env_ok (l := [(111, s_ofits)]) th_ok any_ok ⟨⟨s_ofits_ok, s_ofits_det⟩, trivial⟩ _
 have hR : EnvOk Tryz.prog NumR_E := env_ok (l := [(111, s_ofits)]) th_ok any_ok ⟨⟨s_ofits_ok, s_ofits_det⟩, trivial⟩ _
 refine sum_of hN (drawOk hN) Tryz.func79 rfl (by kernel_rfl) s_num [.raw] ?_
 intro R avs objs κ r h
 unfold s_num at h
 simp only at h
 split at h
 ·rename_i n v
  split at h
  case isFalse => cases h
  rename_i hl
  refine ⟨9, ?_⟩
  rw [denF_any hN.D ((NumN.eq 9 n v).trans (NumN.pure n v hl)) (out := [.ptr 0 0]) (os := [.box [.row 1, .d .bool false], .row 5 (.int .u8) (be n.toNat v) false]) (fun rs ros hk => by
   unfold NumN.k at hk
   split at hk
   ·have e := Option.some.inj hk; cases e; exact ⟨rfl, rfl⟩
   ·cases hk)]
  exact h
 ·rename_i n v l
  split at h
  case isFalse => cases h
  rename_i hl
  refine ⟨9, ?_⟩
  have := denF_any hR.D ((NumR.eq 9 n v l).trans (NumR.pure n v l hl.1 hl.2)) (out := [.ptr 0 0]) (os := [.box [.row 2, .d .bool false], .gone, .row 5 (.int .u8) (l ++ be n.toNat v) false]) (fun rs ros hk => by
   unfold NumR.k at hk
   split at hk
   ·have e := Option.some.inj hk; cases e; exact ⟨rfl, rfl⟩
   ·cases hk) κ
  exact this.trans h
 ·cases h
def stateL (r : (Int × Int × Int × (Int × Int) × Bool × LF)) : Int := if r.2.2.2.2.1 then r.2.2.1 + 4 * r.2.2.2.1.1 + 16 * r.2.2.2.1.2 + 64 else r.2.2.1 + 4 * r.2.2.2.1.1 + 16 * r.2.2.2.1.2
def recB (r : (Int × Int × Int × (Int × Int) × Bool × LF)) : List Int := be 2 r.1 ++ (be 2 r.2.1 ++ be 1 (stateL r))
def headB (kind from0 inc lo hi seq target len : Int) : List Int := be 1 kind ++ (be 2 from0 ++ (be 6 inc ++ (be 1 (lo * 16 + hi) ++ (be 2 seq ++ (be 2 target ++ be 1 len)))))
def bodyF (kind from0 inc lo hi seq target : Int) (recs : LR) : List Int := headB kind from0 inc lo hi seq target (recs.length : Int) ++ recs.flatMap recB
def encF (kind from0 inc lo hi seq target life epoch base : Int) (recs : LR) : List Int × Int :=
 if !validF kind from0 inc lo hi seq target life epoch base recs then ([], 1) else if !fits1 kind from0 inc lo hi seq target life epoch base recs then ([], 14) else (bodyF kind from0 inc lo hi seq target recs, 0)
def s_enc : Den.Sum := ⟨[.dat (.pair tQi (.pair tQi (.pair tQi (.pair (.pair tQi tQi) (.pair tQi (.pair tQi (.pair tQi (.pair tQi (.pair tQi (.sl tQr)))))))))) true], fun args objs κ => match args, objs with
 | [.agg [.d (.int .i64) mkind, .d (.int .i64) mfrom0, .d (.int .i64) minc, .d (.int .i64) mlo, .d (.int .i64) mhi, .d (.int .i64) mseq, .d (.int .i64) mtarget, .d (.int .i64) mlife, .d (.int .i64) mepoch, .d (.int .i64) mbase, .d (.sl (.pair (.int .i64) (.pair (.int .i64) (.pair (.int .i64) (.pair (.pair (.int .i64) (.int .i64)) (.pair .bool (.sl (.pair (.int .i64) (.sl (.int .u8)))))))))) mrecs]], [] => if smallRecs mrecs = true then κ [.d (.sl (.int .u8)) (encF mkind mfrom0 minc mlo mhi mseq mtarget mlife mepoch mbase mrecs).1, .d (.int .i64) (encF mkind mfrom0 minc mlo mhi mseq mtarget mlife mepoch mbase mrecs).2] [] else none
 | _, _ => none⟩
def Encode1_E : Env := ⟨th, gam [(76, s_valid), (77, s_fits1), (78, s_write), (80, s_code), (81, s_state), (79, s_num), (82, s_bytes)], fun i => if i = 15 then ⟨[4, 5, 50, 51, 52], [], []⟩ else ⟨[], [], []⟩⟩
def Encode1.k (rs : List AV) (os : List Den.Obj) : Option ((List Int) × Int) :=
 match rs, os with
 | [.d (.sl (.int .u8)) r0, .d (.int .i64) r1], [] => some (r0, r1)
 | _, _ => none
def Encode1.s15 (mkind mfrom0 minc mlo mhi mseq mtarget mlife mepoch mbase : Int) (mrecs : LR) (x0 x1 : Int) (x2 : (List Int)) : St := ⟨[dD, dD, dD, dD, .ptr 64 0, .fn (.func 79) [.ptr 64 0] [], dD, dD, dD, dD, dD, dD, dD, dD, dD, dD, dD, dD, dD, dD, dD, dD, dD, dD, dD, dD, dD, dD, dD, dD, dD, dD, dD, dD, dD, dD, dD, dD, dD, dD, dD, dD, dD, dD, dD, dD, dD, dD, dD, dD, .d (.sl tQr) (mrecs), .d tQi x0, .d tQi x1, dD, dD, dD, dD, dD, dD, dD, dD, dD, dD, dD, dD, dD, dD, dD, dD, dD, dD, dD, dD, dD, .dead], ofL [(64, .box [.row 65, .d .bool (false)]), (65, .row 5 (.int .u8) x2 false)], 0⟩
def Encode1.p15 (fuel : Nat) (mkind mfrom0 minc mlo mhi mseq mtarget mlife mepoch mbase : Int) (mrecs : LR) (k : Nat) := fun x0 x1 x2 => lp Encode1_E fuel Tryz.f57 [.dat (.sl (.int .u8)) false, .raw] 0 Encode1.k 15 [] k (Encode1.s15 mkind mfrom0 minc mlo mhi mseq mtarget mlife mepoch mbase mrecs x0 x1 x2)
def Encode1.b15 (mkind mfrom0 minc mlo mhi mseq mtarget mlife mepoch mbase : Int) (mrecs : LR) (A15 : Int → Int → (List Int) → Option ((List Int) × Int)) (x0 : Int) (x1 : Int) (x2 : (List Int)) : Option ((List Int) × Int) :=
 (if (decide (x1 < x0)) then (match (idx mrecs x1) with | none => none | some y3 => (if ((fitsF (2 : Int) y3.1) ∧ (roomy x2)) then (if ((fitsF (2 : Int) y3.2.1) ∧ (roomy (x2 ++ (be (Int.toNat (2 : Int)) y3.1)))) then (if ((fitsF (1 : Int) (stateF y3.2.2.1 y3.2.2.2.1.1 y3.2.2.2.1.2 y3.2.2.2.2.1)) ∧ (roomy ((x2 ++ (be (Int.toNat (2 : Int)) y3.1)) ++ (be (Int.toNat (2 : Int)) y3.2.1)))) then A15 x0 (IntKind.wrap .i64 (x1 + (1 : Int))) (((x2 ++ (be (Int.toNat (2 : Int)) y3.1)) ++ (be (Int.toNat (2 : Int)) y3.2.1)) ++ (be (Int.toNat (1 : Int)) (stateF y3.2.2.1 y3.2.2.2.1.1 y3.2.2.2.1.2 y3.2.2.2.2.1))) else none) else none) else none)) else (if (roomy x2) then some (x2, (0 : Int)) else none))
def Encode1.l15 (fuel : Nat) (mkind mfrom0 minc mlo mhi mseq mtarget mlife mepoch mbase : Int) (mrecs : LR) : Nat → Int → Int → (List Int) → Option ((List Int) × Int)
 | 0, _, _, _ => none
 | k + 1, x0, x1, x2 => Encode1.b15 mkind mfrom0 minc mlo mhi mseq mtarget mlife mepoch mbase mrecs (Encode1.l15 fuel mkind mfrom0 minc mlo mhi mseq mtarget mlife mepoch mbase mrecs k) x0 x1 x2
def Encode1.b (mkind mfrom0 minc mlo mhi mseq mtarget mlife mepoch mbase : Int) (mrecs : LR) (E15 : Int → Int → (List Int) → Option ((List Int) × Int)) : Option ((List Int) × Int) :=
 (if (smallRecs mrecs) then (if (!(validF mkind mfrom0 minc mlo mhi mseq mtarget mlife mepoch mbase mrecs)) then some ([], (1 : Int)) else (if (smallRecs mrecs) then (if (!(fits1 mkind mfrom0 minc mlo mhi mseq mtarget mlife mepoch mbase mrecs)) then some ([], (14 : Int)) else (if (fitsF (1 : Int) mkind) then (if ((fitsF (2 : Int) mfrom0) ∧ (roomy (be (Int.toNat (1 : Int)) mkind))) then (if ((fitsF (6 : Int) minc) ∧ (roomy ((be (Int.toNat (1 : Int)) mkind) ++ (be (Int.toNat (2 : Int)) mfrom0)))) then (if ((fitsF (1 : Int) (codeF mlo mhi)) ∧ (roomy (((be (Int.toNat (1 : Int)) mkind) ++ (be (Int.toNat (2 : Int)) mfrom0)) ++ (be (Int.toNat (6 : Int)) minc)))) then (if ((fitsF (2 : Int) mseq) ∧ (roomy ((((be (Int.toNat (1 : Int)) mkind) ++ (be (Int.toNat (2 : Int)) mfrom0)) ++ (be (Int.toNat (6 : Int)) minc)) ++ (be (Int.toNat (1 : Int)) (codeF mlo mhi))))) then (if ((fitsF (2 : Int) mtarget) ∧ (roomy (((((be (Int.toNat (1 : Int)) mkind) ++ (be (Int.toNat (2 : Int)) mfrom0)) ++ (be (Int.toNat (6 : Int)) minc)) ++ (be (Int.toNat (1 : Int)) (codeF mlo mhi))) ++ (be (Int.toNat (2 : Int)) mseq)))) then (if ((fitsF (1 : Int) ((((List.length mrecs)) : Nat) : Int)) ∧ (roomy ((((((be (Int.toNat (1 : Int)) mkind) ++ (be (Int.toNat (2 : Int)) mfrom0)) ++ (be (Int.toNat (6 : Int)) minc)) ++ (be (Int.toNat (1 : Int)) (codeF mlo mhi))) ++ (be (Int.toNat (2 : Int)) mseq)) ++ (be (Int.toNat (2 : Int)) mtarget)))) then E15 ((((List.length mrecs)) : Nat) : Int) (0 : Int) (((((((be (Int.toNat (1 : Int)) mkind) ++ (be (Int.toNat (2 : Int)) mfrom0)) ++ (be (Int.toNat (6 : Int)) minc)) ++ (be (Int.toNat (1 : Int)) (codeF mlo mhi))) ++ (be (Int.toNat (2 : Int)) mseq)) ++ (be (Int.toNat (2 : Int)) mtarget)) ++ (be (Int.toNat (1 : Int)) ((((List.length mrecs)) : Nat) : Int))) else none) else none) else none) else none) else none) else none) else none)) else none)) else none)
def Encode1.f (fuel : Nat) (mkind mfrom0 minc mlo mhi mseq mtarget mlife mepoch mbase : Int) (mrecs : LR) : Option ((List Int) × Int) := Encode1.b mkind mfrom0 minc mlo mhi mseq mtarget mlife mepoch mbase mrecs (Encode1.l15 fuel mkind mfrom0 minc mlo mhi mseq mtarget mlife mepoch mbase mrecs fuel)
theorem Encode1.l15_eq (fuel : Nat) (mkind mfrom0 minc mlo mhi mseq mtarget mlife mepoch mbase : Int) (mrecs : LR) : ∀ k : Nat, Encode1.p15 fuel mkind mfrom0 minc mlo mhi mseq mtarget mlife mepoch mbase mrecs k = Encode1.l15 fuel mkind mfrom0 minc mlo mhi mseq mtarget mlife mepoch mbase mrecs k
 | 0 => by kernel_rfl
 | k + 1 => by
  refine Eq.trans (b := Encode1.b15 mkind mfrom0 minc mlo mhi mseq mtarget mlife mepoch mbase mrecs (Encode1.p15 fuel mkind mfrom0 minc mlo mhi mseq mtarget mlife mepoch mbase mrecs k)) (by kernel_rfl) ?_
  rw [Encode1.l15_eq fuel mkind mfrom0 minc mlo mhi mseq mtarget mlife mepoch mbase mrecs k]
  kernel_rfl
theorem Encode1.eq (fuel : Nat) (mkind mfrom0 minc mlo mhi mseq mtarget mlife mepoch mbase : Int) (mrecs : LR) : (denF Encode1_E loopN fuel Tryz.f57 [.dat (.sl (.int .u8)) false, .raw] [.agg [.d tQi mkind, .d tQi mfrom0, .d tQi minc, .d tQi mlo, .d tQi mhi, .d tQi mseq, .d tQi mtarget, .d tQi mlife, .d tQi mepoch, .d tQi mbase, .d (.sl tQr) mrecs]] [] Encode1.k) = Encode1.f fuel mkind mfrom0 minc mlo mhi mseq mtarget mlife mepoch mbase mrecs := by
 refine Eq.trans (b := Encode1.b mkind mfrom0 minc mlo mhi mseq mtarget mlife mepoch mbase mrecs (Encode1.p15 fuel mkind mfrom0 minc mlo mhi mseq mtarget mlife mepoch mbase mrecs fuel)) (by kernel_rfl) ?_
 rw [Encode1.l15_eq fuel mkind mfrom0 minc mlo mhi mseq mtarget mlife mepoch mbase mrecs fuel]
 kernel_rfl
theorem of_name {k : Int} (h : ((ofF k).1.toList == (⟨#[]⟩ : ByteArray).toList) = false) : 1 ≤ k ∧ k ≤ 9 := by
 unfold ofF at h
 split at h
 ·simp at h
 ·rename_i hc
  simp only [Bool.or_eq_true, decide_eq_true_eq, not_or] at hc
  omega
theorem whGo_all : ∀ (l : LR) (i last : Int), (whGo l i last).1 = i + (l.length : Int) → ∀ r ∈ l, recOkT r = true
 | [], _, _, _, r, hr => by simp at hr
 | x :: l, i, last, h, r, hr => by
  unfold whGo at h
  split at h
  ·simp at h; omega
  ·rename_i hc
   simp only [Bool.or_eq_true, not_or, Bool.not_eq_true', Bool.not_eq_false] at hc
   rcases List.mem_cons.1 hr with rfl | hr
   ·exact hc.1
   ·exact whGo_all l (i + 1) x.1 (by simp only [List.length_cons] at h; omega) r hr
theorem recOk_facts {r : Int × Int × Int × (Int × Int) × Bool × LF} (h : recOkT r = true) : 0 ≤ r.1 ∧ r.1 ≤ 4095 ∧ 0 ≤ r.2.1 ∧ r.2.1 ≤ 281474976710655 ∧ 0 ≤ r.2.2.1 ∧ r.2.2.1 ≤ 3 ∧ okS r.2.2.2.1.1 r.2.2.2.1.2 = true ∧ bagOk r.2.2.2.2.2 = true ∧ (r.2.2.2.2.1 = true → r.2.2.2.2.2 = []) := by
 unfold recOkT recOk at h
 split at h
 ·cases h
 split at h
 ·cases h
 split at h
 ·cases h
 split at h
 ·cases h
 split at h
 ·cases h
 rename_i h1 h2 h3 h4 h5
 simp only [Bool.or_eq_true, decide_eq_true_eq, not_or, Bool.not_eq_true', Bool.not_eq_false] at h1 h2 h3 h4
 simp only [Bool.and_eq_true, decide_eq_true_eq, not_and] at h5
 refine ⟨by omega, by omega, by omega, by omega, by omega, by omega, h4.1, h4.2, fun hc => ?_⟩
 have := h5 hc
 exact List.eq_nil_of_length_eq_zero (by omega)
theorem within_facts {had : Bool} {v hi : Int} (h : withinF had v 0 hi = true) (h0 : 0 ≤ hi) : 0 ≤ v ∧ v ≤ hi := by
 unfold withinF at h
 cases had
 ·simp at h; omega
 ·simp at h; exact h
theorem valid_facts {kind from0 inc lo hi seq target life epoch base : Int} {recs : LR} (h : validF kind from0 inc lo hi seq target life epoch base recs = true) :
  1 ≤ kind ∧ kind ≤ 9 ∧ 0 ≤ from0 ∧ from0 ≤ 4095 ∧ 0 ≤ inc ∧ inc ≤ 281474976710655 ∧ okS lo hi = true ∧ 0 ≤ seq ∧ seq ≤ 65535 ∧ 0 ≤ target ∧ target ≤ 4095 ∧ livesF kind life epoch base = true ∧ recs.length ≤ 255 ∧ ∀ r ∈ recs, recOkT r = true := by
 unfold validF at h
 have h1 : ((ofF kind).1.toList == (⟨#[]⟩ : ByteArray).toList || (decide (from0 < 0) || (decide (from0 > 4095) || (decide (inc < 0) || (decide (inc > 281474976710655) || !okS lo hi))))) = false := by
  cases hc : ((ofF kind).1.toList == (⟨#[]⟩ : ByteArray).toList || (decide (from0 < 0) || (decide (from0 > 4095) || (decide (inc < 0) || (decide (inc > 281474976710655) || !okS lo hi))))) with
  | false => rfl
  | true => rw [hc] at h; cases h
 rw [h1] at h
 have h2 : (!withinF (hasF kind 0) seq 0 65535 || (!withinF (hasF kind 1) target (if kind == 3 then 1 else 0) (if kind == 3 then 3 else 4095) || !livesF kind life epoch base)) = false := by
  cases hc : (!withinF (hasF kind 0) seq 0 65535 || (!withinF (hasF kind 1) target (if kind == 3 then 1 else 0) (if kind == 3 then 3 else 4095) || !livesF kind life epoch base)) with
  | false => rfl
  | true => rw [hc] at h; cases h
 rw [h2] at h
 simp only [Bool.false_eq_true, if_false] at h
 simp only [Bool.or_eq_false_iff, decide_eq_false_iff_not, Bool.not_eq_false'] at h1 h2
 obtain ⟨k1, k2, k3, k4, k5, k6⟩ := h1
 obtain ⟨m1, m2, m3⟩ := h2
 have hk := of_name k1
 have hs := within_facts m1 (by omega)
 have ht : 0 ≤ target ∧ target ≤ 4095 := by
  unfold withinF at m2
  cases hh : hasF kind 1
  ·rw [hh] at m2
   simp at m2; omega
  ·rw [hh] at m2
   by_cases h3 : kind = 3
   ·simp [h3] at m2; omega
   ·simp [h3] at m2; exact m2
 refine ⟨hk.1, hk.2, by omega, by omega, by omega, by omega, k6, hs.1, hs.2, ht.1, ht.2, m3, ?_⟩
 split at h
 ·have : recs = [] := List.eq_nil_of_length_eq_zero (by simpa using h)
  subst this
  simp
 ·simp only [Bool.and_eq_true, decide_eq_true_eq] at h
  refine ⟨by omega, ?_⟩
  have hs := h.2
  unfold sortedF at hs
  exact whGo_all recs 0 (-1) (by simpa using hs)
theorem lives_zero {kind life base : Int} (h : livesF kind life 0 base = true) : life = 0 ∧ base = 0 := by
 unfold livesF at h
 split at h
 ·cases h
 split at h
 ·cases h
 rename_i h1 h2
 simp only [beq_self_eq_true, Bool.true_and, Bool.or_eq_true, not_or, bne_iff_ne, ne_eq, Decidable.not_not] at h2
 refine ⟨h2.1, ?_⟩
 simp only [Bool.or_eq_true, Bool.and_eq_true, beq_iff_eq, decide_eq_true_eq] at h
 rcases h with h | h
 ·exact h
 ·omega
theorem fits_same (kind from0 inc lo hi seq target life epoch base : Int) (recs : LR) : fits1 kind from0 inc lo hi seq target life epoch base recs = fitsL kind from0 inc lo hi seq target life epoch base recs := by
 unfold fits1 fitsL
 cases hv : validF kind from0 inc lo hi seq target life epoch base recs
 ·rfl
 ·by_cases he : epoch = 0
  ·subst he
   obtain ⟨_, _, _, _, _, _, _, _, _, _, _, hl, _⟩ := valid_facts hv
   obtain ⟨rfl, rfl⟩ := lives_zero hl
   simp
  ·by_cases h9 : kind = 9
   ·simp [h9]
   ·simp [he, h9]
theorem fitGo_all : ∀ (l : LR), fitGo l = true → ∀ r ∈ l, r.2.1 ≤ 65535 ∧ r.2.2.2.2.2 = []
 | [], _, r, hr => by simp at hr
 | x :: l, h, r, hr => by
  unfold fitGo at h
  split at h
  ·cases h
  ·rename_i hc
   simp only [Bool.or_eq_true, not_or, decide_eq_true_eq] at hc
   rcases List.mem_cons.1 hr with rfl | hr
   ·exact ⟨by omega, List.eq_nil_of_length_eq_zero (by omega)⟩
   ·exact fitGo_all l h r hr
theorem fits_facts {kind from0 inc lo hi seq target life epoch base : Int} {recs : LR} (h : fitsL kind from0 inc lo hi seq target life epoch base recs = true) :
  validF kind from0 inc lo hi seq target life epoch base recs = true ∧ ∀ r ∈ recs, r.2.1 ≤ 65535 ∧ r.2.2.2.2.2 = [] := by
 unfold fitsL at h
 split at h
 ·cases h
 ·rename_i hc
  simp only [Bool.or_eq_true, not_or, Bool.not_eq_true', Bool.not_eq_false] at hc
  exact ⟨hc.1, fitGo_all recs h⟩
theorem fits_byte {v : Int} (h0 : 0 ≤ v) (h1 : v < 256) : fitsF 1 v = true := (fitsF_iff 1 v).2 ⟨by omega, by omega, h0, by simpa using h1⟩
theorem fits_two {v : Int} (h0 : 0 ≤ v) (h1 : v < 65536) : fitsF 2 v = true := (fitsF_iff 2 v).2 ⟨by omega, by omega, h0, by simpa using h1⟩
theorem fits_six {v : Int} (h0 : 0 ≤ v) (h1 : v < 281474976710656) : fitsF 6 v = true := (fitsF_iff 6 v).2 ⟨by omega, by omega, h0, by simpa using h1⟩
theorem code_eq {lo hi : Int} (h : okS lo hi = true) : codeF lo hi = lo * 16 + hi := by
 have := (okS_iff lo hi).1 h
 have h1 : lo = 1 ∨ lo = 2 ∨ lo = 3 := by omega
 have h2 : hi = 1 ∨ hi = 2 ∨ hi = 3 := by omega
 rcases h1 with rfl | rfl | rfl <;> rcases h2 with rfl | rfl | rfl <;> first | omega | rfl | kernel_rfl
theorem state_eq {r : Int × Int × Int × (Int × Int) × Bool × LF} (h : recOkT r = true) : stateF r.2.2.1 r.2.2.2.1.1 r.2.2.2.1.2 r.2.2.2.2.1 = stateL r ∧ 0 ≤ stateL r ∧ stateL r < 256 := by
 obtain ⟨id, inc, st, ⟨lo, hi⟩, cut, bag⟩ := r
 obtain ⟨_, _, _, _, h5, h6, h7, _, _⟩ := recOk_facts h
 have := (okS_iff lo hi).1 h7
 dsimp only at h5 h6 h7 ⊢
 have h0 : st = 0 ∨ st = 1 ∨ st = 2 ∨ st = 3 := by omega
 have h1 : lo = 1 ∨ lo = 2 ∨ lo = 3 := by omega
 have h2 : hi = 1 ∨ hi = 2 ∨ hi = 3 := by omega
 refine ⟨?_, by unfold stateL; dsimp only; split <;> omega, by unfold stateL; dsimp only; split <;> omega⟩
 rcases h0 with rfl | rfl | rfl | rfl <;> rcases h1 with rfl | rfl | rfl <;> rcases h2 with rfl | rfl | rfl <;> cases cut <;> kernel_rfl
theorem n1 : Int.toNat (1 : Int) = 1 := rfl
theorem n2 : Int.toNat (2 : Int) = 2 := rfl
theorem n6 : Int.toNat (6 : Int) = 6 := rfl
theorem roomy_of {l : List Int} (h : l.length < 1099511600000) : roomy l = true := (roomy_iff l).2 h
theorem recB_length (r : (Int × Int × Int × (Int × Int) × Bool × LF)) : (recB r).length = 5 := by unfold recB; simp [be_length]
theorem Encode1.loop (fuel : Nat) (kind from0 inc lo hi seq target life epoch base : Int) (recs : LR) (hr : ∀ r ∈ recs, recOkT r = true ∧ r.2.1 ≤ 65535) (hlen : recs.length ≤ 255) : ∀ (k i : Nat) (acc : List Int), i ≤ recs.length → recs.length - i < k → acc.length + 5 * (recs.length - i) < 2000 →
  Encode1.l15 fuel kind from0 inc lo hi seq target life epoch base recs k (recs.length : Int) (i : Int) acc = some (acc ++ (recs.drop i).flatMap recB, 0) := by
 intro k
 induction k with
 | zero => intro i acc h1 h2; omega
 | succ k ih =>
  intro i acc h1 h2 h3
  rw [Encode1.l15]
  unfold Encode1.b15
  by_cases hi' : i < recs.length
  ·rw [if_pos (by simp; omega), idx_at, List.getElem?_eq_getElem hi']
   dsimp only
   rw [List.drop_eq_getElem_cons hi', List.flatMap_cons]
   obtain ⟨hok, hinc⟩ := hr recs[i] (List.getElem_mem hi')
   generalize recs[i] = r at hok hinc ⊢
   obtain ⟨f1, f2, f3, f4, f5, f6, f7, _, _⟩ := recOk_facts hok
   obtain ⟨s0, s1, s2⟩ := state_eq hok
   have r1 : roomy acc = true := roomy_of (by omega)
   have r2 : roomy (acc ++ be 2 r.1) = true := roomy_of (by simp [be_length]; omega)
   have r3 : roomy ((acc ++ be 2 r.1) ++ be 2 r.2.1) = true := roomy_of (by simp [be_length]; omega)
   have hnext := ih (i + 1) (((acc ++ be 2 r.1) ++ be 2 r.2.1) ++ be 1 (stateL r)) (by omega) (by omega) (by simp [be_length]; omega)
   have hw : IntKind.wrap .i64 ((i : Int) + 1) = ((i + 1 : Nat) : Int) := by rw [wrap_small _ (by omega) (by omega)]; omega
   rw [n1, n2, s0, if_pos ⟨fits_two f1 (by omega), r1⟩, if_pos ⟨fits_two f3 (by omega), r2⟩, if_pos ⟨fits_byte s1 s2, r3⟩, hw, hnext]
   simp [recB, List.append_assoc]
  ·rw [if_neg (by simp; omega), List.drop_of_length_le (by omega), if_pos (roomy_of (by omega))]
   simp
theorem Encode1.pure (kind from0 inc lo hi seq target life epoch base : Int) (recs : LR) (hl : smallRecs recs = true) :
  Encode1.f (recs.length + 1) kind from0 inc lo hi seq target life epoch base recs = some ((encF kind from0 inc lo hi seq target life epoch base recs).1, (encF kind from0 inc lo hi seq target life epoch base recs).2) := by
 unfold Encode1.f Encode1.b encF
 rw [if_pos hl]
 cases hv0 : validF kind from0 inc lo hi seq target life epoch base recs
 ·rfl
 rw [if_neg (by simp), if_pos hl]
 cases hf : fits1 kind from0 inc lo hi seq target life epoch base recs
 ·rfl
 have hf' := hf
 rw [fits_same] at hf'
 obtain ⟨hv, hx⟩ := fits_facts hf'
 obtain ⟨v1, v2, v3, v4, v5, v6, v7, v8, v9, v10, v11, _, v12, v13⟩ := valid_facts hv
 have v14 := (okS_iff _ _).1 v7
 have hlp := Encode1.loop (recs.length + 1) kind from0 inc lo hi seq target life epoch base recs (fun r hr => ⟨v13 r hr, (hx r hr).1⟩) v12 (recs.length + 1) 0 (((((((be 1 kind) ++ be 2 from0) ++ be 6 inc) ++ be 1 (lo * 16 + hi)) ++ be 2 seq) ++ be 2 target) ++ be 1 (recs.length : Int)) (by omega) (by omega) (by simp [be_length]; omega)
 rw [show ((0 : Nat) : Int) = 0 from rfl] at hlp
 rw [if_neg (by simp), code_eq v7, n1, n2, n6]
 rw [if_pos (fits_byte (by omega) (by omega)), if_pos ⟨fits_two v3 (by omega), roomy_of (by simp [be_length])⟩, if_pos ⟨fits_six v5 (by omega), roomy_of (by simp [be_length])⟩,
  if_pos ⟨fits_byte (by omega) (by omega), roomy_of (by simp [be_length])⟩, if_pos ⟨fits_two v8 (by omega), roomy_of (by simp [be_length])⟩, if_pos ⟨fits_two v10 (by omega), roomy_of (by simp [be_length])⟩, if_pos ⟨fits_byte (by omega) (by omega), roomy_of (by simp [be_length])⟩]
 rw [hlp]
 simp [bodyF, headB, List.append_assoc]
theorem few8_len {l : LR} (h : few8 l = true) : l.length ≤ 20 := by
 unfold few8 at h
 split at h
 ·cases h
 ·rename_i hc; simp at hc; omega
theorem s_enc_det : SumDet s_enc := sdet fun _ _ _ _ => by
 unfold s_enc
 simp only
 split
 ·first | rfl | (split <;> rfl)
 ·rfl
theorem s_enc_ok : SumOk Tryz.prog 57 s_enc := by
 have hE : EnvOk Tryz.prog Encode1_E := env_ok (l := [(76, s_valid), (77, s_fits1), (78, s_write), (80, s_code), (81, s_state), (79, s_num), (82, s_bytes)]) th_ok any_ok ⟨⟨s_valid_ok, s_valid_det⟩, ⟨s_fits1_ok, s_fits1_det⟩, ⟨s_write_ok, s_write_det⟩, ⟨s_code_ok, s_code_det⟩, ⟨s_state_ok, s_state_det⟩, ⟨s_num_ok, s_num_det⟩, ⟨s_bytes_ok, s_bytes_det⟩, trivial⟩ _
 refine sum_ok hE Tryz.func57 rfl (by kernel_rfl) s_enc [.dat (.sl (.int .u8)) false, .raw] Encode1.k ?_
 intro R avs objs κ r h
 unfold s_enc at h
 simp only at h
 split at h
 ·rename_i mkind mfrom0 minc mlo mhi mseq mtarget mlife mepoch mbase mrecs
  split at h
  case isFalse => cases h
  rename_i hl
  refine ⟨mrecs.length + 1, _, _, _, (Encode1.eq (mrecs.length + 1) mkind mfrom0 minc mlo mhi mseq mtarget mlife mepoch mbase mrecs).trans (Encode1.pure mkind mfrom0 minc mlo mhi mseq mtarget mlife mepoch mbase mrecs hl), ?_, h⟩
  intro rs ros hk
  unfold Encode1.k at hk
  split at hk
  ·first | (cases hk; exact ⟨rfl, rfl⟩) | (rw [← Option.some.inj hk]; exact ⟨rfl, rfl⟩)
  ·cases hk
 ·cases h
theorem Tryz.own : ownKnob Tryz.prog.godebug = none := by kernel_rfl
theorem Tryz.laidOut : laidOutB Tryz.prog = true := by kernel_rfl
theorem Tryz.mapsRow : mapsRowed Tryz.prog = true := by kernel_rfl
theorem Tryz.slicesSize : slicesSized Tryz.prog = true := by kernel_rfl
abbrev laidL : List (String × DataW Unit) := [("polyglot/crc.halves", Rows.laid_polyglot_crc_halves)]
theorem gHalves : Tryz.prog.globalNamed "polyglot/crc.halves" = some 0 := by kernel_rfl
theorem door_met (os : Os) (args : Array Value) : laidMetH Tryz.prog laidL ((World.doorLaid Tryz.prog 400 os).forCall (fun _ _ => 0) ⟨#[], args, []⟩).memory :=
 laidMetH_of_parts3 (fuel := 8) (laidMet_of_run' 8 (by kernel_rfl) (by kernel_rfl)) (by kernel_rfl) (by kernel_rfl)
theorem laid_glob {W : World} (h : laidMetH Tryz.prog laidL W) : GlobIn W := by
 rw [MakeChecks.laidMetH_plain _ _ _ (by kernel_rfl)] at h
 have hT : Lib.TabIs Tryz.prog W "polyglot/crc.halves" .u32 halves := Lib.tabIs_of_head (k := .u32) (zs := halves) (rest := []) gHalves (show (Tryz.prog.globals[0]?).map (·.type) = some 160 by kernel_rfl) Tryz.underlying160 Tryz.underlying99 (by kernel_rfl) (by kernel_rfl) h
 intro n k l hn j x hj
 unfold gtab at hn
 split at hn
 ·rename_i h0
  subst h0
  cases hn
  have hlt : j < halves.length := by
   rcases Nat.lt_or_ge j halves.length with h | h
   ·exact h
   ·rw [List.getElem?_eq_none h] at hj; cases hj
  have := hT.cell gHalves j hlt
  rw [this]
  have e : halves.getD j 0 = x := by
   show (halves[j]?).getD 0 = x
   rw [hj]; rfl
  rw [e]
 ·cases hn
theorem good_bag {b : LF} (h : Go.Den.Good (.sl (.pair tQi (.sl (.int .u8)))) b) : smallBag b = true := by
 obtain ⟨h1, h2⟩ := h
 refine (smallBag_iff b).2 ⟨by have : reachBytes = 140737488351232 := rfl; omega, fun x hx => ?_⟩
 have := (h2 x hx).2.1
 have e : reachBytes = 140737488351232 := rfl
 omega
theorem good_recs {l : LR} (h : Go.Den.Good (.sl tQr ) l) : smallRecs l = true := by
 obtain ⟨h1, h2⟩ := h
 refine (smallRecs_iff l).2 ⟨by have : reachBytes = 140737488351232 := rfl; omega, fun r hr => ?_⟩
 exact good_bag (h2 r hr).2.2.2.2.2
theorem good_bytes {l : List Int} (h : Go.Den.Good (.sl (.int .u8)) l) : ∀ c ∈ l, 0 ≤ c ∧ c ≤ 255 := by
 intro c hc
 have h1 := h.2 c hc
 have h2 : (Lit.int .u8 c).wf = true := h1
 simp [Lit.wf, IntKind.min, IntKind.max, IntKind.signed, IntKind.bits] at h2
 omega
def BIG : Nat := veil 1099511627776
theorem BIG_eq : BIG = 1099511627776 := veil_eq _
def allF : List (Int × Int) := [(1, 1), (1, 2), (1, 3), (2, 2), (2, 3), (3, 3)]
def ofGo : List (Int × Int) → Int → Int × Int × Bool
 | [], c => (0, 0, false)
 | s :: l, c => if (codeF s.1 s.2 == c) = true then (s.1, s.2, true) else ofGo l c
def inB (l : List Int) : Bool := roomy l && l.all fun c => decide (0 ≤ c) && decide (c ≤ 255)
def atOk (l : List Int) (a : Int) : Bool := inB l && (decide (0 ≤ a) && decide (a ≤ (l.length : Int)))
def seg (l : List Int) (a n : Int) : List Int := (l.take (a + n).toNat).drop a.toNat
def stepF (l : List Int) (n a : Int) (bad : Bool) : List Int × Bool × Int × Bool :=
 if bad then ([], false, a, true) else if decide (n < 0) || decide (n > (l.length : Int) - a) then ([], false, a, true) else (seg l a n, true, a + n, false)
def numB (p : List Int) : Int := p.foldl (fun v c => v * 256 + c) 0
def readF (l : List Int) (n a : Int) (bad : Bool) : Int × Int × Bool :=
 let n' := if decide (n < 1) || decide (n > 7) then -1 else n
 ((if (stepF l n' a bad).2.1 then numB (stepF l n' a bad).1 else 0), (stepF l n' a bad).2.2.1, (stepF l n' a bad).2.2.2)
def leftF (l : List Int) (a : Int) (bad : Bool) : Int := if bad then 0 else (l.length : Int) - a
def oneF (l : List Int) (a : Int) (bad : Bool) : (Int × Int × Int × (Int × Int) × Bool × LF) × Int × Bool :=
 let r1 := readF l 2 a bad
 let r2 := readF l 2 r1.2.1 r1.2.2
 let r3 := readF l 1 r2.2.1 r2.2.2
 (((if decide (r3.1 > 127) then -1 else r1.1), r2.1, r3.1 % 4, (r3.1 / 4 % 4, r3.1 / 16 % 4), r3.1 / 64 % 2 == 1, []), r3.2.1, r3.2.2)
def s_all : Den.Sum := ⟨[], fun args objs κ => match args, objs with
 | [], [] => κ [.row 0] [.row 23 (.pair (.int .i64) (.int .i64)) allF false]
 | _, _ => none⟩
def s_sof : Den.Sum := ⟨[.raw], fun args objs κ => match args, objs with
 | [.d (.int .i64) c], [] => κ [.agg [.d (.int .i64) (ofGo allF c).1, .d (.int .i64) (ofGo allF c).2.1], .d .bool (ofGo allF c).2.2] []
 | _, _ => none⟩
def s_read : Den.Sum := ⟨[.dat (.sl (.int .u8)) false], fun args objs κ => match args, objs with
 | [.d (.sl (.int .u8)) l], [] => if inB l = true then κ [.ptr 0 0] [.box [.d (.sl (.int .u8)) l, .d (.int .i64) 0, .d .bool false]] else none
 | _, _ => none⟩
def s_step : Den.Sum := ⟨[.raw, .raw], fun args objs κ => match args, objs with
 | [.ptr 0 0, .d (.int .i64) n], [.box [.d (.sl (.int .u8)) l, .d (.int .i64) a, .d .bool bad]] => if atOk l a = true then κ [.d (.sl (.int .u8)) (stepF l n a bad).1, .d .bool (stepF l n a bad).2.1] [.box [.d (.sl (.int .u8)) l, .d (.int .i64) (stepF l n a bad).2.2.1, .d .bool (stepF l n a bad).2.2.2]] else none
 | _, _ => none⟩
def s_rnum : Den.Sum := ⟨[.raw, .raw], fun args objs κ => match args, objs with
 | [.ptr 0 0, .d (.int .i64) n], [.box [.d (.sl (.int .u8)) l, .d (.int .i64) a, .d .bool bad]] => if atOk l a = true then κ [.d (.int .i64) (readF l n a bad).1] [.box [.d (.sl (.int .u8)) l, .d (.int .i64) (readF l n a bad).2.1, .d .bool (readF l n a bad).2.2]] else none
 | _, _ => none⟩
def s_bad : Den.Sum := ⟨[.raw], fun args objs κ => match args, objs with
 | [.ptr 0 0], [.box [.d (.sl (.int .u8)) l, .d (.int .i64) a, .d .bool bad]] => κ [.d .bool bad] [.box [.d (.sl (.int .u8)) l, .d (.int .i64) a, .d .bool bad]]
 | _, _ => none⟩
def s_left : Den.Sum := ⟨[.raw], fun args objs κ => match args, objs with
 | [.ptr 0 0], [.box [.d (.sl (.int .u8)) l, .d (.int .i64) a, .d .bool bad]] => if atOk l a = true then κ [.d (.int .i64) (leftF l a bad)] [.box [.d (.sl (.int .u8)) l, .d (.int .i64) a, .d .bool bad]] else none
 | _, _ => none⟩
def s_done : Den.Sum := ⟨[.raw], fun args objs κ => match args, objs with
 | [.ptr 0 0], [.box [.d (.sl (.int .u8)) l, .d (.int .i64) a, .d .bool bad]] => if atOk l a = true then κ [.d .bool (!bad && (leftF l a bad == 0))] [.box [.d (.sl (.int .u8)) l, .d (.int .i64) a, .d .bool bad]] else none
 | _, _ => none⟩
def s_one : Den.Sum := ⟨[.raw], fun args objs κ => match args, objs with
 | [.fn (.func 52) [.ptr 0 0] []], [.box [.d (.sl (.int .u8)) l, .d (.int .i64) a, .d .bool bad]] => if atOk l a = true then κ [.agg [.d (.int .i64) (oneF l a bad).1.1, .d (.int .i64) (oneF l a bad).1.2.1, .d (.int .i64) (oneF l a bad).1.2.2.1, .d (.int .i64) (oneF l a bad).1.2.2.2.1.1, .d (.int .i64) (oneF l a bad).1.2.2.2.1.2, .d .bool (oneF l a bad).1.2.2.2.2.1, .d (.sl (.pair (.int .i64) (.sl (.int .u8)))) []]] [.box [.d (.sl (.int .u8)) l, .d (.int .i64) (oneF l a bad).2.1, .d .bool (oneF l a bad).2.2]] else none
 | _, _ => none⟩
def SAll_E : Env := ⟨th, gam [], fun i => if i = 3 then ⟨[1, 2], [(1, 23, (.pair tQi tQi))], []⟩ else if i = 6 then ⟨[1, 2, 3], [], []⟩ else ⟨[], [], []⟩⟩
def SAll.k (rs : List AV) (os : List Den.Obj) : Option (List (Int × Int)) :=
 match rs, os with
 | [.row 0], [.row 23 (.pair (.int .i64) (.int .i64)) r0 false] => some r0
 | _, _ => none
def SAll.s6 (u : Unit) (x2 x3 : Int) (x4 : (List (Int × Int))) : St := ⟨[.dead, .row 64, .d tQi x2, .d tQi x3, dD, dD, dD, dD, dD, dD, dD, dD, dD, dD, dD, dD, dD, dD, dD, .dead], ofL [(64, .row 23 (.pair tQi tQi) x4 false)], 0⟩
def SAll.p6 (fuel : Nat) (u : Unit) (k3 k : Nat) := fun x2 x3 x4 => lp SAll_E fuel Tryz.f112 [.own 23 (.pair tQi tQi)] 0 SAll.k 6 [k3] k (SAll.s6 u x2 x3 x4)
def SAll.b6 (u : Unit) (A3 : Int → (List (Int × Int)) → Option (List (Int × Int))) (A6 : Int → Int → (List (Int × Int)) → Option (List (Int × Int))) (x2 : Int) (x3 : Int) (x4 : (List (Int × Int))) : Option (List (Int × Int)) :=
 (if (decide (x3 ≤ (3 : Int))) then (if ((((List.length x4) + (List.length ((x2, x3) :: []))) * (16 : Nat)) ≤ lim) then A6 x2 (IntKind.wrap .i64 (x3 + (1 : Int))) (x4 ++ ((x2, x3) :: [])) else none) else A3 (IntKind.wrap .i64 (x2 + (1 : Int))) x4)
def SAll.l6 (fuel : Nat) (u : Unit) (A3 : Int → (List (Int × Int)) → Option (List (Int × Int))) : Nat → Int → Int → (List (Int × Int)) → Option (List (Int × Int))
 | 0, _, _, _ => none
 | k + 1, x2, x3, x4 => SAll.b6 u A3 (SAll.l6 fuel u A3 k) x2 x3 x4
def SAll.s3 (u : Unit) (x0 : Int) (x1 : (List (Int × Int))) : St := ⟨[.dead, .row 64, .d tQi x0, dD, dD, dD, dD, dD, dD, dD, dD, dD, dD, dD, dD, dD, dD, dD, dD, .dead], ofL [(64, .row 23 (.pair tQi tQi) x1 false)], 0⟩
def SAll.p3 (fuel : Nat) (u : Unit) (k : Nat) := fun x0 x1 => lp SAll_E fuel Tryz.f112 [.own 23 (.pair tQi tQi)] 0 SAll.k 3 [] k (SAll.s3 u x0 x1)
def SAll.b3 (u : Unit) (A3 : Int → (List (Int × Int)) → Option (List (Int × Int))) (E6 : Int → Int → (List (Int × Int)) → Option (List (Int × Int))) (x0 : Int) (x1 : (List (Int × Int))) : Option (List (Int × Int)) :=
 (if (decide (x0 ≤ (3 : Int))) then E6 x0 x0 x1 else some (x1))
def SAll.l3 (fuel : Nat) (u : Unit) : Nat → Int → (List (Int × Int)) → Option (List (Int × Int))
 | 0, _, _ => none
 | k + 1, x0, x1 => SAll.b3 u (SAll.l3 fuel u k) (SAll.l6 fuel u (SAll.l3 fuel u k) fuel) x0 x1
def SAll.b (u : Unit) (E3 : Int → (List (Int × Int)) → Option (List (Int × Int))) : Option (List (Int × Int)) :=
 E3 (1 : Int) []
def SAll.f (fuel : Nat) (u : Unit) : Option (List (Int × Int)) := SAll.b u (SAll.l3 fuel u fuel)
theorem SAll.l6_eq (fuel : Nat) (u : Unit) (k3 : Nat) : ∀ k : Nat, SAll.p6 fuel u k3 k = SAll.l6 fuel u (SAll.p3 fuel u k3) k
 | 0 => by kernel_rfl
 | k + 1 => by
  refine Eq.trans (b := SAll.b6 u (SAll.p3 fuel u k3) (SAll.p6 fuel u k3 k)) (by kernel_rfl) ?_
  rw [SAll.l6_eq fuel u k3 k]
  kernel_rfl
theorem SAll.l3_eq (fuel : Nat) (u : Unit) : ∀ k : Nat, SAll.p3 fuel u k = SAll.l3 fuel u k
 | 0 => by kernel_rfl
 | k + 1 => by
  refine Eq.trans (b := SAll.b3 u (SAll.p3 fuel u k) (SAll.p6 fuel u k fuel)) (by kernel_rfl) ?_
  rw [SAll.l3_eq fuel u k, SAll.l6_eq fuel u k fuel, SAll.l3_eq fuel u k]
  kernel_rfl
theorem SAll.eq (fuel : Nat) (u : Unit) : (denF SAll_E loopN fuel Tryz.f112 [.own 23 (.pair tQi tQi)] [] [] SAll.k) = SAll.f fuel u := by
 refine Eq.trans (b := SAll.b u (SAll.p3 fuel u fuel)) (by kernel_rfl) ?_
 rw [SAll.l3_eq fuel u fuel]
 kernel_rfl
def SOf_E : Env := ⟨th, gam [(112, s_all), (80, s_code)], fun i => if i = 2 then ⟨[0, 2, 6, 7, 8], [], []⟩ else ⟨[], [], []⟩⟩
def SOf.k (rs : List AV) (os : List Den.Obj) : Option (Int × Int × Bool) :=
 match rs, os with
 | [.agg [.d (.int .i64) r0, .d (.int .i64) r1], .d .bool r2], [] => some (r0, r1, r2)
 | _, _ => none
def SOf.s2 (c x0 x1 : Int) : St := ⟨[.d tQi (c), .dead, .ptr 64 0, dD, dD, dD, .row 65, .d tQi x0, .d tQi x1, dD, dD, dD, dD, dD, dD, dD, dD, dD, .dead], ofL [(64, .box [.d tQi (0), .d tQi (0)]), (65, .row 23 (.pair tQi tQi) (allF) false)], 0⟩
def SOf.p2 (fuel : Nat) (c : Int) (k : Nat) := fun x0 x1 => lp SOf_E fuel Tryz.f83 [.dat (.pair tQi tQi) true, .raw] 0 SOf.k 2 [] k (SOf.s2 c x0 x1)
def SOf.b2 (c : Int) (A2 : Int → Int → Option (Int × Int × Bool)) (x0 : Int) (x1 : Int) : Option (Int × Int × Bool) :=
 (if (decide (x1 < x0)) then (match (idx allF x1) with | none => none | some y2 => (match (idx allF x1) with | none => none | some y3 => (if ((codeF y3.1 y3.2) == c) then some (y3.1, y3.2, true) else A2 x0 (IntKind.wrap .i64 (x1 + (1 : Int)))))) else some (0, 0, false))
def SOf.l2 (fuel : Nat) (c : Int) : Nat → Int → Int → Option (Int × Int × Bool)
 | 0, _, _ => none
 | k + 1, x0, x1 => SOf.b2 c (SOf.l2 fuel c k) x0 x1
def SOf.b (c : Int) (E2 : Int → Int → Option (Int × Int × Bool)) : Option (Int × Int × Bool) :=
 E2 ((((List.length allF)) : Nat) : Int) (0 : Int)
def SOf.f (fuel : Nat) (c : Int) : Option (Int × Int × Bool) := SOf.b c (SOf.l2 fuel c fuel)
theorem SOf.l2_eq (fuel : Nat) (c : Int) : ∀ k : Nat, SOf.p2 fuel c k = SOf.l2 fuel c k
 | 0 => by kernel_rfl
 | k + 1 => by
  refine Eq.trans (b := SOf.b2 c (SOf.p2 fuel c k)) (by kernel_rfl) ?_
  rw [SOf.l2_eq fuel c k]
  kernel_rfl
theorem SOf.eq (fuel : Nat) (c : Int) : (denF SOf_E loopN fuel Tryz.f83 [.dat (.pair tQi tQi) true, .raw] [.d tQi c] [] SOf.k) = SOf.f fuel c := by
 refine Eq.trans (b := SOf.b c (SOf.p2 fuel c fuel)) (by kernel_rfl) ?_
 rw [SOf.l2_eq fuel c fuel]
 kernel_rfl
def ORead_E : Env := ⟨th, gam [], fun i => ⟨[], [], []⟩⟩
def ORead.k (rs : List AV) (os : List Den.Obj) : Option ((List Int) × Int × Bool) :=
 match rs, os with
 | [.ptr 0 0], [.box [.d (.sl (.int .u8)) r0, .d (.int .i64) r1, .d .bool r2]] => some (r0, r1, r2)
 | _, _ => none
def ORead.b (l : List Int) : Option ((List Int) × Int × Bool) :=
 (if (((0 : Int) ≤ ((((List.length l)) : Nat) : Int)) ∧ ((((((List.length l)) : Nat) : Int) ≤ ((((List.length l)) : Nat) : Int)) ∧ (((((((List.length l)) : Nat) : Int) * ((((1 : Nat)) : Nat) : Int)) ≤ (1099511627776 : Int)) ∧ (((((List.length l)) : Nat) : Int) ≤ (1099511627776 : Int))))) then (if ((false = false) ∧ ((List.length l) ≤ (List.length (List.replicate (Int.toNat ((((List.length l)) : Nat) : Int)) (zeroI (Go.Den.Ty.int .u8)))))) then some ((l ++ (List.drop (List.length l) (List.replicate (Int.toNat ((((List.length l)) : Nat) : Int)) (zeroI (Go.Den.Ty.int .u8))))), 0, false) else none) else none)
def ORead.f (fuel : Nat) (l : List Int) : Option ((List Int) × Int × Bool) := ORead.b l
theorem ORead.eq (fuel : Nat) (l : List Int) : (denF ORead_E loopN fuel Tryz.f51 [.fz] [.d (.sl (.int .u8)) l] [] ORead.k) = ORead.f fuel l := by
 kernel_rfl
def OStep_E : Env := ⟨th, gam [], fun i => ⟨[], [], []⟩⟩
def OStep.k (rs : List AV) (os : List Den.Obj) : Option ((List Int) × Bool × (List Int) × Int × Bool) :=
 match rs, os with
 | [.d (.sl (.int .u8)) r0, .d .bool r1], [.box [.d (.sl (.int .u8)) r2, .d (.int .i64) r3, .d .bool r4]] => some (r0, r1, r2, r3, r4)
 | _, _ => none
def OStep.b (n : Int) (l : List Int) (a : Int) (bad : Bool) : Option ((List Int) × Bool × (List Int) × Int × Bool) :=
 (if bad then some ([], false, l, a, bad) else (if (decide (n < (0 : Int))) then some ([], false, l, a, true) else (if (decide (n > (IntKind.wrap .i64 (((((List.length l)) : Nat) : Int) - a)))) then some ([], false, l, a, true) else (if (((0 : Int) ≤ a) ∧ ((a ≤ (IntKind.wrap .i64 (a + n))) ∧ ((IntKind.wrap .i64 (a + n)) ≤ ((((List.length l)) : Nat) : Int)))) then some ((List.drop (Int.toNat a) (List.take (Int.toNat (IntKind.wrap .i64 (a + n))) l)), true, l, (IntKind.wrap .i64 (a + n)), bad) else none))))
def OStep.f (fuel : Nat) (n : Int) (l : List Int) (a : Int) (bad : Bool) : Option ((List Int) × Bool × (List Int) × Int × Bool) := OStep.b n l a bad
theorem OStep.eq (fuel : Nat) (n : Int) (l : List Int) (a : Int) (bad : Bool) : (denF OStep_E loopN fuel Tryz.f73 [.dat (.sl (.int .u8)) false, .raw] [.ptr 0 0, .d tQi n] [.box [.d (.sl (.int .u8)) l, .d tQi a, .d .bool bad]] OStep.k) = OStep.f fuel n l a bad := by
 kernel_rfl
def RNum_E : Env := ⟨th, gam [(73, s_step)], fun i => if i = 8 then ⟨[7, 24, 25, 26], [], []⟩ else ⟨[], [], []⟩⟩
def RNum.k (rs : List AV) (os : List Den.Obj) : Option (Int × (List Int) × Int × Bool) :=
 match rs, os with
 | [.d (.int .i64) r0], [.box [.d (.sl (.int .u8)) r1, .d (.int .i64) r2, .d .bool r3]] => some (r0, r1, r2, r3)
 | _, _ => none
def RNum.s8 (n : Int) (l : List Int) (a : Int) (bad : Bool) (x0 : Int) (x1 : (List Int)) (x2 x3 x4 : Int) (x5 : Bool) : St := ⟨[dD, dD, dD, dD, dD, dD, dD, .d tQi x0, dD, dD, dD, dD, dD, dD, dD, dD, dD, dD, dD, dD, dD, dD, dD, dD, .d (.sl (.int .u8)) x1, .d tQi x2, .d tQi x3, dD, dD, dD, dD, dD, dD, dD, dD, dD, .dead], ofL [(0, .box [.d (.sl (.int .u8)) (l), .d tQi x4, .d .bool x5])], 1⟩
def RNum.p8 (fuel : Nat) (n : Int) (l : List Int) (a : Int) (bad : Bool) (k : Nat) := fun x0 x1 x2 x3 x4 x5 => lp RNum_E fuel Tryz.f52 [.raw] 1 RNum.k 8 [] k (RNum.s8 n l a bad x0 x1 x2 x3 x4 x5)
def RNum.b8 (n : Int) (l : List Int) (a : Int) (bad : Bool) (A8 : Int → (List Int) → Int → Int → Int → Bool → Option (Int × (List Int) × Int × Bool)) (x0 : Int) (x1 : (List Int)) (x2 : Int) (x3 : Int) (x4 : Int) (x5 : Bool) : Option (Int × (List Int) × Int × Bool) :=
 (if (decide (x3 < x2)) then (match (idx x1 x3) with | none => none | some y6 => A8 (bits BinOp.or .i64 (IntKind.wrap .i64 (x0 * ((2 : Int) ^ (Min.min (Int.toNat (8 : Int)) (IntKind.bits .i64))))) (IntKind.wrap .i64 y6)) x1 x2 (IntKind.wrap .i64 (x3 + (1 : Int))) x4 x5) else some (x0, l, x4, x5))
def RNum.l8 (fuel : Nat) (n : Int) (l : List Int) (a : Int) (bad : Bool) : Nat → Int → (List Int) → Int → Int → Int → Bool → Option (Int × (List Int) × Int × Bool)
 | 0, _, _, _, _, _, _ => none
 | k + 1, x0, x1, x2, x3, x4, x5 => RNum.b8 n l a bad (RNum.l8 fuel n l a bad k) x0 x1 x2 x3 x4 x5
def RNum.b (n : Int) (l : List Int) (a : Int) (bad : Bool) (E8 : Int → (List Int) → Int → Int → Int → Bool → Option (Int × (List Int) × Int × Bool)) : Option (Int × (List Int) × Int × Bool) :=
 (if (decide (n < (1 : Int))) then (if (atOk l a) then (if (!(stepF l (-(1 : Int)) a bad).2.1) then some ((0 : Int), l, (stepF l (-(1 : Int)) a bad).2.2.1, (stepF l (-(1 : Int)) a bad).2.2.2) else E8 (0 : Int) (stepF l (-(1 : Int)) a bad).1 ((((List.length (stepF l (-(1 : Int)) a bad).1)) : Nat) : Int) (0 : Int) (stepF l (-(1 : Int)) a bad).2.2.1 (stepF l (-(1 : Int)) a bad).2.2.2) else none) else (if (decide (n > (7 : Int))) then (if (atOk l a) then (if (!(stepF l (-(1 : Int)) a bad).2.1) then some ((0 : Int), l, (stepF l (-(1 : Int)) a bad).2.2.1, (stepF l (-(1 : Int)) a bad).2.2.2) else E8 (0 : Int) (stepF l (-(1 : Int)) a bad).1 ((((List.length (stepF l (-(1 : Int)) a bad).1)) : Nat) : Int) (0 : Int) (stepF l (-(1 : Int)) a bad).2.2.1 (stepF l (-(1 : Int)) a bad).2.2.2) else none) else (if (atOk l a) then (if (!(stepF l n a bad).2.1) then some ((0 : Int), l, (stepF l n a bad).2.2.1, (stepF l n a bad).2.2.2) else E8 (0 : Int) (stepF l n a bad).1 ((((List.length (stepF l n a bad).1)) : Nat) : Int) (0 : Int) (stepF l n a bad).2.2.1 (stepF l n a bad).2.2.2) else none)))
def RNum.f (fuel : Nat) (n : Int) (l : List Int) (a : Int) (bad : Bool) : Option (Int × (List Int) × Int × Bool) := RNum.b n l a bad (RNum.l8 fuel n l a bad fuel)
theorem RNum.l8_eq (fuel : Nat) (n : Int) (l : List Int) (a : Int) (bad : Bool) : ∀ k : Nat, RNum.p8 fuel n l a bad k = RNum.l8 fuel n l a bad k
 | 0 => by kernel_rfl
 | k + 1 => by
  refine Eq.trans (b := RNum.b8 n l a bad (RNum.p8 fuel n l a bad k)) (by kernel_rfl) ?_
  rw [RNum.l8_eq fuel n l a bad k]
  kernel_rfl
theorem RNum.eq (fuel : Nat) (n : Int) (l : List Int) (a : Int) (bad : Bool) : (denF RNum_E loopN fuel Tryz.f52 [.raw] [.ptr 0 0, .d tQi n] [.box [.d (.sl (.int .u8)) l, .d tQi a, .d .bool bad]] RNum.k) = RNum.f fuel n l a bad := by
 refine Eq.trans (b := RNum.b n l a bad (RNum.p8 fuel n l a bad fuel)) (by kernel_rfl) ?_
 rw [RNum.l8_eq fuel n l a bad fuel]
 kernel_rfl
def RBad_E : Env := ⟨th, gam [], fun i => ⟨[], [], []⟩⟩
def RBad.k (rs : List AV) (os : List Den.Obj) : Option (Bool × (List Int) × Int × Bool) :=
 match rs, os with
 | [.d .bool r0], [.box [.d (.sl (.int .u8)) r1, .d (.int .i64) r2, .d .bool r3]] => some (r0, r1, r2, r3)
 | _, _ => none
def RBad.b (l : List Int) (a : Int) (bad : Bool) : Option (Bool × (List Int) × Int × Bool) :=
 some (bad, l, a, bad)
def RBad.f (fuel : Nat) (l : List Int) (a : Int) (bad : Bool) : Option (Bool × (List Int) × Int × Bool) := RBad.b l a bad
theorem RBad.eq (fuel : Nat) (l : List Int) (a : Int) (bad : Bool) : (denF RBad_E loopN fuel Tryz.f84 [.raw] [.ptr 0 0] [.box [.d (.sl (.int .u8)) l, .d tQi a, .d .bool bad]] RBad.k) = RBad.f fuel l a bad := by
 kernel_rfl
def RLeft_E : Env := ⟨th, gam [(84, s_bad)], fun i => ⟨[], [], []⟩⟩
def RLeft.k (rs : List AV) (os : List Den.Obj) : Option (Int × (List Int) × Int × Bool) :=
 match rs, os with
 | [.d (.int .i64) r0], [.box [.d (.sl (.int .u8)) r1, .d (.int .i64) r2, .d .bool r3]] => some (r0, r1, r2, r3)
 | _, _ => none
def RLeft.b (l : List Int) (a : Int) (bad : Bool) : Option (Int × (List Int) × Int × Bool) :=
 (if bad then some ((0 : Int), l, a, bad) else some ((IntKind.wrap .i64 (((((List.length l)) : Nat) : Int) - a)), l, a, bad))
def RLeft.f (fuel : Nat) (l : List Int) (a : Int) (bad : Bool) : Option (Int × (List Int) × Int × Bool) := RLeft.b l a bad
theorem RLeft.eq (fuel : Nat) (l : List Int) (a : Int) (bad : Bool) : (denF RLeft_E loopN fuel Tryz.f113 [.raw] [.ptr 0 0] [.box [.d (.sl (.int .u8)) l, .d tQi a, .d .bool bad]] RLeft.k) = RLeft.f fuel l a bad := by
 kernel_rfl
def RDone_E : Env := ⟨th, gam [(84, s_bad), (113, s_left)], fun i => ⟨[], [], []⟩⟩
def RDone.k (rs : List AV) (os : List Den.Obj) : Option (Bool × (List Int) × Int × Bool) :=
 match rs, os with
 | [.d .bool r0], [.box [.d (.sl (.int .u8)) r1, .d (.int .i64) r2, .d .bool r3]] => some (r0, r1, r2, r3)
 | _, _ => none
def RDone.b (l : List Int) (a : Int) (bad : Bool) : Option (Bool × (List Int) × Int × Bool) :=
 (if (!bad) then (if (atOk l a) then some (((leftF l a bad) == (0 : Int)), l, a, bad) else none) else some (false, l, a, bad))
def RDone.f (fuel : Nat) (l : List Int) (a : Int) (bad : Bool) : Option (Bool × (List Int) × Int × Bool) := RDone.b l a bad
theorem RDone.eq (fuel : Nat) (l : List Int) (a : Int) (bad : Bool) : (denF RDone_E loopN fuel Tryz.f86 [.raw] [.ptr 0 0] [.box [.d (.sl (.int .u8)) l, .d tQi a, .d .bool bad]] RDone.k) = RDone.f fuel l a bad := by
 kernel_rfl
def One1_E : Env := ⟨th, gam [(52, s_rnum)], fun i => ⟨[], [], []⟩⟩
def One1.k (rs : List AV) (os : List Den.Obj) : Option (Int × Int × Int × Int × Int × Bool × LF × (List Int) × Int × Bool) :=
 match rs, os with
 | [.agg [.d (.int .i64) r0, .d (.int .i64) r1, .d (.int .i64) r2, .d (.int .i64) r3, .d (.int .i64) r4, .d .bool r5, .d (.sl (.pair (.int .i64) (.sl (.int .u8)))) r6]], [.box [.d (.sl (.int .u8)) r7, .d (.int .i64) r8, .d .bool r9]] => some (r0, r1, r2, r3, r4, r5, r6, r7, r8, r9)
 | _, _ => none
def One1.b (l : List Int) (a : Int) (bad : Bool) : Option (Int × Int × Int × Int × Int × Bool × LF × (List Int) × Int × Bool) :=
 (if (atOk l a) then (if (atOk l (readF l (2 : Int) a bad).2.1) then (if (atOk l (readF l (2 : Int) (readF l (2 : Int) a bad).2.1 (readF l (2 : Int) a bad).2.2).2.1) then (if (decide ((readF l (1 : Int) (readF l (2 : Int) (readF l (2 : Int) a bad).2.1 (readF l (2 : Int) a bad).2.2).2.1 (readF l (2 : Int) (readF l (2 : Int) a bad).2.1 (readF l (2 : Int) a bad).2.2).2.2).1 > (127 : Int))) then some ((-(1 : Int)), (readF l (2 : Int) (readF l (2 : Int) a bad).2.1 (readF l (2 : Int) a bad).2.2).1, (bits BinOp.and .i64 (readF l (1 : Int) (readF l (2 : Int) (readF l (2 : Int) a bad).2.1 (readF l (2 : Int) a bad).2.2).2.1 (readF l (2 : Int) (readF l (2 : Int) a bad).2.1 (readF l (2 : Int) a bad).2.2).2.2).1 (3 : Int)), (bits BinOp.and .i64 (Int.fdiv (readF l (1 : Int) (readF l (2 : Int) (readF l (2 : Int) a bad).2.1 (readF l (2 : Int) a bad).2.2).2.1 (readF l (2 : Int) (readF l (2 : Int) a bad).2.1 (readF l (2 : Int) a bad).2.2).2.2).1 ((2 : Int) ^ (Min.min (Int.toNat (2 : Int)) (IntKind.bits .i64)))) (3 : Int)), (bits BinOp.and .i64 (Int.fdiv (readF l (1 : Int) (readF l (2 : Int) (readF l (2 : Int) a bad).2.1 (readF l (2 : Int) a bad).2.2).2.1 (readF l (2 : Int) (readF l (2 : Int) a bad).2.1 (readF l (2 : Int) a bad).2.2).2.2).1 ((2 : Int) ^ (Min.min (Int.toNat (4 : Int)) (IntKind.bits .i64)))) (3 : Int)), ((bits BinOp.and .i64 (readF l (1 : Int) (readF l (2 : Int) (readF l (2 : Int) a bad).2.1 (readF l (2 : Int) a bad).2.2).2.1 (readF l (2 : Int) (readF l (2 : Int) a bad).2.1 (readF l (2 : Int) a bad).2.2).2.2).1 (64 : Int)) != (0 : Int)), [], l, (readF l (1 : Int) (readF l (2 : Int) (readF l (2 : Int) a bad).2.1 (readF l (2 : Int) a bad).2.2).2.1 (readF l (2 : Int) (readF l (2 : Int) a bad).2.1 (readF l (2 : Int) a bad).2.2).2.2).2.1, (readF l (1 : Int) (readF l (2 : Int) (readF l (2 : Int) a bad).2.1 (readF l (2 : Int) a bad).2.2).2.1 (readF l (2 : Int) (readF l (2 : Int) a bad).2.1 (readF l (2 : Int) a bad).2.2).2.2).2.2) else some ((readF l (2 : Int) a bad).1, (readF l (2 : Int) (readF l (2 : Int) a bad).2.1 (readF l (2 : Int) a bad).2.2).1, (bits BinOp.and .i64 (readF l (1 : Int) (readF l (2 : Int) (readF l (2 : Int) a bad).2.1 (readF l (2 : Int) a bad).2.2).2.1 (readF l (2 : Int) (readF l (2 : Int) a bad).2.1 (readF l (2 : Int) a bad).2.2).2.2).1 (3 : Int)), (bits BinOp.and .i64 (Int.fdiv (readF l (1 : Int) (readF l (2 : Int) (readF l (2 : Int) a bad).2.1 (readF l (2 : Int) a bad).2.2).2.1 (readF l (2 : Int) (readF l (2 : Int) a bad).2.1 (readF l (2 : Int) a bad).2.2).2.2).1 ((2 : Int) ^ (Min.min (Int.toNat (2 : Int)) (IntKind.bits .i64)))) (3 : Int)), (bits BinOp.and .i64 (Int.fdiv (readF l (1 : Int) (readF l (2 : Int) (readF l (2 : Int) a bad).2.1 (readF l (2 : Int) a bad).2.2).2.1 (readF l (2 : Int) (readF l (2 : Int) a bad).2.1 (readF l (2 : Int) a bad).2.2).2.2).1 ((2 : Int) ^ (Min.min (Int.toNat (4 : Int)) (IntKind.bits .i64)))) (3 : Int)), ((bits BinOp.and .i64 (readF l (1 : Int) (readF l (2 : Int) (readF l (2 : Int) a bad).2.1 (readF l (2 : Int) a bad).2.2).2.1 (readF l (2 : Int) (readF l (2 : Int) a bad).2.1 (readF l (2 : Int) a bad).2.2).2.2).1 (64 : Int)) != (0 : Int)), [], l, (readF l (1 : Int) (readF l (2 : Int) (readF l (2 : Int) a bad).2.1 (readF l (2 : Int) a bad).2.2).2.1 (readF l (2 : Int) (readF l (2 : Int) a bad).2.1 (readF l (2 : Int) a bad).2.2).2.2).2.1, (readF l (1 : Int) (readF l (2 : Int) (readF l (2 : Int) a bad).2.1 (readF l (2 : Int) a bad).2.2).2.1 (readF l (2 : Int) (readF l (2 : Int) a bad).2.1 (readF l (2 : Int) a bad).2.2).2.2).2.2)) else none) else none) else none)
def One1.f (fuel : Nat) (l : List Int) (a : Int) (bad : Bool) : Option (Int × Int × Int × Int × Int × Bool × LF × (List Int) × Int × Bool) := One1.b l a bad
theorem One1.eq (fuel : Nat) (l : List Int) (a : Int) (bad : Bool) : (denF One1_E loopN fuel Tryz.f85 [.dat tQr true] [.fn (.func 52) [.ptr 0 0] []] [.box [.d (.sl (.int .u8)) l, .d tQi a, .d .bool bad]] One1.k) = One1.f fuel l a bad := by
 kernel_rfl
theorem SAll.pure : SAll.f 9 () = some allF := by kernel_rfl
theorem SOf.flat (c : Int) : SOf.f 9 c = (if (codeF 1 1 == c) = true then some (1, 1, true) else if (codeF 1 2 == c) = true then some (1, 2, true) else if (codeF 1 3 == c) = true then some (1, 3, true) else
 if (codeF 2 2 == c) = true then some (2, 2, true) else if (codeF 2 3 == c) = true then some (2, 3, true) else if (codeF 3 3 == c) = true then some (3, 3, true) else some (0, 0, false)) := by kernel_rfl
theorem SOf.pure (c : Int) : SOf.f 9 c = some ((ofGo allF c).1, (ofGo allF c).2.1, (ofGo allF c).2.2) := by
 rw [SOf.flat]
 unfold allF ofGo ofGo ofGo ofGo ofGo ofGo ofGo
 repeat' split
 all_goals rfl
theorem inB_iff (l : List Int) : inB l = true ↔ l.length < 1099511600000 ∧ ∀ c ∈ l, 0 ≤ c ∧ c ≤ 255 := by
 unfold inB
 rw [Bool.and_eq_true, roomy_iff]
 simp [List.all_eq_true]
theorem atOk_iff (l : List Int) (a : Int) : atOk l a = true ↔ inB l = true ∧ 0 ≤ a ∧ a ≤ (l.length : Int) := by
 unfold atOk
 simp only [Bool.and_eq_true, decide_eq_true_eq]
theorem ORead.pure (l : List Int) (hl : inB l = true) : ORead.f 0 l = some (l, 0, false) := by
 have hr' := ((inB_iff l).1 hl).1
 unfold ORead.f ORead.b
 rw [if_pos (by refine ⟨by omega, by omega, by omega, by omega⟩), if_pos (by simp)]
 simp
theorem OStep.pure (n : Int) (l : List Int) (a : Int) (bad : Bool) (hl : atOk l a = true) : OStep.f 0 n l a bad = some ((stepF l n a bad).1, (stepF l n a bad).2.1, l, (stepF l n a bad).2.2.1, (stepF l n a bad).2.2.2) := by
 obtain ⟨h1, h2, h3⟩ := (atOk_iff l a).1 hl
 have h4 := ((inB_iff l).1 h1).1
 unfold OStep.f OStep.b stepF
 cases bad
 ·simp only [Bool.false_eq_true, if_false]
  by_cases c1 : n < 0
  ·simp [c1]
  ·rw [wrap_small ((l.length : Int) - a) (by omega) (by omega)]
   by_cases c2 : n > (l.length : Int) - a
   ·simp [c1, c2]
   ·rw [wrap_small (a + n) (by omega) (by omega)]
    rw [if_neg (by simpa using c1), if_neg (by simpa using c2), if_pos ⟨h2, by omega, by omega⟩, if_neg (by simp [c1]; omega)]
    rfl
 ·rfl
theorem RBad.pure (l : List Int) (a : Int) (bad : Bool) : RBad.f 0 l a bad = some (bad, l, a, bad) := rfl
theorem RLeft.pure (l : List Int) (a : Int) (bad : Bool) (hl : atOk l a = true) : RLeft.f 0 l a bad = some (leftF l a bad, l, a, bad) := by
 obtain ⟨h1, h2, h3⟩ := (atOk_iff l a).1 hl
 have h4 := ((inB_iff l).1 h1).1
 unfold RLeft.f RLeft.b leftF
 rw [wrap_small _ (by omega) (by omega)]
 cases bad <;> rfl
theorem RDone.pure (l : List Int) (a : Int) (bad : Bool) (hl : atOk l a = true) : RDone.f 0 l a bad = some (!bad && (leftF l a bad == 0), l, a, bad) := by
 unfold RDone.f RDone.b
 rw [hl]
 cases bad <;> rfl
theorem or8 (x c : Int) (h0 : 0 ≤ x) (h1 : x < 281474976710656) (c0 : 0 ≤ c) (c1 : c ≤ 255) : bits BinOp.or .i64 (IntKind.wrap .i64 (x * ((2 : Int) ^ (Min.min (Int.toNat (8 : Int)) (IntKind.bits .i64))))) (IntKind.wrap .i64 c) = x * 256 + c := by
 have hp : ((2 : Int) ^ (Min.min (Int.toNat (8 : Int)) (IntKind.bits .i64))) = 256 := rfl
 rw [hp, wrap_small (x * 256) (by omega) (by omega), wrap_small c (by omega) (by omega)]
 obtain ⟨X, rfl⟩ := Int.eq_ofNat_of_zero_le h0
 obtain ⟨C, rfl⟩ := Int.eq_ofNat_of_zero_le c0
 unfold bits
 dsimp only
 have e1 : ((X : Int) * 256) = ((X * 256 : Nat) : Int) := by omega
 rw [e1]
 have b64 : IntKind.bits .i64 = 64 := rfl
 have t1 : (BitVec.ofInt (IntKind.bits .i64) ((X * 256 : Nat) : Int)).toNat = X * 256 := by
  rw [b64, BitVec.ofInt_natCast, BitVec.toNat_ofNat, Nat.mod_eq_of_lt (by omega)]
 have t2 : (BitVec.ofInt (IntKind.bits .i64) (C : Int)).toNat = C := by
  rw [b64, BitVec.ofInt_natCast, BitVec.toNat_ofNat, Nat.mod_eq_of_lt (by omega)]
 rw [BitVec.toNat_or, t1, t2]
 have t3 : X * 256 ||| C = X * 256 + C := by
  have := Nat.shiftLeft_add_eq_or_of_lt (a := X) (b := C) (i := 8) (by omega)
  rw [Nat.shiftLeft_eq] at this
  exact this.symm
 rw [t3, wrap_small _ (by omega) (by omega)]
 omega
theorem RNum.loop (fuel : Nat) (n : Int) (l : List Int) (a0 : Int) (bad0 : Bool) (p : List Int) (hp : p.length ≤ 7) (hb : ∀ c ∈ p, 0 ≤ c ∧ c ≤ 255) (a : Int) (bad : Bool) : ∀ (k i : Nat) (v : Int), i ≤ p.length → p.length - i < k → 0 ≤ v → v < 256 ^ i →
  RNum.l8 fuel n l a0 bad0 k v p (p.length : Int) (i : Int) a bad = some ((p.drop i).foldl (fun v c => v * 256 + c) v, l, a, bad) := by
 intro k
 induction k with
 | zero => intro i v h1 h2; omega
 | succ k ih =>
  intro i v h1 h2 h3 h4
  rw [RNum.l8]
  unfold RNum.b8
  by_cases hi : i < p.length
  ·rw [if_pos (by simp; omega), idx_at, List.getElem?_eq_getElem hi]
   dsimp only
   obtain ⟨b1, b2⟩ := hb p[i] (List.getElem_mem hi)
   have hv : v < 281474976710656 := by
    have : i = 0 ∨ i = 1 ∨ i = 2 ∨ i = 3 ∨ i = 4 ∨ i = 5 ∨ i = 6 := by omega
    rcases this with rfl | rfl | rfl | rfl | rfl | rfl | rfl <;> simp at h4 <;> omega
   rw [or8 v _ h3 hv b1 b2, wrap_small _ (by omega) (by omega), List.drop_eq_getElem_cons hi]
   rw [show ((i : Int) + 1) = ((i + 1 : Nat) : Int) from by omega]
   exact ih (i + 1) _ (by omega) (by omega) (by omega) (by rw [Int.pow_succ]; generalize (256 : Int) ^ i = M at h4 ⊢; omega)
  ·rw [if_neg (by simp; omega), List.drop_of_length_le (by omega)]
   rfl
theorem seg_length (l : List Int) (a n : Int) (h2 : 0 ≤ a) (h0 : 0 ≤ n) (h3 : n ≤ (l.length : Int) - a) : (seg l a n).length = n.toNat := by
 unfold seg
 simp
 omega
theorem seg_mem {l : List Int} {a n c : Int} (h : c ∈ seg l a n) : c ∈ l := List.mem_of_mem_take (List.mem_of_mem_drop h)
theorem stepF_neg (l : List Int) (a : Int) (bad : Bool) : stepF l (-1) a bad = ([], false, a, true) := by
 unfold stepF
 cases bad
 ·simp
 ·rfl
theorem RNum.pure (n : Int) (l : List Int) (a : Int) (bad : Bool) (hl : atOk l a = true) : RNum.f 9 n l a bad = some ((readF l n a bad).1, l, (readF l n a bad).2.1, (readF l n a bad).2.2) := by
 obtain ⟨h1, h2, h3⟩ := (atOk_iff l a).1 hl
 obtain ⟨h4, h5⟩ := (inB_iff l).1 h1
 unfold RNum.f RNum.b readF
 rw [hl, stepF_neg]
 by_cases c1 : n < 1
 ·simp [c1, stepF_neg]
 ·by_cases c2 : n > 7
  ·simp [c1, c2, stepF_neg]
  ·simp only [c1, c2, decide_false, Bool.or_self, Bool.false_eq_true, if_false, if_true]
   cases hs : (stepF l n a bad).2.1
   ·simp
   ·simp only [Bool.not_true, Bool.false_eq_true, if_false, if_true]
    have hp : (stepF l n a bad).1 = seg l a n ∧ n ≤ (l.length : Int) - a := by
     unfold stepF at hs ⊢
     split at hs
     ·cases hs
     ·split at hs
      ·cases hs
      ·rename_i k1 k2
       rw [if_neg k1, if_neg k2]
       simp only [Bool.or_eq_true, decide_eq_true_eq, not_or] at k2
       exact ⟨rfl, by omega⟩
    rw [hp.1]
    have := RNum.loop 9 n l a bad (seg l a n) (by rw [seg_length l a n h2 (by omega) hp.2]; omega) (fun c hc => h5 c (seg_mem hc)) (stepF l n a bad).2.2.1 (stepF l n a bad).2.2.2 9 0 0 (by omega) (by rw [seg_length l a n h2 (by omega) hp.2]; omega) (by omega) (by simp)
    exact this
theorem readF_at (l : List Int) (n a : Int) (bad : Bool) (hl : atOk l a = true) : atOk l (readF l n a bad).2.1 = true := by
 obtain ⟨h1, h2, h3⟩ := (atOk_iff l a).1 hl
 refine (atOk_iff _ _).2 ⟨h1, ?_⟩
 have key : ∀ m, 0 ≤ (stepF l m a bad).2.2.1 ∧ (stepF l m a bad).2.2.1 ≤ (l.length : Int) := by
  intro m
  unfold stepF
  cases bad
  ·rw [if_neg (by simp)]
   split
   ·exact ⟨h2, h3⟩
   ·rename_i k2
    simp only [Bool.or_eq_true, decide_eq_true_eq, not_or] at k2
    dsimp only
    omega
  ·exact ⟨h2, h3⟩
 exact key _
theorem readF_byte (l : List Int) (a : Int) (bad : Bool) (hl : atOk l a = true) : 0 ≤ (readF l 1 a bad).1 ∧ (readF l 1 a bad).1 ≤ 255 := by
 obtain ⟨h1, h2, h3⟩ := (atOk_iff l a).1 hl
 obtain ⟨h4, h5⟩ := (inB_iff l).1 h1
 unfold readF
 have hn : (if (decide ((1 : Int) < 1) || decide ((1 : Int) > 7)) = true then (-1 : Int) else 1) = 1 := by decide
 dsimp only
 rw [hn]
 split
 ·rename_i hs
  unfold stepF at hs ⊢
  split at hs
  ·cases hs
  ·split at hs
   ·cases hs
   ·rename_i k1 k2
    rw [if_neg k1, if_neg k2]
    simp only [Bool.or_eq_true, decide_eq_true_eq, not_or] at k2
    have hlen := seg_length l a 1 h2 (by omega) (by omega)
    have : ∃ c, seg l a 1 = [c] := by
     match hh : seg l a 1, hlen with
     | [c], _ => exact ⟨c, rfl⟩
    obtain ⟨c, hc⟩ := this
    have := h5 c (seg_mem (a := a) (n := 1) (by rw [hc]; simp))
    dsimp only
    rw [hc]
    simp [numB]
    omega
 ·omega
def bitsTab : Bool := (List.range 256).all fun v => bits BinOp.and .i64 (v : Int) 3 == (v : Int) % 4 && bits BinOp.and .i64 (Int.fdiv (v : Int) 4) 3 == (v : Int) / 4 % 4 && bits BinOp.and .i64 (Int.fdiv (v : Int) 16) 3 == (v : Int) / 16 % 4 && ((bits BinOp.and .i64 (v : Int) 64 != 0) == ((v : Int) / 64 % 2 == 1))
theorem bits_tab : bitsTab = true := by kernel_rfl
theorem bits_of (v : Int) (h0 : 0 ≤ v) (h1 : v ≤ 255) : bits BinOp.and .i64 v 3 = v % 4 ∧ bits BinOp.and .i64 (Int.fdiv v 4) 3 = v / 4 % 4 ∧ bits BinOp.and .i64 (Int.fdiv v 16) 3 = v / 16 % 4 ∧ (bits BinOp.and .i64 v 64 != 0) = (v / 64 % 2 == 1) := by
 have := bits_tab
 unfold bitsTab at this
 have h := List.all_eq_true.1 this v.toNat (List.mem_range.2 (by omega))
 rw [Int.toNat_of_nonneg h0] at h
 simp only [Bool.and_eq_true, beq_iff_eq] at h
 exact ⟨h.1.1.1, h.1.1.2, h.1.2, h.2⟩
theorem One1.pure (l : List Int) (a : Int) (bad : Bool) (hl : atOk l a = true) : One1.f 0 l a bad = some ((oneF l a bad).1.1, (oneF l a bad).1.2.1, (oneF l a bad).1.2.2.1, (oneF l a bad).1.2.2.2.1.1, (oneF l a bad).1.2.2.2.1.2, (oneF l a bad).1.2.2.2.2.1, [], l, (oneF l a bad).2.1, (oneF l a bad).2.2) := by
 unfold One1.f One1.b oneF
 have h2 := readF_at l 2 a bad hl
 have h3 := readF_at l 2 _ (readF l 2 a bad).2.2 h2
 have hb := readF_byte l _ (readF l 2 (readF l 2 a bad).2.1 (readF l 2 a bad).2.2).2.2 h3
 rw [if_pos hl, if_pos h2, if_pos h3]
 obtain ⟨e1, e2, e3, e4⟩ := bits_of _ hb.1 hb.2
 have p1 : ((2 : Int) ^ (Min.min (Int.toNat (2 : Int)) (IntKind.bits .i64))) = 4 := rfl
 have p2 : ((2 : Int) ^ (Min.min (Int.toNat (4 : Int)) (IntKind.bits .i64))) = 16 := rfl
 rw [p1, p2, e1, e2, e3, e4]
 dsimp only
 split <;> rfl
theorem s_all_det : SumDet s_all := sdet fun _ _ _ _ => by
 unfold s_all
 simp only
 split
 ·first | rfl | (split <;> rfl)
 ·rfl
theorem s_all_ok : SumOk Tryz.prog 112 s_all := by
 have hE : EnvOk Tryz.prog SAll_E := env_ok (l := []) th_ok any_ok trivial _
 refine sum_ok hE Tryz.func112 rfl (by kernel_rfl) s_all [.own 23 (.pair tQi tQi)] SAll.k ?_
 intro R avs objs κ r h
 unfold s_all at h
 simp only at h
 split at h
 ·skip
  refine ⟨9, _, _, _, (SAll.eq (9) ()).trans (SAll.pure), ?_, h⟩
  intro rs ros hk
  unfold SAll.k at hk
  split at hk
  ·first | (cases hk; exact ⟨rfl, rfl⟩) | (rw [← Option.some.inj hk]; exact ⟨rfl, rfl⟩)
  ·cases hk
 ·cases h
theorem s_sof_ok : SumOk Tryz.prog 83 s_sof := by
 have hE : EnvOk Tryz.prog SOf_E := env_ok (l := [(112, s_all), (80, s_code)]) th_ok any_ok ⟨⟨s_all_ok, s_all_det⟩, ⟨s_code_ok, s_code_det⟩, trivial⟩ _
 refine sum_ok hE Tryz.func83 rfl (by kernel_rfl) s_sof [.dat (.pair tQi tQi) true, .raw] SOf.k ?_
 intro R avs objs κ r h
 unfold s_sof at h
 simp only at h
 split at h
 ·rename_i c
  refine ⟨9, _, _, _, (SOf.eq (9) c).trans (SOf.pure c), ?_, h⟩
  intro rs ros hk
  unfold SOf.k at hk
  split at hk
  ·first | (cases hk; exact ⟨rfl, rfl⟩) | (rw [← Option.some.inj hk]; exact ⟨rfl, rfl⟩)
  ·cases hk
 ·cases h
theorem s_read_det : SumDet s_read := sdet fun _ _ _ _ => by
 unfold s_read
 simp only
 split
 ·first | rfl | (split <;> rfl)
 ·rfl
theorem s_read_ok : SumOk Tryz.prog 51 s_read := by
 have hE : EnvOk Tryz.prog ORead_E := env_ok (l := []) th_ok any_ok trivial _
 refine sum_ok hE Tryz.func51 rfl (by kernel_rfl) s_read [.fz] ORead.k ?_
 intro R avs objs κ r h
 unfold s_read at h
 simp only at h
 split at h
 ·rename_i l
  split at h
  case isFalse => cases h
  rename_i hl
  refine ⟨0, _, _, _, (ORead.eq (0) l).trans (ORead.pure l hl), ?_, h⟩
  intro rs ros hk
  unfold ORead.k at hk
  split at hk
  ·first | (cases hk; exact ⟨rfl, rfl⟩) | (rw [← Option.some.inj hk]; exact ⟨rfl, rfl⟩)
  ·cases hk
 ·cases h
theorem s_step_det : SumDet s_step := sdet fun _ _ _ _ => by
 unfold s_step
 simp only
 split
 ·first | rfl | (split <;> rfl)
 ·rfl
theorem s_step_ok : SumOk Tryz.prog 73 s_step := by
 have hE : EnvOk Tryz.prog OStep_E := env_ok (l := []) th_ok any_ok trivial _
 refine sum_ok hE Tryz.func73 rfl (by kernel_rfl) s_step [.dat (.sl (.int .u8)) false, .raw] OStep.k ?_
 intro R avs objs κ r h
 unfold s_step at h
 simp only at h
 split at h
 ·rename_i n l a bad
  split at h
  case isFalse => cases h
  rename_i hl
  refine ⟨0, _, _, _, (OStep.eq (0) n l a bad).trans (OStep.pure n l a bad hl), ?_, h⟩
  intro rs ros hk
  unfold OStep.k at hk
  split at hk
  ·first | (cases hk; exact ⟨rfl, rfl⟩) | (rw [← Option.some.inj hk]; exact ⟨rfl, rfl⟩)
  ·cases hk
 ·cases h
theorem s_rnum_det : SumDet s_rnum := sdet fun _ _ _ _ => by
 unfold s_rnum
 simp only
 split
 ·first | rfl | (split <;> rfl)
 ·rfl
theorem s_rnum_ok : SumOk Tryz.prog 52 s_rnum := by
 have hE : EnvOk Tryz.prog RNum_E := env_ok (l := [(73, s_step)]) th_ok any_ok ⟨⟨s_step_ok, s_step_det⟩, trivial⟩ _
 refine sum_ok hE Tryz.func52 rfl (by kernel_rfl) s_rnum [.raw] RNum.k ?_
 intro R avs objs κ r h
 unfold s_rnum at h
 simp only at h
 split at h
 ·rename_i n l a bad
  split at h
  case isFalse => cases h
  rename_i hl
  refine ⟨9, _, _, _, (RNum.eq (9) n l a bad).trans (RNum.pure n l a bad hl), ?_, h⟩
  intro rs ros hk
  unfold RNum.k at hk
  split at hk
  ·first | (cases hk; exact ⟨rfl, rfl⟩) | (rw [← Option.some.inj hk]; exact ⟨rfl, rfl⟩)
  ·cases hk
 ·cases h
theorem s_bad_det : SumDet s_bad := sdet fun _ _ _ _ => by
 unfold s_bad
 simp only
 split
 ·first | rfl | (split <;> rfl)
 ·rfl
theorem s_bad_ok : SumOk Tryz.prog 84 s_bad := by
 have hE : EnvOk Tryz.prog RBad_E := env_ok (l := []) th_ok any_ok trivial _
 refine sum_ok hE Tryz.func84 rfl (by kernel_rfl) s_bad [.raw] RBad.k ?_
 intro R avs objs κ r h
 unfold s_bad at h
 simp only at h
 split at h
 ·rename_i l a bad
  refine ⟨0, _, _, _, (RBad.eq (0) l a bad).trans (RBad.pure l a bad), ?_, h⟩
  intro rs ros hk
  unfold RBad.k at hk
  split at hk
  ·first | (cases hk; exact ⟨rfl, rfl⟩) | (rw [← Option.some.inj hk]; exact ⟨rfl, rfl⟩)
  ·cases hk
 ·cases h
theorem s_left_det : SumDet s_left := sdet fun _ _ _ _ => by
 unfold s_left
 simp only
 split
 ·first | rfl | (split <;> rfl)
 ·rfl
theorem s_left_ok : SumOk Tryz.prog 113 s_left := by
 have hE : EnvOk Tryz.prog RLeft_E := env_ok (l := [(84, s_bad)]) th_ok any_ok ⟨⟨s_bad_ok, s_bad_det⟩, trivial⟩ _
 refine sum_ok hE Tryz.func113 rfl (by kernel_rfl) s_left [.raw] RLeft.k ?_
 intro R avs objs κ r h
 unfold s_left at h
 simp only at h
 split at h
 ·rename_i l a bad
  split at h
  case isFalse => cases h
  rename_i hl
  refine ⟨0, _, _, _, (RLeft.eq (0) l a bad).trans (RLeft.pure l a bad hl), ?_, h⟩
  intro rs ros hk
  unfold RLeft.k at hk
  split at hk
  ·first | (cases hk; exact ⟨rfl, rfl⟩) | (rw [← Option.some.inj hk]; exact ⟨rfl, rfl⟩)
  ·cases hk
 ·cases h
theorem s_done_det : SumDet s_done := sdet fun _ _ _ _ => by
 unfold s_done
 simp only
 split
 ·first | rfl | (split <;> rfl)
 ·rfl
theorem s_done_ok : SumOk Tryz.prog 86 s_done := by
 have hE : EnvOk Tryz.prog RDone_E := env_ok (l := [(84, s_bad), (113, s_left)]) th_ok any_ok ⟨⟨s_bad_ok, s_bad_det⟩, ⟨s_left_ok, s_left_det⟩, trivial⟩ _
 refine sum_ok hE Tryz.func86 rfl (by kernel_rfl) s_done [.raw] RDone.k ?_
 intro R avs objs κ r h
 unfold s_done at h
 simp only at h
 split at h
 ·rename_i l a bad
  split at h
  case isFalse => cases h
  rename_i hl
  refine ⟨0, _, _, _, (RDone.eq (0) l a bad).trans (RDone.pure l a bad hl), ?_, h⟩
  intro rs ros hk
  unfold RDone.k at hk
  split at hk
  ·first | (cases hk; exact ⟨rfl, rfl⟩) | (rw [← Option.some.inj hk]; exact ⟨rfl, rfl⟩)
  ·cases hk
 ·cases h
theorem s_one_ok : SumOk Tryz.prog 85 s_one := by
 have hE : EnvOk Tryz.prog One1_E := env_ok (l := [(52, s_rnum)]) th_ok any_ok ⟨⟨s_rnum_ok, s_rnum_det⟩, trivial⟩ _
 refine sum_ok hE Tryz.func85 rfl (by kernel_rfl) s_one [.dat tQr true] One1.k ?_
 intro R avs objs κ r h
 unfold s_one at h
 simp only at h
 split at h
 ·rename_i l a bad
  split at h
  case isFalse => cases h
  rename_i hl
  refine ⟨0, _, _, _, (One1.eq (0) l a bad).trans (One1.pure l a bad hl), ?_, h⟩
  intro rs ros hk
  unfold One1.k at hk
  split at hk
  ·first | (cases hk; exact ⟨rfl, rfl⟩) | (rw [← Option.some.inj hk]; exact ⟨rfl, rfl⟩)
  ·cases hk
 ·cases h
def s_rnumb : Den.Sum := ⟨[.raw, .raw], fun args objs κ => match args, objs with
 | [.ptr 0 0, .d (.int .i64) n], [.box [.d (.sl (.int .u8)) l, .d (.int .i64) a, .d .bool bad]] => if atOk l a = true then (match veil (some (readF l n a bad)) with | none => none | some y => κ [.d (.int .i64) y.1] [.box [.d (.sl (.int .u8)) l, .d (.int .i64) y.2.1, .d .bool y.2.2]]) else none
 | _, _ => none⟩
def s_oneb : Den.Sum := ⟨[.raw], fun args objs κ => match args, objs with
 | [.fn (.func 52) [.ptr 0 0] []], [.box [.d (.sl (.int .u8)) l, .d (.int .i64) a, .d .bool bad]] => if atOk l a = true then (match veil (some (oneF l a bad)) with | none => none | some y => κ [.agg [.d (.int .i64) y.1.1, .d (.int .i64) y.1.2.1, .d (.int .i64) y.1.2.2.1, .d (.int .i64) y.1.2.2.2.1.1, .d (.int .i64) y.1.2.2.2.1.2, .d .bool y.1.2.2.2.2.1, .d (.sl (.pair (.int .i64) (.sl (.int .u8)))) []]] [.box [.d (.sl (.int .u8)) l, .d (.int .i64) y.2.1, .d .bool y.2.2]]) else none
 | _, _ => none⟩
def s_sofb : Den.Sum := ⟨[.raw], fun args objs κ => match args, objs with
 | [.d (.int .i64) c], [] => match veil (some (ofGo allF c)) with | none => none | some y => κ [.agg [.d (.int .i64) y.1, .d (.int .i64) y.2.1], .d .bool y.2.2] []
 | _, _ => none⟩
theorem s_rnumb_det : SumDet s_rnumb := sdet fun _ _ _ _ => by
 unfold s_rnumb
 simp only [veil_eq]
 split
 ·first | rfl | (split <;> rfl)
 ·rfl
theorem s_rnumb_ok : SumOk Tryz.prog 52 s_rnumb := ⟨s_rnum_ok.1, fun avs objs κ r hr => s_rnum_ok.2 avs objs κ r (by
 unfold s_rnumb at hr
 simp only [veil_eq] at hr
 split at hr
 ·exact hr
 ·cases hr)⟩
theorem s_oneb_det : SumDet s_oneb := sdet fun _ _ _ _ => by
 unfold s_oneb
 simp only [veil_eq]
 split
 ·first | rfl | (split <;> rfl)
 ·rfl
theorem s_oneb_ok : SumOk Tryz.prog 85 s_oneb := ⟨s_one_ok.1, fun avs objs κ r hr => s_one_ok.2 avs objs κ r (by
 unfold s_oneb at hr
 simp only [veil_eq] at hr
 split at hr
 ·exact hr
 ·cases hr)⟩
theorem s_sofb_det : SumDet s_sofb := sdet fun _ _ _ _ => by
 unfold s_sofb
 simp only [veil_eq]
 split
 ·first | rfl | (split <;> rfl)
 ·rfl
theorem s_sofb_ok : SumOk Tryz.prog 83 s_sofb := ⟨s_sof_ok.1, fun avs objs κ r hr => s_sof_ok.2 avs objs κ r (by
 unfold s_sofb at hr
 simp only [veil_eq] at hr
 split at hr
 ·exact hr
 ·cases hr)⟩
def Decode1_E : Env := ⟨th, gam [(51, s_read), (83, s_sofb), (85, s_oneb), (77, s_fits1), (52, s_rnumb), (84, s_bad), (86, s_done)], fun i => if i = 13 then ⟨[2, 4, 5, 6, 8, 9, 10], [(1394, 54, tQr)], []⟩ else ⟨[], [], []⟩⟩
def Decode1.k (rs : List AV) (os : List Den.Obj) : Option (Int × Int × Int × Int × Int × Int × Int × Int × Int × Int × LR × Int) :=
 match rs, os with
 | [.agg [.d (.int .i64) r0, .d (.int .i64) r1, .d (.int .i64) r2, .d (.int .i64) r3, .d (.int .i64) r4, .d (.int .i64) r5, .d (.int .i64) r6, .d (.int .i64) r7, .d (.int .i64) r8, .d (.int .i64) r9, .d (.sl (.pair (.int .i64) (.pair (.int .i64) (.pair (.int .i64) (.pair (.pair (.int .i64) (.int .i64)) (.pair .bool (.sl (.pair (.int .i64) (.sl (.int .u8)))))))))) r10], .d (.int .i64) r11], [] => some (r0, r1, r2, r3, r4, r5, r6, r7, r8, r9, r10, r11)
 | _, _ => none
def Decode1.s13 (l : List Int) (x8 : Bool) (x9 x10 x11 : Int) (x12 : Bool) (x13 x14 x15 x16 x17 x18 x19 : Int) (x20 : LR) : St := ⟨[.dead, .dead, .ptr 64 0, .dead, .ptr 65 0, .fn (.func 52) [.ptr 65 0] [], .ptr 66 0, .dead, .d .bool x8, .d tQi x9, .d tQi x10, dD, dD, dD, dD, dD, dD, dD, dD, dD, dD, dD, dD, dD, dD, dD, dD, dD, dD, dD, dD, dD, dD, dD, dD, dD, dD, dD, dD, dD, dD, dD, dD, dD, dD, dD, dD, dD, dD, dD, dD, dD, dD, dD, dD, dD, dD, dD, dD, dD, dD, dD, dD, dD, dD, dD, dD, dD, dD, dD, .dead], ofL [(64, .box [.d tQi (0), .d tQi (0), .d tQi (0), .d tQi (0), .d tQi (0), .d tQi (0), .d tQi (0), .d tQi (0), .d tQi (0), .d tQi (0), .nilsl]), (65, .box [.d (.sl (.int .u8)) (l), .d tQi x11, .d .bool x12]), (66, .box [.d tQi x13, .d tQi x14, .d tQi x15, .d tQi x16, .d tQi x17, .d tQi x18, .d tQi x19, .d tQi (0), .d tQi (0), .d tQi (0), .row 67]), (67, .row 54 tQr x20 false)], 0⟩
def Decode1.p13 (fuel : Nat) (l : List Int) (k : Nat) := fun x8 x9 x10 x11 x12 x13 x14 x15 x16 x17 x18 x19 x20 => lp Decode1_E fuel Tryz.f59 [.dat (.pair tQi (.pair tQi (.pair tQi (.pair (.pair tQi tQi) (.pair tQi (.pair tQi (.pair tQi (.pair tQi (.pair tQi (.sl tQr)))))))))) true, .raw] 0 Decode1.k 13 [] k (Decode1.s13 l x8 x9 x10 x11 x12 x13 x14 x15 x16 x17 x18 x19 x20)
def Decode1.b13 (l : List Int) (A13 : Bool → Int → Int → Int → Bool → Int → Int → Int → Int → Int → Int → Int → LR → Option (Int × Int × Int × Int × Int × Int × Int × Int × Int × Int × LR × Int)) (x8 : Bool) (x9 : Int) (x10 : Int) (x11 : Int) (x12 : Bool) (x13 : Int) (x14 : Int) (x15 : Int) (x16 : Int) (x17 : Int) (x18 : Int) (x19 : Int) (x20 : LR) : Option (Int × Int × Int × Int × Int × Int × Int × Int × Int × Int × LR × Int) :=
 (if (decide (x10 < x9)) then (if (!x12) then (if (atOk l x11) then (match (veil (Option.some (oneF l x11 x12))) with | none => none | some y21 => (if ((((List.length x20) + (List.length ((y21.1.1, (y21.1.2.1, (y21.1.2.2.1, ((y21.1.2.2.2.1.1, y21.1.2.2.2.1.2), (y21.1.2.2.2.2.1, ([] : LF)))))) :: ([] : LR)))) * (72 : Nat)) ≤ lim) then A13 x8 x9 (IntKind.wrap .i64 (x10 + (1 : Int))) y21.2.1 y21.2.2 x13 x14 x15 x16 x17 x18 x19 (x20 ++ ((y21.1.1, (y21.1.2.1, (y21.1.2.2.1, ((y21.1.2.2.2.1.1, y21.1.2.2.2.1.2), (y21.1.2.2.2.2.1, ([] : LF)))))) :: ([] : LR))) else none)) else none) else (if (!x8) then some (0, 0, 0, 0, 0, 0, 0, 0, 0, 0, ([] : LR), (4 : Int)) else (if (atOk l x11) then (if (!((!x12) && ((leftF l x11 x12) == (0 : Int)))) then some (0, 0, 0, 0, 0, 0, 0, 0, 0, 0, ([] : LR), (4 : Int)) else (if (smallRecs x20) then (if (!(fits1 x13 x14 x15 x16 x17 x18 x19 0 0 0 x20)) then some (0, 0, 0, 0, 0, 0, 0, 0, 0, 0, ([] : LR), (4 : Int)) else some (x13, x14, x15, x16, x17, x18, x19, 0, 0, 0, x20, (0 : Int))) else none)) else none))) else (if (!x8) then some (0, 0, 0, 0, 0, 0, 0, 0, 0, 0, ([] : LR), (4 : Int)) else (if (atOk l x11) then (if (!((!x12) && ((leftF l x11 x12) == (0 : Int)))) then some (0, 0, 0, 0, 0, 0, 0, 0, 0, 0, ([] : LR), (4 : Int)) else (if (smallRecs x20) then (if (!(fits1 x13 x14 x15 x16 x17 x18 x19 0 0 0 x20)) then some (0, 0, 0, 0, 0, 0, 0, 0, 0, 0, ([] : LR), (4 : Int)) else some (x13, x14, x15, x16, x17, x18, x19, 0, 0, 0, x20, (0 : Int))) else none)) else none)))
def Decode1.l13 (fuel : Nat) (l : List Int) : Nat → Bool → Int → Int → Int → Bool → Int → Int → Int → Int → Int → Int → Int → LR → Option (Int × Int × Int × Int × Int × Int × Int × Int × Int × Int × LR × Int)
 | 0, _, _, _, _, _, _, _, _, _, _, _, _, _ => none
 | k + 1, x8, x9, x10, x11, x12, x13, x14, x15, x16, x17, x18, x19, x20 => Decode1.b13 l (Decode1.l13 fuel l k) x8 x9 x10 x11 x12 x13 x14 x15 x16 x17 x18 x19 x20
def Decode1.b (l : List Int) (E13 : Bool → Int → Int → Int → Bool → Int → Int → Int → Int → Int → Int → Int → LR → Option (Int × Int × Int × Int × Int × Int × Int × Int × Int × Int × LR × Int)) : Option (Int × Int × Int × Int × Int × Int × Int × Int × Int × Int × LR × Int) :=
 (if (inB l) then (if (atOk l 0) then (match (veil (Option.some (readF l (1 : Int) 0 false))) with | none => none | some y0 => (if (atOk l y0.2.1) then (match (veil (Option.some (readF l (2 : Int) y0.2.1 y0.2.2))) with | none => none | some y1 => (if (atOk l y1.2.1) then (match (veil (Option.some (readF l (6 : Int) y1.2.1 y1.2.2))) with | none => none | some y2 => (if (atOk l y2.2.1) then (match (veil (Option.some (readF l (1 : Int) y2.2.1 y2.2.2))) with | none => none | some y3 => (match (veil (Option.some (ofGo allF y3.1))) with | none => none | some y4 => (if (atOk l y3.2.1) then (match (veil (Option.some (readF l (2 : Int) y3.2.1 y3.2.2))) with | none => none | some y5 => (if (atOk l y5.2.1) then (match (veil (Option.some (readF l (2 : Int) y5.2.1 y5.2.2))) with | none => none | some y6 => (if (atOk l y6.2.1) then (match (veil (Option.some (readF l (1 : Int) y6.2.1 y6.2.2))) with | none => none | some y7 => E13 y4.2.2 y7.1 (0 : Int) y7.2.1 y7.2.2 y0.1 y1.1 y2.1 y4.1 y4.2.1 y5.1 y6.1 ([] : LR)) else none)) else none)) else none))) else none)) else none)) else none)) else none) else none)
def Decode1.f (fuel : Nat) (l : List Int) : Option (Int × Int × Int × Int × Int × Int × Int × Int × Int × Int × LR × Int) := Decode1.b l (Decode1.l13 fuel l fuel)
theorem Decode1.l13_eq (fuel : Nat) (l : List Int) : ∀ k : Nat, Decode1.p13 fuel l k = Decode1.l13 fuel l k
 | 0 => by kernel_rfl
 | k + 1 => by
  refine Eq.trans (b := Decode1.b13 l (Decode1.p13 fuel l k)) (by kernel_rfl) ?_
  rw [Decode1.l13_eq fuel l k]
  kernel_rfl
theorem Decode1.eq (fuel : Nat) (l : List Int) : (denF Decode1_E loopN fuel Tryz.f59 [.dat (.pair tQi (.pair tQi (.pair tQi (.pair (.pair tQi tQi) (.pair tQi (.pair tQi (.pair tQi (.pair tQi (.pair tQi (.sl tQr)))))))))) true, .raw] [.d (.sl (.int .u8)) l] [] Decode1.k) = Decode1.f fuel l := by
 refine Eq.trans (b := Decode1.b l (Decode1.p13 fuel l fuel)) (by kernel_rfl) ?_
 rw [Decode1.l13_eq fuel l fuel]
 kernel_rfl
def decGo (l : List Int) : Nat → Int → Bool → LR × Int × Bool
 | 0, a, bad => ([], a, bad)
 | k + 1, a, bad => if bad then ([], a, bad) else ((oneF l a bad).1 :: (decGo l k (oneF l a bad).2.1 (oneF l a bad).2.2).1, (decGo l k (oneF l a bad).2.1 (oneF l a bad).2.2).2)
def endF (ok : Bool) (l : List Int) (a : Int) (bad : Bool) (kind from0 inc lo hi seq target : Int) (recs : LR) : Int × Int × Int × Int × Int × Int × Int × LR × Int :=
 if ok && ((!bad && (leftF l a bad == 0)) && fits1 kind from0 inc lo hi seq target 0 0 0 recs) then (kind, from0, inc, lo, hi, seq, target, recs, 0) else (0, 0, 0, 0, 0, 0, 0, [], 4)
def decF (l : List Int) : Int × Int × Int × Int × Int × Int × Int × LR × Int :=
 let r1 := readF l 1 0 false
 let r2 := readF l 2 r1.2.1 r1.2.2
 let r3 := readF l 6 r2.2.1 r2.2.2
 let r4 := readF l 1 r3.2.1 r3.2.2
 let s := ofGo allF r4.1
 let r5 := readF l 2 r4.2.1 r4.2.2
 let r6 := readF l 2 r5.2.1 r5.2.2
 let r7 := readF l 1 r6.2.1 r6.2.2
 let d := decGo l r7.1.toNat r7.2.1 r7.2.2
 endF s.2.2 l d.2.1 d.2.2 r1.1 r2.1 r3.1 s.1 s.2.1 r5.1 r6.1 d.1
theorem oneF_at (l : List Int) (a : Int) (bad : Bool) (hl : atOk l a = true) : atOk l (oneF l a bad).2.1 = true := by
 unfold oneF
 exact readF_at l 1 _ _ (readF_at l 2 _ _ (readF_at l 2 a bad hl))
theorem Decode1.loop (fuel : Nat) (l : List Int) (ok : Bool) (n : Int) (hn : n ≤ 255) (kind from0 inc lo hi seq target : Int) : ∀ (k j : Nat) (i a : Int) (bad : Bool) (acc : LR), j < k → 0 ≤ i → i + (j : Int) = n → atOk l a = true → (acc.length : Int) ≤ i → (∀ r ∈ acc, r.2.2.2.2.2 = []) →
  Decode1.l13 fuel l k ok n i a bad kind from0 inc lo hi seq target acc = some (let e := endF ok l (decGo l j a bad).2.1 (decGo l j a bad).2.2 kind from0 inc lo hi seq target (acc ++ (decGo l j a bad).1); (e.1, e.2.1, e.2.2.1, e.2.2.2.1, e.2.2.2.2.1, e.2.2.2.2.2.1, e.2.2.2.2.2.2.1, 0, 0, 0, e.2.2.2.2.2.2.2.1, e.2.2.2.2.2.2.2.2)) := by
 have fin : ∀ (a : Int) (bad : Bool) (acc : LR), atOk l a = true → acc.length ≤ 300 → (∀ r ∈ acc, r.2.2.2.2.2 = []) →
   (if (!ok) = true then some ((0 : Int), (0 : Int), (0 : Int), (0 : Int), (0 : Int), (0 : Int), (0 : Int), (0 : Int), (0 : Int), (0 : Int), ([] : LR), (4 : Int)) else (if atOk l a = true then (if (!((!bad) && ((leftF l a bad) == (0 : Int)))) = true then some (0, 0, 0, 0, 0, 0, 0, 0, 0, 0, [], (4 : Int)) else (if smallRecs acc = true then (if (!(fits1 kind from0 inc lo hi seq target 0 0 0 acc)) = true then some (0, 0, 0, 0, 0, 0, 0, 0, 0, 0, [], (4 : Int)) else some (kind, from0, inc, lo, hi, seq, target, 0, 0, 0, acc, (0 : Int))) else none)) else none)) =
   some (let e := endF ok l a bad kind from0 inc lo hi seq target acc; (e.1, e.2.1, e.2.2.1, e.2.2.2.1, e.2.2.2.2.1, e.2.2.2.2.2.1, e.2.2.2.2.2.2.1, 0, 0, 0, e.2.2.2.2.2.2.2.1, e.2.2.2.2.2.2.2.2)) := by
  intro a bad acc hl hlen hb
  have hs : smallRecs acc = true := (smallRecs_iff acc).2 ⟨by omega, fun r hr => by rw [hb r hr]; rfl⟩
  unfold endF
  rw [hl, hs]
  cases ok
  ·rfl
  ·cases (!bad && (leftF l a bad == 0))
   ·rfl
   ·cases fits1 kind from0 inc lo hi seq target 0 0 0 acc <;> rfl
 intro k
 induction k with
 | zero => intro j i a bad acc h1; omega
 | succ k ih =>
  intro j i a bad acc h1 h2 h3 h4 h5 h6
  rw [Decode1.l13]
  unfold Decode1.b13
  cases j with
  | zero =>
   rw [if_neg (by simp; omega)]
   have := fin a bad acc h4 (by omega) h6
   unfold decGo
   rw [List.append_nil]
   exact this
  | succ j =>
   rw [if_pos (by simp; omega)]
   cases bad with
   | true =>
    rw [if_neg (by simp)]
    have := fin a true acc h4 (by omega) h6
    unfold decGo
    rw [if_pos rfl, List.append_nil]
    exact this
   | false =>
    rw [if_pos (show (!false) = true from rfl), if_pos h4, veil_eq]
    dsimp only
    rw [if_pos (by simp [lim]; omega), wrap_small (i + 1) (by omega) (by omega)]
    have hr : ((oneF l a false).1.1, ((oneF l a false).1.2.1, ((oneF l a false).1.2.2.1, (((oneF l a false).1.2.2.2.1.1, (oneF l a false).1.2.2.2.1.2), ((oneF l a false).1.2.2.2.2.1, ([] : LF)))))) = (oneF l a false).1 := rfl
    rw [hr, ih j (i + 1) (oneF l a false).2.1 (oneF l a false).2.2 (acc ++ [(oneF l a false).1]) (by omega) (by omega) (by omega) (oneF_at l a false h4) (by simp; omega) (fun r hr => by
     rcases List.mem_append.1 hr with hr | hr
     ·exact h6 r hr
     ·simp at hr; subst hr; rfl)]
    conv => rhs; rw [decGo]
    rw [if_neg (by simp), List.append_assoc, List.singleton_append]
theorem Decode1.pure (l : List Int) (hl : inB l = true) : Decode1.f 300 l = some (let e := decF l; (e.1, e.2.1, e.2.2.1, e.2.2.2.1, e.2.2.2.2.1, e.2.2.2.2.2.1, e.2.2.2.2.2.2.1, 0, 0, 0, e.2.2.2.2.2.2.2.1, e.2.2.2.2.2.2.2.2)) := by
 have h0 : atOk l 0 = true := (atOk_iff l 0).2 ⟨hl, by omega, by omega⟩
 unfold Decode1.f Decode1.b
 have h1 := readF_at l 1 0 false h0
 have h2 := readF_at l 2 _ (readF l 1 0 false).2.2 h1
 have h3 := readF_at l 6 _ (readF l 2 (readF l 1 0 false).2.1 (readF l 1 0 false).2.2).2.2 h2
 simp only [veil_eq]
 rw [if_pos hl, if_pos h0, if_pos h1, if_pos h2, if_pos h3]
 generalize hr1 : readF l 1 0 false = r1 at *
 generalize hr2 : readF l 2 r1.2.1 r1.2.2 = r2 at *
 generalize hr3 : readF l 6 r2.2.1 r2.2.2 = r3 at *
 have h4 := readF_at l 1 _ r3.2.2 h3
 rw [if_pos h4]
 generalize hr4 : readF l 1 r3.2.1 r3.2.2 = r4 at *
 have h5 := readF_at l 2 _ r4.2.2 h4
 rw [if_pos h5]
 generalize hr5 : readF l 2 r4.2.1 r4.2.2 = r5 at *
 have h6 := readF_at l 2 _ r5.2.2 h5
 rw [if_pos h6]
 generalize hr6 : readF l 2 r5.2.1 r5.2.2 = r6 at *
 have h7 := readF_at l 1 _ r6.2.2 h6
 have hb := readF_byte l _ r6.2.2 h6
 have hd : decF l = endF (ofGo allF r4.1).2.2 l (decGo l (readF l 1 r6.2.1 r6.2.2).1.toNat (readF l 1 r6.2.1 r6.2.2).2.1 (readF l 1 r6.2.1 r6.2.2).2.2).2.1 (decGo l (readF l 1 r6.2.1 r6.2.2).1.toNat (readF l 1 r6.2.1 r6.2.2).2.1 (readF l 1 r6.2.1 r6.2.2).2.2).2.2 r1.1 r2.1 r3.1 (ofGo allF r4.1).1 (ofGo allF r4.1).2.1 r5.1 r6.1 (decGo l (readF l 1 r6.2.1 r6.2.2).1.toNat (readF l 1 r6.2.1 r6.2.2).2.1 (readF l 1 r6.2.1 r6.2.2).2.2).1 := by
  unfold decF
  simp only [hr1, hr2, hr3, hr4, hr5, hr6]
 rw [hd]
 have := Decode1.loop 300 l (ofGo allF r4.1).2.2 (readF l 1 r6.2.1 r6.2.2).1 hb.2 r1.1 r2.1 r3.1 (ofGo allF r4.1).1 (ofGo allF r4.1).2.1 r5.1 r6.1 300 (readF l 1 r6.2.1 r6.2.2).1.toNat 0 (readF l 1 r6.2.1 r6.2.2).2.1 (readF l 1 r6.2.1 r6.2.2).2.2 [] (by omega) (by omega) (by omega) h7 (by simp) (by simp)
 rw [List.nil_append] at this
 exact this
def s_dec : Den.Sum := ⟨[.dat (.sl (.int .u8)) false], fun args objs κ => match args, objs with
 | [.d (.sl (.int .u8)) l], [] => if inB l = true then κ [.agg [.d (.int .i64) (decF l).1, .d (.int .i64) (decF l).2.1, .d (.int .i64) (decF l).2.2.1, .d (.int .i64) (decF l).2.2.2.1, .d (.int .i64) (decF l).2.2.2.2.1, .d (.int .i64) (decF l).2.2.2.2.2.1, .d (.int .i64) (decF l).2.2.2.2.2.2.1, .d (.int .i64) 0, .d (.int .i64) 0, .d (.int .i64) 0, .d (.sl (.pair (.int .i64) (.pair (.int .i64) (.pair (.int .i64) (.pair (.pair (.int .i64) (.int .i64)) (.pair .bool (.sl (.pair (.int .i64) (.sl (.int .u8)))))))))) ((decF l).2.2.2.2.2.2.2.1)], .d (.int .i64) ((decF l).2.2.2.2.2.2.2.2)] [] else none
 | _, _ => none⟩
def s_decb : Den.Sum := ⟨[.dat (.sl (.int .u8)) false], fun args objs κ => match args, objs with
 | [.d (.sl (.int .u8)) l], [] => if inB l = true then (match veil (some (decF l)) with | none => none | some y => κ [.agg [.d (.int .i64) y.1, .d (.int .i64) y.2.1, .d (.int .i64) y.2.2.1, .d (.int .i64) y.2.2.2.1, .d (.int .i64) y.2.2.2.2.1, .d (.int .i64) y.2.2.2.2.2.1, .d (.int .i64) y.2.2.2.2.2.2.1, .d (.int .i64) 0, .d (.int .i64) 0, .d (.int .i64) 0, .d (.sl (.pair (.int .i64) (.pair (.int .i64) (.pair (.int .i64) (.pair (.pair (.int .i64) (.int .i64)) (.pair .bool (.sl (.pair (.int .i64) (.sl (.int .u8)))))))))) (y.2.2.2.2.2.2.2.1)], .d (.int .i64) (y.2.2.2.2.2.2.2.2)] []) else none
 | _, _ => none⟩
theorem s_dec_ok : SumOk Tryz.prog 59 s_dec := by
 have hE : EnvOk Tryz.prog Decode1_E := env_ok (l := [(51, s_read), (83, s_sofb), (85, s_oneb), (77, s_fits1), (52, s_rnumb), (84, s_bad), (86, s_done)]) th_ok any_ok ⟨⟨s_read_ok, s_read_det⟩, ⟨s_sofb_ok, s_sofb_det⟩, ⟨s_oneb_ok, s_oneb_det⟩, ⟨s_fits1_ok, s_fits1_det⟩, ⟨s_rnumb_ok, s_rnumb_det⟩, ⟨s_bad_ok, s_bad_det⟩, ⟨s_done_ok, s_done_det⟩, trivial⟩ _
 refine sum_ok hE Tryz.func59 rfl (by kernel_rfl) s_dec [.dat (.pair tQi (.pair tQi (.pair tQi (.pair (.pair tQi tQi) (.pair tQi (.pair tQi (.pair tQi (.pair tQi (.pair tQi (.sl tQr)))))))))) true, .raw] Decode1.k ?_
 intro R avs objs κ r h
 unfold s_dec at h
 simp only at h
 split at h
 ·rename_i l
  split at h
  case isFalse => cases h
  rename_i hl
  refine ⟨300, _, _, _, (Decode1.eq (300) l).trans (Decode1.pure l hl), ?_, h⟩
  intro rs ros hk
  unfold Decode1.k at hk
  split at hk
  ·first | (cases hk; exact ⟨rfl, rfl⟩) | (rw [← Option.some.inj hk]; exact ⟨rfl, rfl⟩)
  ·cases hk
 ·cases h
theorem s_decb_det : SumDet s_decb := sdet fun _ _ _ _ => by
 unfold s_decb
 simp only [veil_eq]
 split
 ·first | rfl | (split <;> rfl)
 ·rfl
theorem s_decb_ok : SumOk Tryz.prog 59 s_decb := ⟨s_dec_ok.1, fun avs objs κ r hr => s_dec_ok.2 avs objs κ r (by
 unfold s_decb at hr
 simp only [veil_eq] at hr
 split at hr
 ·exact hr
 ·cases hr)⟩
theorem ofGo_some {c : Int} (h : (ofGo allF c).2.2 = true) : codeF (ofGo allF c).1 (ofGo allF c).2.1 = c := by
 unfold allF ofGo ofGo ofGo ofGo ofGo ofGo ofGo at h ⊢
 split
 ·rename_i hc; simpa using hc
 split
 ·rename_i hc; simpa using hc
 split
 ·rename_i hc; simpa using hc
 split
 ·rename_i hc; simpa using hc
 split
 ·rename_i hc; simpa using hc
 split
 ·rename_i hc; simpa using hc
 rename_i c1 c2 c3 c4 c5 c6
 rw [if_neg c1, if_neg c2, if_neg c3, if_neg c4, if_neg c5, if_neg c6] at h
 cases h
def lexB : List Int → List Int → Int
 | [], [] => 0
 | [], _ :: _ => -1
 | _ :: _, [] => 1
 | x :: l, y :: m => if decide (x < y) then -1 else if decide (x > y) then 1 else lexB l m
def signF (t1 : Int) (d1 : List Int) (t2 : Int) (d2 : List Int) : Int := if t1 != t2 then (if decide (t1 < t2) then -1 else 1) else lexB d1 d2
def cmpGo : LF → LF → Int
 | [], [] => 0
 | [], _ :: _ => -1
 | _ :: _, [] => 1
 | x :: l, y :: m => if signF x.1 x.2 y.1 y.2 != 0 then signF x.1 x.2 y.1 y.2 else cmpGo l m
def alike8 (a b : (Int × Int × Int × (Int × Int) × Bool × LF)) : Bool := a.1 == b.1 && (a.2.1 == b.2.1 && (a.2.2.1 == b.2.2.1 && (a.2.2.2.1.1 == b.2.2.2.1.1 && (a.2.2.2.1.2 == b.2.2.2.1.2 && (a.2.2.2.2.1 == b.2.2.2.2.1 && cmpGo a.2.2.2.2.2 b.2.2.2.2.2 == 0)))))
def allGo : LR → LR → Bool
 | [], [] => true
 | a :: l, b :: m => alike8 a b && allGo l m
 | _, _ => false
def small (l : List Int) : Bool := decide (l.length < 281474976710656)
def s_isnan : Den.Sum := ⟨[.raw], fun args objs κ => match args, objs with
 | [.d (.int .u8) x], [] => κ [.d .bool false] []
 | _, _ => none⟩
def s_cmpb : Den.Sum := ⟨[.raw, .raw], fun args objs κ => match args, objs with
 | [.d (.int .u8) x, .d (.int .u8) y], [] => κ [.d (.int .i64) (if decide (x < y) then -1 else if decide (x > y) then 1 else 0)] []
 | _, _ => none⟩
def s_slcmp : Den.Sum := ⟨[.dat (.sl (.int .u8)) false, .dat (.sl (.int .u8)) false], fun args objs κ => match args, objs with
 | [.d (.sl (.int .u8)) l, .d (.sl (.int .u8)) m], [] => if (small l && small m) = true then κ [.d (.int .i64) (lexB l m)] [] else none
 | _, _ => none⟩
def s_sign : Den.Sum := ⟨[.dat (.pair tQi (.sl (.int .u8))) true, .dat (.pair tQi (.sl (.int .u8))) true], fun args objs κ => match args, objs with
 | [.agg [.d (.int .i64) t1, .d (.sl (.int .u8)) d1], .agg [.d (.int .i64) t2, .d (.sl (.int .u8)) d2]], [] => if (small d1 && small d2) = true then κ [.d (.int .i64) (signF t1 d1 t2 d2)] [] else none
 | _, _ => none⟩
def s_bcmp : Den.Sum := ⟨[.dat (.sl (.pair tQi (.sl (.int .u8)))) false, .dat (.sl (.pair tQi (.sl (.int .u8)))) false], fun args objs κ => match args, objs with
 | [.d (.sl (.pair (.int .i64) (.sl (.int .u8)))) a, .d (.sl (.pair (.int .i64) (.sl (.int .u8)))) b], [] => if (smallBag a && smallBag b) = true then κ [.d (.int .i64) (cmpGo a b)] [] else none
 | _, _ => none⟩
def s_bsame : Den.Sum := ⟨[.dat (.sl (.pair tQi (.sl (.int .u8)))) false, .dat (.sl (.pair tQi (.sl (.int .u8)))) false], fun args objs κ => match args, objs with
 | [.d (.sl (.pair (.int .i64) (.sl (.int .u8)))) a, .d (.sl (.pair (.int .i64) (.sl (.int .u8)))) b], [] => if (smallBag a && smallBag b) = true then κ [.d .bool (cmpGo a b == 0)] [] else none
 | _, _ => none⟩
def s_alike8 : Den.Sum := ⟨[.dat tQr true, .dat tQr true], fun args objs κ => match args, objs with
 | [.agg [.d (.int .i64) rid, .d (.int .i64) rinc, .d (.int .i64) rst, .d (.int .i64) rlo, .d (.int .i64) rhi, .d .bool rcut, .d (.sl (.pair (.int .i64) (.sl (.int .u8)))) rbag], .agg [.d (.int .i64) sid, .d (.int .i64) sinc, .d (.int .i64) sst, .d (.int .i64) slo, .d (.int .i64) shi, .d .bool scut, .d (.sl (.pair (.int .i64) (.sl (.int .u8)))) sbag]], [] => if (smallBag rbag && smallBag sbag) = true then κ [.d .bool (alike8 (rid, rinc, rst, (rlo, rhi), rcut, rbag) (sid, sinc, sst, (slo, shi), scut, sbag))] [] else none
 | _, _ => none⟩
def s_allal : Den.Sum := ⟨[.dat (.sl tQr) false, .dat (.sl tQr) false], fun args objs κ => match args, objs with
 | [.d (.sl (.pair (.int .i64) (.pair (.int .i64) (.pair (.int .i64) (.pair (.pair (.int .i64) (.int .i64)) (.pair .bool (.sl (.pair (.int .i64) (.sl (.int .u8)))))))))) l, .d (.sl (.pair (.int .i64) (.pair (.int .i64) (.pair (.int .i64) (.pair (.pair (.int .i64) (.int .i64)) (.pair .bool (.sl (.pair (.int .i64) (.sl (.int .u8)))))))))) m], [] => if (smallRecs l && smallRecs m) = true then κ [.d .bool (allGo l m)] [] else none
 | _, _ => none⟩
def s_alike10 : Den.Sum := ⟨[.dat (.pair tQi (.pair tQi (.pair tQi (.pair (.pair tQi tQi) (.pair tQi (.pair tQi (.pair tQi (.pair tQi (.pair tQi (.sl tQr)))))))))) true, .dat (.pair tQi (.pair tQi (.pair tQi (.pair (.pair tQi tQi) (.pair tQi (.pair tQi (.pair tQi (.pair tQi (.pair tQi (.sl tQr)))))))))) true], fun args objs κ => match args, objs with
 | [.agg [.d (.int .i64) mkind, .d (.int .i64) mfrom0, .d (.int .i64) minc, .d (.int .i64) mlo, .d (.int .i64) mhi, .d (.int .i64) mseq, .d (.int .i64) mtarget, .d (.int .i64) mlife, .d (.int .i64) mepoch, .d (.int .i64) mbase, .d (.sl (.pair (.int .i64) (.pair (.int .i64) (.pair (.int .i64) (.pair (.pair (.int .i64) (.int .i64)) (.pair .bool (.sl (.pair (.int .i64) (.sl (.int .u8)))))))))) mrecs], .agg [.d (.int .i64) nkind, .d (.int .i64) nfrom0, .d (.int .i64) ninc, .d (.int .i64) nlo, .d (.int .i64) nhi, .d (.int .i64) nseq, .d (.int .i64) ntarget, .d (.int .i64) nlife, .d (.int .i64) nepoch, .d (.int .i64) nbase, .d (.sl (.pair (.int .i64) (.pair (.int .i64) (.pair (.int .i64) (.pair (.pair (.int .i64) (.int .i64)) (.pair .bool (.sl (.pair (.int .i64) (.sl (.int .u8)))))))))) nrecs]], [] => if (smallRecs mrecs && smallRecs nrecs) = true then κ [.d .bool (mkind == nkind && (mfrom0 == nfrom0 && (minc == ninc && (mlo == nlo && (mhi == nhi && (mseq == nseq && (mtarget == ntarget && (mlife == nlife && (mepoch == nepoch && (mbase == nbase && allGo mrecs nrecs))))))))))] [] else none
 | _, _ => none⟩
def IsNaN_E : Env := ⟨th, gam [], fun i => ⟨[], [], []⟩⟩
def IsNaN.k (rs : List AV) (os : List Den.Obj) : Option Bool :=
 match rs, os with
 | [.d .bool r0], [] => some r0
 | _, _ => none
def IsNaN.b (x : Int) : Option Bool :=
 some ((x != x))
def IsNaN.f (fuel : Nat) (x : Int) : Option Bool := IsNaN.b x
theorem IsNaN.eq (fuel : Nat) (x : Int) : (denF IsNaN_E loopN fuel Tryz.f140 [.raw] [.d (.int .u8) x] [] IsNaN.k) = IsNaN.f fuel x := by
 kernel_rfl
def CmpB_E : Env := ⟨th, gam [(140, s_isnan)], fun i => ⟨[], [], []⟩⟩
def CmpB.k (rs : List AV) (os : List Den.Obj) : Option Int :=
 match rs, os with
 | [.d (.int .i64) r0], [] => some r0
 | _, _ => none
def CmpB.b (x y : Int) : Option Int :=
 (if (decide (x < y)) then some ((-(1 : Int))) else (if (decide (x > y)) then some ((1 : Int)) else some ((0 : Int))))
def CmpB.f (fuel : Nat) (x y : Int) : Option Int := CmpB.b x y
theorem CmpB.eq (fuel : Nat) (x y : Int) : (denF CmpB_E loopN fuel Tryz.f138 [.raw] [.d (.int .u8) x, .d (.int .u8) y] [] CmpB.k) = CmpB.f fuel x y := by
 kernel_rfl
def SlCmp_E : Env := ⟨th, gam [(138, s_cmpb)], fun i => if i = 2 then ⟨[0, 1, 9, 10, 11], [], []⟩ else ⟨[], [], []⟩⟩
def SlCmp.k (rs : List AV) (os : List Den.Obj) : Option Int :=
 match rs, os with
 | [.d (.int .i64) r0], [] => some r0
 | _, _ => none
def SlCmp.s2 (l m : List Int) (x0 x1 : Int) : St := ⟨[.d (.sl (.int .u8)) (l), .d (.sl (.int .u8)) (m), dD, dD, dD, dD, dD, dD, dD, .d (.sl (.int .u8)) (l), .d tQi x0, .d tQi x1, dD, dD, dD, dD, dD, dD, dD, dD, dD, dD, dD, dD, dD, dD, dD, dD, dD, dD, dD, dD, dD, dD, dD, .dead], ofL [], 0⟩
def SlCmp.p2 (fuel : Nat) (l m : List Int) (k : Nat) := fun x0 x1 => lp SlCmp_E fuel Tryz.f136 [.raw] 0 SlCmp.k 2 [] k (SlCmp.s2 l m x0 x1)
def SlCmp.b2 (l m : List Int) (A2 : Int → Int → Option Int) (x0 x1 : Int) : Option Int :=
 (if (decide (x1 < x0)) then (match (idx l x1) with | none => none | some y2 => (if (decide (x1 ≥ ((((List.length m)) : Nat) : Int))) then some ((1 : Int)) else (match (idx m x1) with | none => none | some y3 => (if ((if (decide (y2 < y3)) then (-1) else (if (decide (y2 > y3)) then 1 else 0)) != (0 : Int)) then some ((if (decide (y2 < y3)) then (-1) else (if (decide (y2 > y3)) then 1 else 0))) else A2 x0 (IntKind.wrap .i64 (x1 + (1 : Int))))))) else (if (decide (((((List.length l)) : Nat) : Int) < ((((List.length m)) : Nat) : Int))) then some ((-(1 : Int))) else some ((0 : Int))))
def SlCmp.l2 (fuel : Nat) (l m : List Int) : Nat → Int → Int → Option Int
 | 0, _, _ => none
 | k + 1, x0, x1 => SlCmp.b2 l m (SlCmp.l2 fuel l m k) x0 x1
def SlCmp.b (l m : List Int) (E2 : Int → Int → Option Int) : Option Int :=
 E2 ((((List.length l)) : Nat) : Int) (0 : Int)
def SlCmp.f (fuel : Nat) (l m : List Int) : Option Int := SlCmp.b l m (SlCmp.l2 fuel l m fuel)
theorem SlCmp.l2_eq (fuel : Nat) (l m : List Int) : ∀ k : Nat, SlCmp.p2 fuel l m k = SlCmp.l2 fuel l m k
 | 0 => by kernel_rfl
 | k + 1 => by
  refine Eq.trans (b := SlCmp.b2 l m (SlCmp.p2 fuel l m k)) (by kernel_rfl) ?_
  rw [SlCmp.l2_eq fuel l m k]
  kernel_rfl
theorem SlCmp.eq (fuel : Nat) (l m : List Int) : (denF SlCmp_E loopN fuel Tryz.f136 [.raw] [.d (.sl (.int .u8)) l, .d (.sl (.int .u8)) m] [] SlCmp.k) = SlCmp.f fuel l m := by
 refine Eq.trans (b := SlCmp.b l m (SlCmp.p2 fuel l m fuel)) (by kernel_rfl) ?_
 rw [SlCmp.l2_eq fuel l m fuel]
 kernel_rfl
def BSign_E : Env := ⟨th, gam [(136, s_slcmp)], fun i => ⟨[], [], []⟩⟩
def BSign.k (rs : List AV) (os : List Den.Obj) : Option Int :=
 match rs, os with
 | [.d (.int .i64) r0], [] => some r0
 | _, _ => none
def BSign.b (t1 : Int) (d1 : List Int) (t2 : Int) (d2 : List Int) : Option Int :=
 (if (t1 != t2) then (if (decide (t1 < t2)) then some ((-(1 : Int))) else some ((1 : Int))) else (if ((small d1) && (small d2)) then some ((lexB d1 d2)) else none))
def BSign.f (fuel : Nat) (t1 : Int) (d1 : List Int) (t2 : Int) (d2 : List Int) : Option Int := BSign.b t1 d1 t2 d2
theorem BSign.eq (fuel : Nat) (t1 : Int) (d1 : List Int) (t2 : Int) (d2 : List Int) : (denF BSign_E loopN fuel Tryz.f127 [.raw] [.agg [.d tQi t1, .d (.sl (.int .u8)) d1], .agg [.d tQi t2, .d (.sl (.int .u8)) d2]] [] BSign.k) = BSign.f fuel t1 d1 t2 d2 := by
 kernel_rfl
def BCmp_E : Env := ⟨th, gam [(127, s_sign)], fun i => if i = 2 then ⟨[0, 1, 5], [], []⟩ else ⟨[], [], []⟩⟩
def BCmp.k (rs : List AV) (os : List Den.Obj) : Option Int :=
 match rs, os with
 | [.d (.int .i64) r0], [] => some r0
 | _, _ => none
def BCmp.s2 (a b : LF) (x0 : Int) : St := ⟨[.d (.sl (.pair tQi (.sl (.int .u8)))) (a), .d (.sl (.pair tQi (.sl (.int .u8)))) (b), dD, dD, dD, .d tQi x0, dD, dD, dD, dD, dD, dD, dD, dD, dD, dD, dD, dD, dD, dD, dD, dD, dD, dD, dD, dD, dD, dD, dD, dD, dD, dD, dD, dD, dD, dD, dD, dD, dD, dD, dD, dD, .dead], ofL [], 0⟩
def BCmp.p2 (fuel : Nat) (a b : LF) (k : Nat) := fun x0 => lp BCmp_E fuel Tryz.f108 [.raw] 0 BCmp.k 2 [] k (BCmp.s2 a b x0)
def BCmp.b2 (a b : LF) (A2 : Int → Option Int) (x0 : Int) : Option Int :=
 (if (decide (x0 < ((((List.length a)) : Nat) : Int))) then (if (decide (x0 < ((((List.length b)) : Nat) : Int))) then (match (idx a x0) with | none => none | some y1 => (match (idx b x0) with | none => none | some y2 => (if ((small y1.2) && (small y2.2)) then (if ((signF y1.1 y1.2 y2.1 y2.2) != (0 : Int)) then some ((signF y1.1 y1.2 y2.1 y2.2)) else A2 (IntKind.wrap .i64 (x0 + (1 : Int)))) else none))) else (if (decide (((((List.length a)) : Nat) : Int) < ((((List.length b)) : Nat) : Int))) then some ((-(1 : Int))) else (if (decide (((((List.length a)) : Nat) : Int) > ((((List.length b)) : Nat) : Int))) then some ((1 : Int)) else some ((0 : Int))))) else (if (decide (((((List.length a)) : Nat) : Int) < ((((List.length b)) : Nat) : Int))) then some ((-(1 : Int))) else (if (decide (((((List.length a)) : Nat) : Int) > ((((List.length b)) : Nat) : Int))) then some ((1 : Int)) else some ((0 : Int)))))
def BCmp.l2 (fuel : Nat) (a b : LF) : Nat → Int → Option Int
 | 0, _ => none
 | k + 1, x0 => BCmp.b2 a b (BCmp.l2 fuel a b k) x0
def BCmp.b (a b : LF) (E2 : Int → Option Int) : Option Int :=
 E2 (0 : Int)
def BCmp.f (fuel : Nat) (a b : LF) : Option Int := BCmp.b a b (BCmp.l2 fuel a b fuel)
theorem BCmp.l2_eq (fuel : Nat) (a b : LF) : ∀ k : Nat, BCmp.p2 fuel a b k = BCmp.l2 fuel a b k
 | 0 => by kernel_rfl
 | k + 1 => by
  refine Eq.trans (b := BCmp.b2 a b (BCmp.p2 fuel a b k)) (by kernel_rfl) ?_
  rw [BCmp.l2_eq fuel a b k]
  kernel_rfl
theorem BCmp.eq (fuel : Nat) (a b : LF) : (denF BCmp_E loopN fuel Tryz.f108 [.raw] [.d (.sl (.pair tQi (.sl (.int .u8)))) a, .d (.sl (.pair tQi (.sl (.int .u8)))) b] [] BCmp.k) = BCmp.f fuel a b := by
 refine Eq.trans (b := BCmp.b a b (BCmp.p2 fuel a b fuel)) (by kernel_rfl) ?_
 rw [BCmp.l2_eq fuel a b fuel]
 kernel_rfl
def BSame_E : Env := ⟨th, gam [(108, s_bcmp)], fun i => ⟨[], [], []⟩⟩
def BSame.k (rs : List AV) (os : List Den.Obj) : Option Bool :=
 match rs, os with
 | [.d .bool r0], [] => some r0
 | _, _ => none
def BSame.b (a b : LF) : Option Bool :=
 (if ((smallBag a) && (smallBag b)) then some (((cmpGo a b) == (0 : Int))) else none)
def BSame.f (fuel : Nat) (a b : LF) : Option Bool := BSame.b a b
theorem BSame.eq (fuel : Nat) (a b : LF) : (denF BSame_E loopN fuel Tryz.f75 [.raw] [.d (.sl (.pair tQi (.sl (.int .u8)))) a, .d (.sl (.pair tQi (.sl (.int .u8)))) b] [] BSame.k) = BSame.f fuel a b := by
 kernel_rfl
def Alike8_E : Env := ⟨th, gam [(75, s_bsame)], fun i => ⟨[], [], []⟩⟩
def Alike8.k (rs : List AV) (os : List Den.Obj) : Option Bool :=
 match rs, os with
 | [.d .bool r0], [] => some r0
 | _, _ => none
def Alike8.b (rid rinc rst rlo rhi : Int) (rcut : Bool) (rbag : LF) (sid sinc sst slo shi : Int) (scut : Bool) (sbag : LF) : Option Bool :=
 (if (rid == sid) then (if (rinc == sinc) then (if (rst == sst) then (if (rlo == slo) then (if (rhi == shi) then (if (rcut == scut) then (if ((smallBag rbag) && (smallBag sbag)) then some (((cmpGo rbag sbag) == (0 : Int))) else none) else some (false)) else some (false)) else some (false)) else some (false)) else some (false)) else some (false))
def Alike8.f (fuel : Nat) (rid rinc rst rlo rhi : Int) (rcut : Bool) (rbag : LF) (sid sinc sst slo shi : Int) (scut : Bool) (sbag : LF) : Option Bool := Alike8.b rid rinc rst rlo rhi rcut rbag sid sinc sst slo shi scut sbag
theorem Alike8.eq (fuel : Nat) (rid rinc rst rlo rhi : Int) (rcut : Bool) (rbag : LF) (sid sinc sst slo shi : Int) (scut : Bool) (sbag : LF) : (denF Alike8_E loopN fuel Tryz.f55 [.raw] [.agg [.d tQi rid, .d tQi rinc, .d tQi rst, .d tQi rlo, .d tQi rhi, .d .bool rcut, .d (.sl (.pair tQi (.sl (.int .u8)))) rbag], .agg [.d tQi sid, .d tQi sinc, .d tQi sst, .d tQi slo, .d tQi shi, .d .bool scut, .d (.sl (.pair tQi (.sl (.int .u8)))) sbag]] [] Alike8.k) = Alike8.f fuel rid rinc rst rlo rhi rcut rbag sid sinc sst slo shi scut sbag := by
 kernel_rfl
def AllAl_E : Env := ⟨th, gam [(55, s_alike8)], fun i => if i = 4 then ⟨[0, 1, 5], [], []⟩ else ⟨[], [], []⟩⟩
def AllAl.k (rs : List AV) (os : List Den.Obj) : Option Bool :=
 match rs, os with
 | [.d .bool r0], [] => some r0
 | _, _ => none
def AllAl.s4 (l m : LR) (x0 : Int) : St := ⟨[.d (.sl tQr) (l), .d (.sl tQr) (m), dD, dD, dD, .d tQi x0, dD, dD, dD, dD, dD, dD, dD, dD, dD, dD, dD, dD, dD, dD, dD, dD, dD, dD, dD, dD, .dead], ofL [], 0⟩
def AllAl.p4 (fuel : Nat) (l m : LR) (k : Nat) := fun x0 => lp AllAl_E fuel Tryz.f34 [.raw] 0 AllAl.k 4 [] k (AllAl.s4 l m x0)
def AllAl.b4 (l m : LR) (A4 : Int → Option Bool) (x0 : Int) : Option Bool :=
 (if (decide (x0 < ((((List.length l)) : Nat) : Int))) then (match (idx l x0) with | none => none | some y1 => (match (idx m x0) with | none => none | some y2 => (if ((smallBag y1.2.2.2.2.2) && (smallBag y2.2.2.2.2.2)) then (if (!(alike8 (y1.1, (y1.2.1, (y1.2.2.1, ((y1.2.2.2.1.1, y1.2.2.2.1.2), (y1.2.2.2.2.1, y1.2.2.2.2.2))))) (y2.1, (y2.2.1, (y2.2.2.1, ((y2.2.2.2.1.1, y2.2.2.2.1.2), (y2.2.2.2.2.1, y2.2.2.2.2.2))))))) then some (false) else A4 (IntKind.wrap .i64 (x0 + (1 : Int)))) else none))) else some (true))
def AllAl.l4 (fuel : Nat) (l m : LR) : Nat → Int → Option Bool
 | 0, _ => none
 | k + 1, x0 => AllAl.b4 l m (AllAl.l4 fuel l m k) x0
def AllAl.b (l m : LR) (E4 : Int → Option Bool) : Option Bool :=
 (if (((((List.length l)) : Nat) : Int) != ((((List.length m)) : Nat) : Int)) then some (false) else E4 (0 : Int))
def AllAl.f (fuel : Nat) (l m : LR) : Option Bool := AllAl.b l m (AllAl.l4 fuel l m fuel)
theorem AllAl.l4_eq (fuel : Nat) (l m : LR) : ∀ k : Nat, AllAl.p4 fuel l m k = AllAl.l4 fuel l m k
 | 0 => by kernel_rfl
 | k + 1 => by
  refine Eq.trans (b := AllAl.b4 l m (AllAl.p4 fuel l m k)) (by kernel_rfl) ?_
  rw [AllAl.l4_eq fuel l m k]
  kernel_rfl
theorem AllAl.eq (fuel : Nat) (l m : LR) : (denF AllAl_E loopN fuel Tryz.f34 [.raw] [.d (.sl tQr) l, .d (.sl tQr) m] [] AllAl.k) = AllAl.f fuel l m := by
 refine Eq.trans (b := AllAl.b l m (AllAl.p4 fuel l m fuel)) (by kernel_rfl) ?_
 rw [AllAl.l4_eq fuel l m fuel]
 kernel_rfl
def Alike10_E : Env := ⟨th, gam [(34, s_allal)], fun i => ⟨[], [], []⟩⟩
def Alike10.k (rs : List AV) (os : List Den.Obj) : Option Bool :=
 match rs, os with
 | [.d .bool r0], [] => some r0
 | _, _ => none
def Alike10.b (mkind mfrom0 minc mlo mhi mseq mtarget mlife mepoch mbase : Int) (mrecs : LR) (nkind nfrom0 ninc nlo nhi nseq ntarget nlife nepoch nbase : Int) (nrecs : LR) : Option Bool :=
 (if (mkind != nkind) then some (false) else (if (mfrom0 != nfrom0) then some (false) else (if (minc != ninc) then some (false) else (if (mlo != nlo) then some (false) else (if (mhi != nhi) then some (false) else (if (mseq != nseq) then some (false) else (if (mtarget != ntarget) then some (false) else (if (mlife == nlife) then (if (mepoch == nepoch) then (if (mbase == nbase) then (if ((smallRecs mrecs) && (smallRecs nrecs)) then some ((allGo mrecs nrecs)) else none) else some (false)) else some (false)) else some (false)))))))))
def Alike10.f (fuel : Nat) (mkind mfrom0 minc mlo mhi mseq mtarget mlife mepoch mbase : Int) (mrecs : LR) (nkind nfrom0 ninc nlo nhi nseq ntarget nlife nepoch nbase : Int) (nrecs : LR) : Option Bool := Alike10.b mkind mfrom0 minc mlo mhi mseq mtarget mlife mepoch mbase mrecs nkind nfrom0 ninc nlo nhi nseq ntarget nlife nepoch nbase nrecs
theorem Alike10.eq (fuel : Nat) (mkind mfrom0 minc mlo mhi mseq mtarget mlife mepoch mbase : Int) (mrecs : LR) (nkind nfrom0 ninc nlo nhi nseq ntarget nlife nepoch nbase : Int) (nrecs : LR) : (denF Alike10_E loopN fuel Tryz.f15 [.raw] [.agg [.d tQi mkind, .d tQi mfrom0, .d tQi minc, .d tQi mlo, .d tQi mhi, .d tQi mseq, .d tQi mtarget, .d tQi mlife, .d tQi mepoch, .d tQi mbase, .d (.sl tQr) mrecs], .agg [.d tQi nkind, .d tQi nfrom0, .d tQi ninc, .d tQi nlo, .d tQi nhi, .d tQi nseq, .d tQi ntarget, .d tQi nlife, .d tQi nepoch, .d tQi nbase, .d (.sl tQr) nrecs]] [] Alike10.k) = Alike10.f fuel mkind mfrom0 minc mlo mhi mseq mtarget mlife mepoch mbase mrecs nkind nfrom0 ninc nlo nhi nseq ntarget nlife nepoch nbase nrecs := by
 kernel_rfl
theorem small_iff (l : List Int) : small l = true ↔ l.length < 281474976710656 := by unfold small; simp
theorem IsNaN.pure (x : Int) : IsNaN.f 0 x = some false := by
 unfold IsNaN.f IsNaN.b
 simp
theorem CmpB.pure (x y : Int) : CmpB.f 0 x y = some (if decide (x < y) then -1 else if decide (x > y) then 1 else 0) := by
 unfold CmpB.f CmpB.b
 split
 ·rfl
 ·split <;> rfl
theorem SlCmp.loop (fuel : Nat) (l m : List Int) (h1 : l.length < 281474976710656) : ∀ (k i : Nat), i ≤ l.length → i ≤ m.length → l.length - i < k → SlCmp.l2 fuel l m k (l.length : Int) (i : Int) = some (lexB (l.drop i) (m.drop i)) := by
 intro k
 induction k with
 | zero => intro i a b c; omega
 | succ k ih =>
  intro i a b c
  rw [SlCmp.l2]
  unfold SlCmp.b2
  by_cases hi : i < l.length
  ·rw [if_pos (by simp; omega), idx_at, List.getElem?_eq_getElem hi, List.drop_eq_getElem_cons hi]
   dsimp only
   by_cases hm : i < m.length
   ·rw [if_neg (by simp; omega), idx_at, List.getElem?_eq_getElem hm, List.drop_eq_getElem_cons hm]
    dsimp only
    unfold lexB
    by_cases c1 : l[i] < m[i]
    ·simp [c1]
    ·by_cases c2 : l[i] > m[i]
     ·simp [c1, c2]
     ·simp only [c1, c2, decide_false, Bool.false_eq_true, if_false, bne_self_eq_false]
      rw [wrap_small _ (by omega) (by omega)]
      exact ih (i + 1) (by omega) (by omega) (by omega)
   ·rw [if_pos (by simp; omega), List.drop_of_length_le (by omega : m.length ≤ i)]
    rfl
  ·rw [if_neg (by simp; omega), List.drop_of_length_le (by omega : l.length ≤ i)]
   by_cases hm : i < m.length
   ·rw [if_pos (by simp; omega), List.drop_eq_getElem_cons hm]
    rfl
   ·rw [if_neg (by simp; omega), List.drop_of_length_le (by omega : m.length ≤ i)]
    rfl
theorem SlCmp.pure (l m : List Int) (hl : (small l && small m) = true) : SlCmp.f (l.length + 1) l m = some (lexB l m) := by
 rw [Bool.and_eq_true, small_iff, small_iff] at hl
 unfold SlCmp.f SlCmp.b
 exact SlCmp.loop _ l m hl.1 _ 0 (by omega) (by omega) (by omega)
theorem BSign.pure (t1 : Int) (d1 : List Int) (t2 : Int) (d2 : List Int) (hl : (small d1 && small d2) = true) : BSign.f 0 t1 d1 t2 d2 = some (signF t1 d1 t2 d2) := by
 unfold BSign.f BSign.b signF
 rw [hl]
 split
 ·split <;> rfl
 ·rfl
theorem small_of {b : LF} (h : smallBag b = true) (i : Nat) (hi : i < b.length) : small b[i].2 = true := (small_iff _).2 (((smallBag_iff b).1 h).2 _ (List.getElem_mem hi))
theorem BCmp.loop (fuel : Nat) (a b : LF) (ha : smallBag a = true) (hb : smallBag b = true) : ∀ (k i : Nat), i ≤ a.length → i ≤ b.length → a.length - i < k → BCmp.l2 fuel a b k (i : Int) = some (cmpGo (a.drop i) (b.drop i)) := by
 have hla := ((smallBag_iff a).1 ha).1
 intro k
 induction k with
 | zero => intro i h1 h2 h3; omega
 | succ k ih =>
  intro i h1 h2 h3
  rw [BCmp.l2]
  unfold BCmp.b2
  by_cases hi : i < a.length
  ·rw [if_pos (by simp; omega)]
   by_cases hm : i < b.length
   ·rw [if_pos (by simp; omega), idx_at, List.getElem?_eq_getElem hi, idx_at, List.getElem?_eq_getElem hm, List.drop_eq_getElem_cons hi, List.drop_eq_getElem_cons hm]
    dsimp only
    rw [small_of ha i hi, small_of hb i hm, Bool.and_self, if_pos rfl, wrap_small _ (by omega) (by omega)]
    unfold cmpGo
    split
    ·rfl
    ·exact ih (i + 1) (by omega) (by omega) (by omega)
   ·rw [if_neg (by simp; omega), List.drop_eq_getElem_cons hi, List.drop_of_length_le (by omega : b.length ≤ i), if_neg (by simp; omega), if_pos (by simp; omega)]
    rfl
  ·rw [if_neg (by simp; omega), List.drop_of_length_le (by omega : a.length ≤ i)]
   by_cases hm : i < b.length
   ·rw [if_pos (by simp; omega), List.drop_eq_getElem_cons hm]
    rfl
   ·rw [if_neg (by simp; omega), if_neg (by simp; omega), List.drop_of_length_le (by omega : b.length ≤ i)]
    rfl
theorem BCmp.pure (a b : LF) (hl : (smallBag a && smallBag b) = true) : BCmp.f (a.length + 1) a b = some (cmpGo a b) := by
 rw [Bool.and_eq_true] at hl
 unfold BCmp.f BCmp.b
 exact BCmp.loop _ a b hl.1 hl.2 _ 0 (by omega) (by omega) (by omega)
theorem BSame.pure (a b : LF) (hl : (smallBag a && smallBag b) = true) : BSame.f 0 a b = some (cmpGo a b == 0) := by
 unfold BSame.f BSame.b
 rw [hl]; rfl
theorem Alike8.pure (rid rinc rst rlo rhi : Int) (rcut : Bool) (rbag : LF) (sid sinc sst slo shi : Int) (scut : Bool) (sbag : LF) (hl : (smallBag rbag && smallBag sbag) = true) :
  Alike8.f 0 rid rinc rst rlo rhi rcut rbag sid sinc sst slo shi scut sbag = some (alike8 (rid, rinc, rst, (rlo, rhi), rcut, rbag) (sid, sinc, sst, (slo, shi), scut, sbag)) := by
 unfold Alike8.f Alike8.b alike8
 rw [hl]
 dsimp only
 cases (rid == sid)
 ·rfl
 cases (rinc == sinc)
 ·rfl
 cases (rst == sst)
 ·rfl
 cases (rlo == slo)
 ·rfl
 cases (rhi == shi)
 ·rfl
 cases (rcut == scut) <;> rfl
theorem AllAl.loop (fuel : Nat) (l m : LR) (hl : smallRecs l = true) (hm : smallRecs m = true) (he : l.length = m.length) : ∀ (k i : Nat), i ≤ l.length → l.length - i < k → AllAl.l4 fuel l m k (i : Int) = some (allGo (l.drop i) (m.drop i)) := by
 obtain ⟨h1, h2⟩ := (smallRecs_iff l).1 hl
 obtain ⟨h3, h4⟩ := (smallRecs_iff m).1 hm
 intro k
 induction k with
 | zero => intro i a b; omega
 | succ k ih =>
  intro i a b
  rw [AllAl.l4]
  unfold AllAl.b4
  by_cases hi : i < l.length
  ·rw [if_pos (by simp; omega), idx_at, List.getElem?_eq_getElem hi, idx_at, List.getElem?_eq_getElem (by omega), List.drop_eq_getElem_cons hi, List.drop_eq_getElem_cons (by omega : i < m.length)]
   dsimp only
   rw [h2 l[i] (List.getElem_mem hi), h4 m[i] (List.getElem_mem (by omega)), Bool.and_self, if_pos rfl, wrap_small _ (by omega) (by omega)]
   unfold allGo
   cases alike8 l[i] m[i]
   ·rfl
   ·exact ih (i + 1) (by omega) (by omega)
  ·rw [if_neg (by simp; omega), List.drop_of_length_le (by omega : l.length ≤ i), List.drop_of_length_le (by omega : m.length ≤ i)]
   rfl
theorem allGo_len : ∀ (l m : LR), l.length ≠ m.length → allGo l m = false
 | [], [], h => absurd rfl h
 | [], _ :: _, _ => rfl
 | _ :: _, [], _ => rfl
 | a :: l, b :: m, h => by
  unfold allGo
  rw [allGo_len l m (fun e => h (by simp [e])), Bool.and_false]
theorem AllAl.pure (l m : LR) (hl : (smallRecs l && smallRecs m) = true) : AllAl.f (l.length + 1) l m = some (allGo l m) := by
 rw [Bool.and_eq_true] at hl
 unfold AllAl.f AllAl.b
 by_cases h : l.length = m.length
 ·rw [if_neg (by simp; omega)]
  exact AllAl.loop _ l m hl.1 hl.2 h _ 0 (by omega) (by omega)
 ·rw [if_pos (by simp; omega), allGo_len l m h]
theorem Alike10.pure (mkind mfrom0 minc mlo mhi mseq mtarget mlife mepoch mbase : Int) (mrecs : LR) (nkind nfrom0 ninc nlo nhi nseq ntarget nlife nepoch nbase : Int) (nrecs : LR) (hl : (smallRecs mrecs && smallRecs nrecs) = true) :
  Alike10.f 0 mkind mfrom0 minc mlo mhi mseq mtarget mlife mepoch mbase mrecs nkind nfrom0 ninc nlo nhi nseq ntarget nlife nepoch nbase nrecs = some (mkind == nkind && (mfrom0 == nfrom0 && (minc == ninc && (mlo == nlo && (mhi == nhi && (mseq == nseq && (mtarget == ntarget && (mlife == nlife && (mepoch == nepoch && (mbase == nbase && allGo mrecs nrecs)))))))))) := by
 unfold Alike10.f Alike10.b
 rw [hl]
 by_cases a1 : mkind = nkind
 case neg => simp [a1]
 by_cases a2 : mfrom0 = nfrom0
 case neg => simp [a1, a2]
 by_cases a3 : minc = ninc
 case neg => simp [a1, a2, a3]
 by_cases a4 : mlo = nlo
 case neg => simp [a1, a2, a3, a4]
 by_cases a5 : mhi = nhi
 case neg => simp [a1, a2, a3, a4, a5]
 by_cases a6 : mseq = nseq
 case neg => simp [a1, a2, a3, a4, a5, a6]
 by_cases a7 : mtarget = ntarget
 case neg => simp [a1, a2, a3, a4, a5, a6, a7]
 by_cases a8 : mlife = nlife
 case neg => simp [a1, a2, a3, a4, a5, a6, a7, a8]
 by_cases a9 : mepoch = nepoch
 case neg => simp [a1, a2, a3, a4, a5, a6, a7, a8, a9]
 by_cases a10 : mbase = nbase <;> simp [a1, a2, a3, a4, a5, a6, a7, a8, a9, a10]
theorem lexB_self : ∀ (l : List Int), lexB l l = 0
 | [] => rfl
 | x :: l => by
  unfold lexB
  simp [lexB_self l]
theorem cmpGo_self : ∀ (l : LF), cmpGo l l = 0
 | [] => rfl
 | x :: l => by
  unfold cmpGo
  have : signF x.1 x.2 x.1 x.2 = 0 := by unfold signF; simp [lexB_self]
  rw [this]
  simp [cmpGo_self l]
theorem allGo_self : ∀ (l : LR), allGo l l = true
 | [] => rfl
 | a :: l => by
  unfold allGo alike8
  simp [cmpGo_self, allGo_self l]
theorem s_isnan_det : SumDet s_isnan := sdet fun _ _ _ _ => by
 unfold s_isnan
 simp only
 split
 ·first | rfl | (split <;> rfl)
 ·rfl
theorem s_isnan_ok : SumOk Tryz.prog 140 s_isnan := by
 have hE : EnvOk Tryz.prog IsNaN_E := env_ok (l := []) th_ok any_ok trivial _
 refine sum_ok hE Tryz.func140 rfl (by kernel_rfl) s_isnan [.raw] IsNaN.k ?_
 intro R avs objs κ r h
 unfold s_isnan at h
 simp only at h
 split at h
 ·rename_i x
  refine ⟨0, _, _, _, (IsNaN.eq (0) x).trans (IsNaN.pure x), ?_, h⟩
  intro rs ros hk
  unfold IsNaN.k at hk
  split at hk
  ·first | (cases hk; exact ⟨rfl, rfl⟩) | (rw [← Option.some.inj hk]; exact ⟨rfl, rfl⟩)
  ·cases hk
 ·cases h
theorem s_cmpb_det : SumDet s_cmpb := sdet fun _ _ _ _ => by
 unfold s_cmpb
 simp only
 split
 ·first | rfl | (split <;> rfl)
 ·rfl
theorem s_cmpb_ok : SumOk Tryz.prog 138 s_cmpb := by
 have hE : EnvOk Tryz.prog CmpB_E := env_ok (l := [(140, s_isnan)]) th_ok any_ok ⟨⟨s_isnan_ok, s_isnan_det⟩, trivial⟩ _
 refine sum_ok hE Tryz.func138 rfl (by kernel_rfl) s_cmpb [.raw] CmpB.k ?_
 intro R avs objs κ r h
 unfold s_cmpb at h
 simp only at h
 split at h
 ·rename_i x y
  refine ⟨0, _, _, _, (CmpB.eq (0) x y).trans (CmpB.pure x y), ?_, h⟩
  intro rs ros hk
  unfold CmpB.k at hk
  split at hk
  ·first | (cases hk; exact ⟨rfl, rfl⟩) | (rw [← Option.some.inj hk]; exact ⟨rfl, rfl⟩)
  ·cases hk
 ·cases h
theorem s_slcmp_det : SumDet s_slcmp := sdet fun _ _ _ _ => by
 unfold s_slcmp
 simp only
 split
 ·first | rfl | (split <;> rfl)
 ·rfl
theorem s_slcmp_ok : SumOk Tryz.prog 136 s_slcmp := by
 have hE : EnvOk Tryz.prog SlCmp_E := env_ok (l := [(138, s_cmpb)]) th_ok any_ok ⟨⟨s_cmpb_ok, s_cmpb_det⟩, trivial⟩ _
 refine sum_ok hE Tryz.func136 rfl (by kernel_rfl) s_slcmp [.raw] SlCmp.k ?_
 intro R avs objs κ r h
 unfold s_slcmp at h
 simp only at h
 split at h
 ·rename_i l m
  split at h
  case isFalse => cases h
  rename_i hl
  refine ⟨l.length + 1, _, _, _, (SlCmp.eq (l.length + 1) l m).trans (SlCmp.pure l m hl), ?_, h⟩
  intro rs ros hk
  unfold SlCmp.k at hk
  split at hk
  ·first | (cases hk; exact ⟨rfl, rfl⟩) | (rw [← Option.some.inj hk]; exact ⟨rfl, rfl⟩)
  ·cases hk
 ·cases h
theorem s_sign_det : SumDet s_sign := sdet fun _ _ _ _ => by
 unfold s_sign
 simp only
 split
 ·first | rfl | (split <;> rfl)
 ·rfl
theorem s_sign_ok : SumOk Tryz.prog 127 s_sign := by
 have hE : EnvOk Tryz.prog BSign_E := env_ok (l := [(136, s_slcmp)]) th_ok any_ok ⟨⟨s_slcmp_ok, s_slcmp_det⟩, trivial⟩ _
 refine sum_ok hE Tryz.func127 rfl (by kernel_rfl) s_sign [.raw] BSign.k ?_
 intro R avs objs κ r h
 unfold s_sign at h
 simp only at h
 split at h
 ·rename_i t1 d1 t2 d2
  split at h
  case isFalse => cases h
  rename_i hl
  refine ⟨0, _, _, _, (BSign.eq (0) t1 d1 t2 d2).trans (BSign.pure t1 d1 t2 d2 hl), ?_, h⟩
  intro rs ros hk
  unfold BSign.k at hk
  split at hk
  ·first | (cases hk; exact ⟨rfl, rfl⟩) | (rw [← Option.some.inj hk]; exact ⟨rfl, rfl⟩)
  ·cases hk
 ·cases h
theorem s_bcmp_det : SumDet s_bcmp := sdet fun _ _ _ _ => by
 unfold s_bcmp
 simp only
 split
 ·first | rfl | (split <;> rfl)
 ·rfl
theorem s_bcmp_ok : SumOk Tryz.prog 108 s_bcmp := by
 have hE : EnvOk Tryz.prog BCmp_E := env_ok (l := [(127, s_sign)]) th_ok any_ok ⟨⟨s_sign_ok, s_sign_det⟩, trivial⟩ _
 refine sum_ok hE Tryz.func108 rfl (by kernel_rfl) s_bcmp [.raw] BCmp.k ?_
 intro R avs objs κ r h
 unfold s_bcmp at h
 simp only at h
 split at h
 ·rename_i a b
  split at h
  case isFalse => cases h
  rename_i hl
  refine ⟨a.length + 1, _, _, _, (BCmp.eq (a.length + 1) a b).trans (BCmp.pure a b hl), ?_, h⟩
  intro rs ros hk
  unfold BCmp.k at hk
  split at hk
  ·first | (cases hk; exact ⟨rfl, rfl⟩) | (rw [← Option.some.inj hk]; exact ⟨rfl, rfl⟩)
  ·cases hk
 ·cases h
theorem s_bsame_det : SumDet s_bsame := sdet fun _ _ _ _ => by
 unfold s_bsame
 simp only
 split
 ·first | rfl | (split <;> rfl)
 ·rfl
theorem s_bsame_ok : SumOk Tryz.prog 75 s_bsame := by
 have hE : EnvOk Tryz.prog BSame_E := env_ok (l := [(108, s_bcmp)]) th_ok any_ok ⟨⟨s_bcmp_ok, s_bcmp_det⟩, trivial⟩ _
 refine sum_ok hE Tryz.func75 rfl (by kernel_rfl) s_bsame [.raw] BSame.k ?_
 intro R avs objs κ r h
 unfold s_bsame at h
 simp only at h
 split at h
 ·rename_i a b
  split at h
  case isFalse => cases h
  rename_i hl
  refine ⟨0, _, _, _, (BSame.eq (0) a b).trans (BSame.pure a b hl), ?_, h⟩
  intro rs ros hk
  unfold BSame.k at hk
  split at hk
  ·first | (cases hk; exact ⟨rfl, rfl⟩) | (rw [← Option.some.inj hk]; exact ⟨rfl, rfl⟩)
  ·cases hk
 ·cases h
theorem s_alike8_det : SumDet s_alike8 := sdet fun _ _ _ _ => by
 unfold s_alike8
 simp only
 split
 ·first | rfl | (split <;> rfl)
 ·rfl
theorem s_alike8_ok : SumOk Tryz.prog 55 s_alike8 := by
 have hE : EnvOk Tryz.prog Alike8_E := env_ok (l := [(75, s_bsame)]) th_ok any_ok ⟨⟨s_bsame_ok, s_bsame_det⟩, trivial⟩ _
 refine sum_ok hE Tryz.func55 rfl (by kernel_rfl) s_alike8 [.raw] Alike8.k ?_
 intro R avs objs κ r h
 unfold s_alike8 at h
 simp only at h
 split at h
 ·rename_i rid rinc rst rlo rhi rcut rbag sid sinc sst slo shi scut sbag
  split at h
  case isFalse => cases h
  rename_i hl
  refine ⟨0, _, _, _, (Alike8.eq (0) rid rinc rst rlo rhi rcut rbag sid sinc sst slo shi scut sbag).trans (Alike8.pure rid rinc rst rlo rhi rcut rbag sid sinc sst slo shi scut sbag hl), ?_, h⟩
  intro rs ros hk
  unfold Alike8.k at hk
  split at hk
  ·first | (cases hk; exact ⟨rfl, rfl⟩) | (rw [← Option.some.inj hk]; exact ⟨rfl, rfl⟩)
  ·cases hk
 ·cases h
theorem s_allal_det : SumDet s_allal := sdet fun _ _ _ _ => by
 unfold s_allal
 simp only
 split
 ·first | rfl | (split <;> rfl)
 ·rfl
theorem s_allal_ok : SumOk Tryz.prog 34 s_allal := by
 have hE : EnvOk Tryz.prog AllAl_E := env_ok (l := [(55, s_alike8)]) th_ok any_ok ⟨⟨s_alike8_ok, s_alike8_det⟩, trivial⟩ _
 refine sum_ok hE Tryz.func34 rfl (by kernel_rfl) s_allal [.raw] AllAl.k ?_
 intro R avs objs κ r h
 unfold s_allal at h
 simp only at h
 split at h
 ·rename_i l m
  split at h
  case isFalse => cases h
  rename_i hl
  refine ⟨l.length + 1, _, _, _, (AllAl.eq (l.length + 1) l m).trans (AllAl.pure l m hl), ?_, h⟩
  intro rs ros hk
  unfold AllAl.k at hk
  split at hk
  ·first | (cases hk; exact ⟨rfl, rfl⟩) | (rw [← Option.some.inj hk]; exact ⟨rfl, rfl⟩)
  ·cases hk
 ·cases h
theorem s_alike10_det : SumDet s_alike10 := sdet fun _ _ _ _ => by
 unfold s_alike10
 simp only
 split
 ·first | rfl | (split <;> rfl)
 ·rfl
theorem s_alike10_ok : SumOk Tryz.prog 15 s_alike10 := by
 have hE : EnvOk Tryz.prog Alike10_E := env_ok (l := [(34, s_allal)]) th_ok any_ok ⟨⟨s_allal_ok, s_allal_det⟩, trivial⟩ _
 refine sum_ok hE Tryz.func15 rfl (by kernel_rfl) s_alike10 [.raw] Alike10.k ?_
 intro R avs objs κ r h
 unfold s_alike10 at h
 simp only at h
 split at h
 ·rename_i mkind mfrom0 minc mlo mhi mseq mtarget mlife mepoch mbase mrecs nkind nfrom0 ninc nlo nhi nseq ntarget nlife nepoch nbase nrecs
  split at h
  case isFalse => cases h
  rename_i hl
  refine ⟨0, _, _, _, (Alike10.eq (0) mkind mfrom0 minc mlo mhi mseq mtarget mlife mepoch mbase mrecs nkind nfrom0 ninc nlo nhi nseq ntarget nlife nepoch nbase nrecs).trans (Alike10.pure mkind mfrom0 minc mlo mhi mseq mtarget mlife mepoch mbase mrecs nkind nfrom0 ninc nlo nhi nseq ntarget nlife nepoch nbase nrecs hl), ?_, h⟩
  intro rs ros hk
  unfold Alike10.k at hk
  split at hk
  ·first | (cases hk; exact ⟨rfl, rfl⟩) | (rw [← Option.some.inj hk]; exact ⟨rfl, rfl⟩)
  ·cases hk
 ·cases h
theorem numB_be : ∀ (n : Nat) (v : Int), 0 ≤ v → v < 256 ^ n → numB (be n v) = v
 | 0, v, h0, h1 => by simp at h1; simp [be, numB]; omega
 | n + 1, v, h0, h1 => by
  have hp : v / 256 < 256 ^ n := by
   rw [Int.pow_succ] at h1
   generalize (256 : Int) ^ n = M at h1 ⊢
   omega
  have ih := numB_be n (v / 256) (by omega) hp
  show numB (be n (v / 256) ++ [v % 256]) = v
  unfold numB at ih ⊢
  rw [List.foldl_append, ih]
  simp
  omega
theorem be_mem : ∀ (n : Nat) (v c : Int), c ∈ be n v → 0 ≤ c ∧ c ≤ 255
 | 0, v, c, h => by simp [be] at h
 | n + 1, v, c, h => by
  have h' : c ∈ be n (v / 256) ++ [v % 256] := h
  rcases List.mem_append.1 h' with h | h
  ·exact be_mem n _ c h
  ·simp at h; omega
theorem read_be (l : List Int) (n a : Int) (v : Int) (rest : List Int) (hl : atOk l a = true) (h1 : 1 ≤ n) (h7 : n ≤ 7) (h0 : 0 ≤ v) (hv : v < 256 ^ n.toNat) (h : l.drop a.toNat = be n.toNat v ++ rest) :
  readF l n a false = (v, a + n, false) ∧ l.drop (a + n).toNat = rest ∧ atOk l (a + n) = true := by
 obtain ⟨k1, k2, k3⟩ := (atOk_iff l a).1 hl
 have hlen : l.length - a.toNat = n.toNat + rest.length := by
  have := congrArg List.length h
  simpa [be_length] using this
 have hn : (if (decide (n < 1) || decide (n > 7)) = true then (-1 : Int) else n) = n := if_neg (by simp; omega)
 have hseg : seg l a n = be n.toNat v := by
  unfold seg
  rw [List.drop_take, show (a + n).toNat = a.toNat + n.toNat from by omega, Nat.add_sub_cancel_left, h]
  exact List.take_left' (be_length _ _)
 refine ⟨?_, ?_, (atOk_iff l _).2 ⟨k1, by omega, by omega⟩⟩
 ·unfold readF
  dsimp only
  rw [hn]
  have hst : stepF l n a false = (seg l a n, true, a + n, false) := by
   unfold stepF
   rw [if_neg (by simp), if_neg (by simp; omega)]
  rw [hst]
  dsimp only
  rw [if_pos rfl, hseg, numB_be _ v h0 hv]
 ·rw [show (a + n).toNat = a.toNat + n.toNat from by omega, ← List.drop_drop, h]
  exact List.drop_left' (be_length _ _)
theorem one_be (l : List Int) (a : Int) (r : Int × Int × Int × (Int × Int) × Bool × LF) (rest : List Int) (hl : atOk l a = true) (hr : recOkT r = true) (hi : r.2.1 ≤ 65535) (hb : r.2.2.2.2.2 = []) (h : l.drop a.toNat = recB r ++ rest) :
  oneF l a false = (r, a + 5, false) ∧ l.drop (a + 5).toNat = rest ∧ atOk l (a + 5) = true := by
 obtain ⟨id, inc, st, ⟨lo, hi'⟩, cut, bag⟩ := r
 obtain ⟨f1, f2, f3, f4, f5, f6, f7, _, _⟩ := recOk_facts hr
 obtain ⟨_, s1, s2⟩ := state_eq hr
 have f8 := (okS_iff _ _).1 f7
 dsimp only at f1 f2 f3 f5 f6 f7 f8 hi hb
 subst hb
 unfold recB at h
 dsimp only at h
 rw [List.append_assoc] at h
 obtain ⟨a1, a2, a3⟩ := read_be l 2 a id _ hl (by omega) (by omega) f1 (by simp; omega) h
 rw [List.append_assoc] at a2
 obtain ⟨b1, b2, b3⟩ := read_be l 2 (a + 2) inc _ a3 (by omega) (by omega) f3 (by simp; omega) a2
 obtain ⟨c1, c2, c3⟩ := read_be l 1 (a + 2 + 2) _ rest b3 (by omega) (by omega) s1 (by simpa using s2) b2
 have e5 : a + 2 + 2 + 1 = a + 5 := by omega
 rw [e5] at c1 c2 c3
 refine ⟨?_, c2, c3⟩
 unfold oneF
 dsimp only
 rw [a1]
 dsimp only
 rw [b1]
 dsimp only
 rw [c1]
 dsimp only
 have hs : stateL (id, inc, st, (lo, hi'), cut, ([] : LF)) = (if cut then st + 4 * lo + 16 * hi' + 64 else st + 4 * lo + 16 * hi') := rfl
 rw [hs]
 cases cut
 ·simp only [Bool.false_eq_true, if_false]
  rw [if_neg (by simp; omega)]
  have e1 : (st + 4 * lo + 16 * hi') % 4 = st := by omega
  have e2 : (st + 4 * lo + 16 * hi') / 4 % 4 = lo := by omega
  have e3 : (st + 4 * lo + 16 * hi') / 16 % 4 = hi' := by omega
  have e4 : ((st + 4 * lo + 16 * hi') / 64 % 2 == 1) = false := by simp; omega
  rw [e1, e2, e3, e4]
 ·simp only [if_true]
  rw [if_neg (by simp; omega)]
  have e1 : (st + 4 * lo + 16 * hi' + 64) % 4 = st := by omega
  have e2 : (st + 4 * lo + 16 * hi' + 64) / 4 % 4 = lo := by omega
  have e3 : (st + 4 * lo + 16 * hi' + 64) / 16 % 4 = hi' := by omega
  have e4 : ((st + 4 * lo + 16 * hi' + 64) / 64 % 2 == 1) = true := by simp; omega
  rw [e1, e2, e3, e4]
theorem dec_be (l : List Int) : ∀ (recs : LR) (a : Int) (rest : List Int), atOk l a = true → (∀ r ∈ recs, recOkT r = true ∧ r.2.1 ≤ 65535 ∧ r.2.2.2.2.2 = []) → l.drop a.toNat = recs.flatMap recB ++ rest →
  ∃ a', decGo l recs.length a false = (recs, a', false) ∧ l.drop a'.toNat = rest ∧ atOk l a' = true
 | [], a, rest, hl, _, h => ⟨a, rfl, by simpa using h, hl⟩
 | r :: recs, a, rest, hl, hr, h => by
  obtain ⟨r1, r2, r3⟩ := hr r (by simp)
  rw [List.flatMap_cons, List.append_assoc] at h
  obtain ⟨o1, o2, o3⟩ := one_be l a r _ hl r1 r2 r3 h
  obtain ⟨a', d1, d2, d3⟩ := dec_be l recs (a + 5) rest o3 (fun x hx => hr x (by simp [hx])) o2
  refine ⟨a', ?_, d2, d3⟩
  rw [List.length_cons, decGo, if_neg (by simp), o1]
  dsimp only
  rw [d1]
theorem of_code {lo hi : Int} (h : okS lo hi = true) : ofGo allF (lo * 16 + hi) = (lo, hi, true) := by
 have := (okS_iff lo hi).1 h
 have h1 : lo = 1 ∨ lo = 2 ∨ lo = 3 := by omega
 have h2 : hi = 1 ∨ hi = 2 ∨ hi = 3 := by omega
 rcases h1 with rfl | rfl | rfl <;> rcases h2 with rfl | rfl | rfl <;> first | omega | rfl
theorem body_bytes (kind from0 inc lo hi seq target : Int) (recs : LR) (hlen : recs.length ≤ 255) : inB (bodyF kind from0 inc lo hi seq target recs) = true := by
 have hm : ∀ (l : LR), (l.flatMap recB).length = 5 * l.length := by
  intro l
  induction l with
  | nil => rfl
  | cons x l ih => rw [List.flatMap_cons, List.length_append, ih, recB_length, List.length_cons]; omega
 refine (inB_iff _).2 ⟨?_, fun c hc => ?_⟩
 ·unfold bodyF headB
  simp only [List.length_append, be_length, hm]
  omega
 ·unfold bodyF headB at hc
  simp only [List.mem_append, List.mem_flatMap] at hc
  rcases hc with (hc | hc | hc | hc | hc | hc | hc) | ⟨r, _, hc⟩
  all_goals first | exact be_mem _ _ c hc | skip
  unfold recB at hc
  simp only [List.mem_append] at hc
  rcases hc with hc | hc | hc <;> exact be_mem _ _ c hc
theorem back (kind from0 inc lo hi seq target : Int) (recs : LR) (h : fits1 kind from0 inc lo hi seq target 0 0 0 recs = true) :
  decF (bodyF kind from0 inc lo hi seq target recs) = (kind, from0, inc, lo, hi, seq, target, recs, 0) := by
 have hf := h
 rw [fits_same] at hf
 obtain ⟨hv, hx⟩ := fits_facts hf
 obtain ⟨v1, v2, v3, v4, v5, v6, v7, v8, v9, v10, v11, _, v12, v13⟩ := valid_facts hv
 have v14 := (okS_iff _ _).1 v7
 have hb := body_bytes kind from0 inc lo hi seq target recs v12
 have h0 : atOk (bodyF kind from0 inc lo hi seq target recs) 0 = true := (atOk_iff _ 0).2 ⟨hb, by omega, by omega⟩
 generalize hl : bodyF kind from0 inc lo hi seq target recs = l at *
 have e0 : l.drop (0 : Int).toNat = be (Int.toNat 1) kind ++ (be 2 from0 ++ (be 6 inc ++ (be 1 (lo * 16 + hi) ++ (be 2 seq ++ (be 2 target ++ (be 1 (recs.length : Int) ++ (recs.flatMap recB ++ []))))))) := by
  rw [← hl]
  simp [bodyF, headB, n1]
 obtain ⟨a1, a2, a3⟩ := read_be l 1 0 kind _ h0 (by omega) (by omega) (by omega) (by simp; omega) e0
 obtain ⟨b1, b2, b3⟩ := read_be l 2 _ from0 _ a3 (by omega) (by omega) v3 (by simp; omega) a2
 obtain ⟨c1, c2, c3⟩ := read_be l 6 _ inc _ b3 (by omega) (by omega) v5 (by simp; omega) b2
 obtain ⟨d1, d2, d3⟩ := read_be l 1 _ (lo * 16 + hi) _ c3 (by omega) (by omega) (by omega) (by simp; omega) c2
 obtain ⟨f1, f2, f3⟩ := read_be l 2 _ seq _ d3 (by omega) (by omega) v8 (by simp; omega) d2
 obtain ⟨g1, g2, g3⟩ := read_be l 2 _ target _ f3 (by omega) (by omega) v10 (by simp; omega) f2
 obtain ⟨i1, i2, i3⟩ := read_be l 1 _ (recs.length : Int) _ g3 (by omega) (by omega) (by omega) (by simp; omega) g2
 obtain ⟨a', j1, j2, j3⟩ := dec_be l recs _ [] i3 (fun r hr => ⟨v13 r hr, hx r hr⟩) i2
 unfold decF
 dsimp only
 rw [a1]
 dsimp only
 rw [b1]
 dsimp only
 rw [c1]
 dsimp only
 rw [d1]
 dsimp only
 rw [f1]
 dsimp only
 rw [g1]
 dsimp only
 rw [i1]
 dsimp only
 rw [Int.toNat_natCast, j1, of_code v7]
 dsimp only
 have hleft : leftF l a' false = 0 := by
  unfold leftF
  have := (atOk_iff l a').1 j3
  have hz := congrArg List.length j2
  simp at hz
  simp
  omega
 unfold endF
 rw [hleft, h]
 rfl
theorem fitsL_zero {kind from0 inc lo hi seq target life epoch base : Int} {recs : LR} (h : fitsL kind from0 inc lo hi seq target life epoch base recs = true) : life = 0 ∧ epoch = 0 ∧ base = 0 := by
 unfold fitsL at h
 split at h
 ·cases h
 ·rename_i hc
  simp only [Bool.or_eq_true, not_or, bne_iff_ne, ne_eq, Decidable.not_not] at hc
  exact ⟨hc.2.2.1, hc.2.2.2.1, hc.2.2.2.2⟩
theorem be1 (v : Int) (h0 : 0 ≤ v) (h1 : v < 256) : be 1 v = [v] := by
 show be 0 (v / 256) ++ [v % 256] = [v]
 rw [show v % 256 = v from by omega]
 rfl
theorem flat_len : ∀ (l : LR), (l.flatMap recB).length = 5 * l.length
 | [] => rfl
 | x :: l => by rw [List.flatMap_cons, List.length_append, flat_len l, recB_length, List.length_cons]; omega
theorem body_len (kind from0 inc lo hi seq target : Int) (recs : LR) : (bodyF kind from0 inc lo hi seq target recs).length = 15 + 5 * recs.length := by
 unfold bodyF headB
 simp only [List.length_append, be_length, flat_len]
def bagLen (b : LF) : Int := ((b.map fun x => 3 + x.2.length).sum : Nat)
def recLen (r : (Int × Int × Int × (Int × Int) × Bool × LF)) : Int := 23 + bagLen r.2.2.2.2.2
def recsLen : LR → Int
 | [] => 0
 | r :: l => recLen r + recsLen l
def size2 (kind from0 inc lo hi seq target life epoch base : Int) (recs : LR) : Int :=
 if !validF kind from0 inc lo hi seq target life epoch base recs then 0 else 22 + (if hasF kind 0 then 5 else 0) + (if hasF kind 1 then 5 else 0) + recsLen recs
def fit2Go : LR → Bool
 | [] => true
 | r :: l => if decide (r.2.1 > 4294967295) then false else fit2Go l
def fits2 (kind from0 inc lo hi seq target life epoch base : Int) (recs : LR) : Bool :=
 if !validF kind from0 inc lo hi seq target life epoch base recs || (kind == 9 || (epoch != 0 || decide (size2 kind from0 inc lo hi seq target life epoch base recs > 65499))) then false else fit2Go recs
def bagFit (b : LF) : Bool := bagOk b && smallBag b
def tagOk (t : Int) : Bool := decide (0 ≤ t) && decide (t ≤ 255)
def s_rsz2 : Den.Sum := ⟨[.dat tQr true], fun args objs κ => match args, objs with
 | [.agg [.d (.int .i64) rid, .d (.int .i64) rinc, .d (.int .i64) rst, .d (.int .i64) rlo, .d (.int .i64) rhi, .d .bool rcut, .d (.sl (.pair (.int .i64) (.sl (.int .u8)))) rbag]], [] => if bagFit rbag = true then κ [.d (.int .i64) (recLen (rid, rinc, rst, (rlo, rhi), rcut, rbag))] [] else none
 | _, _ => none⟩
def s_size2 : Den.Sum := ⟨[.dat (.pair tQi (.pair tQi (.pair tQi (.pair (.pair tQi tQi) (.pair tQi (.pair tQi (.pair tQi (.pair tQi (.pair tQi (.sl tQr)))))))))) true], fun args objs κ => match args, objs with
 | [.agg [.d (.int .i64) mkind, .d (.int .i64) mfrom0, .d (.int .i64) minc, .d (.int .i64) mlo, .d (.int .i64) mhi, .d (.int .i64) mseq, .d (.int .i64) mtarget, .d (.int .i64) mlife, .d (.int .i64) mepoch, .d (.int .i64) mbase, .d (.sl (.pair (.int .i64) (.pair (.int .i64) (.pair (.int .i64) (.pair (.pair (.int .i64) (.int .i64)) (.pair .bool (.sl (.pair (.int .i64) (.sl (.int .u8)))))))))) mrecs]], [] => if smallRecs mrecs = true then κ [.d (.int .i64) (size2 mkind mfrom0 minc mlo mhi mseq mtarget mlife mepoch mbase mrecs)] [] else none
 | _, _ => none⟩
def s_fits2 : Den.Sum := ⟨[.dat (.pair tQi (.pair tQi (.pair tQi (.pair (.pair tQi tQi) (.pair tQi (.pair tQi (.pair tQi (.pair tQi (.pair tQi (.sl tQr)))))))))) true], fun args objs κ => match args, objs with
 | [.agg [.d (.int .i64) mkind, .d (.int .i64) mfrom0, .d (.int .i64) minc, .d (.int .i64) mlo, .d (.int .i64) mhi, .d (.int .i64) mseq, .d (.int .i64) mtarget, .d (.int .i64) mlife, .d (.int .i64) mepoch, .d (.int .i64) mbase, .d (.sl (.pair (.int .i64) (.pair (.int .i64) (.pair (.int .i64) (.pair (.pair (.int .i64) (.int .i64)) (.pair .bool (.sl (.pair (.int .i64) (.sl (.int .u8)))))))))) mrecs]], [] => if smallRecs mrecs = true then κ [.d .bool (fits2 mkind mfrom0 minc mlo mhi mseq mtarget mlife mepoch mbase mrecs)] [] else none
 | _, _ => none⟩
def s_tnum : Den.Sum := ⟨[.raw, .raw, .raw], fun args objs κ => match args, objs with
 | [.d (.int .i64) t, .d (.int .i64) n, .d (.int .i64) v], [] => if fitsF n v = true then κ [.agg [.d (.int .i64) t, .d (.sl (.int .u8)) (be n.toNat v)]] [] else none
 | _, _ => none⟩
def RSize2_E : Env := ⟨th, gam [], fun i => if i = 3 then ⟨[3, 7, 8, 9], [], []⟩ else ⟨[], [], []⟩⟩
def RSize2.k (rs : List AV) (os : List Den.Obj) : Option Int :=
 match rs, os with
 | [.d (.int .i64) r0], [] => some r0
 | _, _ => none
def RSize2.s3 (rid rinc rst rlo rhi : Int) (rcut : Bool) (rbag : LF) (x0 x1 x2 : Int) : St := ⟨[dD, dD, dD, .d tQi x0, dD, dD, dD, .d (.sl (.pair tQi (.sl (.int .u8)))) (rbag), .d tQi x1, .d tQi x2, dD, dD, dD, dD, dD, dD, dD, dD, dD, dD, .dead], ofL [], 0⟩
def RSize2.p3 (fuel : Nat) (rid rinc rst rlo rhi : Int) (rcut : Bool) (rbag : LF) (k : Nat) := fun x0 x1 x2 => lp RSize2_E fuel Tryz.f128 [.raw] 0 RSize2.k 3 [] k (RSize2.s3 rid rinc rst rlo rhi rcut rbag x0 x1 x2)
def RSize2.b3 (rid rinc rst rlo rhi : Int) (rcut : Bool) (rbag : LF) (A3 : Int → Int → Int → Option Int) (x0 x1 x2 : Int) : Option Int :=
 (if (decide (x2 < x1)) then (match (idx rbag x2) with | none => none | some y3 => A3 (IntKind.wrap .i64 (x0 + (IntKind.wrap .i64 ((3 : Int) + ((((List.length y3.2)) : Nat) : Int))))) x1 (IntKind.wrap .i64 (x2 + (1 : Int)))) else some (x0))
def RSize2.l3 (fuel : Nat) (rid rinc rst rlo rhi : Int) (rcut : Bool) (rbag : LF) : Nat → Int → Int → Int → Option Int
 | 0, _, _, _ => none
 | k + 1, x0, x1, x2 => RSize2.b3 rid rinc rst rlo rhi rcut rbag (RSize2.l3 fuel rid rinc rst rlo rhi rcut rbag k) x0 x1 x2
def RSize2.b (rid rinc rst rlo rhi : Int) (rcut : Bool) (rbag : LF) (E3 : Int → Int → Int → Option Int) : Option Int :=
 E3 (23 : Int) ((((List.length rbag)) : Nat) : Int) (0 : Int)
def RSize2.f (fuel : Nat) (rid rinc rst rlo rhi : Int) (rcut : Bool) (rbag : LF) : Option Int := RSize2.b rid rinc rst rlo rhi rcut rbag (RSize2.l3 fuel rid rinc rst rlo rhi rcut rbag fuel)
theorem RSize2.l3_eq (fuel : Nat) (rid rinc rst rlo rhi : Int) (rcut : Bool) (rbag : LF) : ∀ k : Nat, RSize2.p3 fuel rid rinc rst rlo rhi rcut rbag k = RSize2.l3 fuel rid rinc rst rlo rhi rcut rbag k
 | 0 => by kernel_rfl
 | k + 1 => by
  refine Eq.trans (b := RSize2.b3 rid rinc rst rlo rhi rcut rbag (RSize2.p3 fuel rid rinc rst rlo rhi rcut rbag k)) (by kernel_rfl) ?_
  rw [RSize2.l3_eq fuel rid rinc rst rlo rhi rcut rbag k]
  kernel_rfl
theorem RSize2.eq (fuel : Nat) (rid rinc rst rlo rhi : Int) (rcut : Bool) (rbag : LF) : (denF RSize2_E loopN fuel Tryz.f128 [.raw] [.agg [.d tQi rid, .d tQi rinc, .d tQi rst, .d tQi rlo, .d tQi rhi, .d .bool rcut, .d (.sl (.pair tQi (.sl (.int .u8)))) rbag]] [] RSize2.k) = RSize2.f fuel rid rinc rst rlo rhi rcut rbag := by
 refine Eq.trans (b := RSize2.b rid rinc rst rlo rhi rcut rbag (RSize2.p3 fuel rid rinc rst rlo rhi rcut rbag fuel)) (by kernel_rfl) ?_
 rw [RSize2.l3_eq fuel rid rinc rst rlo rhi rcut rbag fuel]
 kernel_rfl
def Size2_E : Env := ⟨th, gam [(76, s_valid), (41, s_has), (128, s_rsz2)], fun i => if i = 9 then ⟨[3, 20, 21, 22], [], []⟩ else ⟨[], [], []⟩⟩
def Size2.k (rs : List AV) (os : List Den.Obj) : Option Int :=
 match rs, os with
 | [.d (.int .i64) r0], [] => some r0
 | _, _ => none
def Size2.s9 (mkind mfrom0 minc mlo mhi mseq mtarget mlife mepoch mbase : Int) (mrecs : LR) (x0 x1 x2 : Int) : St := ⟨[dD, dD, dD, .d tQi x0, dD, dD, dD, dD, dD, dD, dD, dD, dD, dD, dD, dD, dD, dD, dD, dD, .d (.sl tQr) (mrecs), .d tQi x1, .d tQi x2, dD, dD, dD, dD, dD, dD, dD, dD, .dead], ofL [], 0⟩
def Size2.p9 (fuel : Nat) (mkind mfrom0 minc mlo mhi mseq mtarget mlife mepoch mbase : Int) (mrecs : LR) (k : Nat) := fun x0 x1 x2 => lp Size2_E fuel Tryz.f114 [.raw] 0 Size2.k 9 [] k (Size2.s9 mkind mfrom0 minc mlo mhi mseq mtarget mlife mepoch mbase mrecs x0 x1 x2)
def Size2.b9 (mkind mfrom0 minc mlo mhi mseq mtarget mlife mepoch mbase : Int) (mrecs : LR) (A9 : Int → Int → Int → Option Int) (x0 x1 x2 : Int) : Option Int :=
 (if (decide (x2 < x1)) then (match (idx mrecs x2) with | none => none | some y3 => (if (bagFit y3.2.2.2.2.2) then A9 (IntKind.wrap .i64 (x0 + (recLen (y3.1, (y3.2.1, (y3.2.2.1, ((y3.2.2.2.1.1, y3.2.2.2.1.2), (y3.2.2.2.2.1, y3.2.2.2.2.2)))))))) x1 (IntKind.wrap .i64 (x2 + (1 : Int))) else none)) else some (x0))
def Size2.l9 (fuel : Nat) (mkind mfrom0 minc mlo mhi mseq mtarget mlife mepoch mbase : Int) (mrecs : LR) : Nat → Int → Int → Int → Option Int
 | 0, _, _, _ => none
 | k + 1, x0, x1, x2 => Size2.b9 mkind mfrom0 minc mlo mhi mseq mtarget mlife mepoch mbase mrecs (Size2.l9 fuel mkind mfrom0 minc mlo mhi mseq mtarget mlife mepoch mbase mrecs k) x0 x1 x2
def Size2.b (mkind mfrom0 minc mlo mhi mseq mtarget mlife mepoch mbase : Int) (mrecs : LR) (E9 : Int → Int → Int → Option Int) : Option Int :=
 (if (smallRecs mrecs) then (if (!(validF mkind mfrom0 minc mlo mhi mseq mtarget mlife mepoch mbase mrecs)) then some ((0 : Int)) else (if (hasF mkind (0 : Int)) then (if (hasF mkind (1 : Int)) then E9 (IntKind.wrap .i64 ((IntKind.wrap .i64 ((22 : Int) + (5 : Int))) + (5 : Int))) ((((List.length mrecs)) : Nat) : Int) (0 : Int) else E9 (IntKind.wrap .i64 ((22 : Int) + (5 : Int))) ((((List.length mrecs)) : Nat) : Int) (0 : Int)) else (if (hasF mkind (1 : Int)) then E9 (IntKind.wrap .i64 ((22 : Int) + (5 : Int))) ((((List.length mrecs)) : Nat) : Int) (0 : Int) else E9 (22 : Int) ((((List.length mrecs)) : Nat) : Int) (0 : Int)))) else none)
def Size2.f (fuel : Nat) (mkind mfrom0 minc mlo mhi mseq mtarget mlife mepoch mbase : Int) (mrecs : LR) : Option Int := Size2.b mkind mfrom0 minc mlo mhi mseq mtarget mlife mepoch mbase mrecs (Size2.l9 fuel mkind mfrom0 minc mlo mhi mseq mtarget mlife mepoch mbase mrecs fuel)
theorem Size2.l9_eq (fuel : Nat) (mkind mfrom0 minc mlo mhi mseq mtarget mlife mepoch mbase : Int) (mrecs : LR) : ∀ k : Nat, Size2.p9 fuel mkind mfrom0 minc mlo mhi mseq mtarget mlife mepoch mbase mrecs k = Size2.l9 fuel mkind mfrom0 minc mlo mhi mseq mtarget mlife mepoch mbase mrecs k
 | 0 => by kernel_rfl
 | k + 1 => by
  refine Eq.trans (b := Size2.b9 mkind mfrom0 minc mlo mhi mseq mtarget mlife mepoch mbase mrecs (Size2.p9 fuel mkind mfrom0 minc mlo mhi mseq mtarget mlife mepoch mbase mrecs k)) (by kernel_rfl) ?_
  rw [Size2.l9_eq fuel mkind mfrom0 minc mlo mhi mseq mtarget mlife mepoch mbase mrecs k]
  kernel_rfl
theorem Size2.eq (fuel : Nat) (mkind mfrom0 minc mlo mhi mseq mtarget mlife mepoch mbase : Int) (mrecs : LR) : (denF Size2_E loopN fuel Tryz.f114 [.raw] [.agg [.d tQi mkind, .d tQi mfrom0, .d tQi minc, .d tQi mlo, .d tQi mhi, .d tQi mseq, .d tQi mtarget, .d tQi mlife, .d tQi mepoch, .d tQi mbase, .d (.sl tQr) mrecs]] [] Size2.k) = Size2.f fuel mkind mfrom0 minc mlo mhi mseq mtarget mlife mepoch mbase mrecs := by
 refine Eq.trans (b := Size2.b mkind mfrom0 minc mlo mhi mseq mtarget mlife mepoch mbase mrecs (Size2.p9 fuel mkind mfrom0 minc mlo mhi mseq mtarget mlife mepoch mbase mrecs fuel)) (by kernel_rfl) ?_
 rw [Size2.l9_eq fuel mkind mfrom0 minc mlo mhi mseq mtarget mlife mepoch mbase mrecs fuel]
 kernel_rfl
def Fits2_E : Env := ⟨th, gam [(76, s_valid), (114, s_size2)], fun i => if i = 4 then ⟨[24, 25, 26], [], []⟩ else ⟨[], [], []⟩⟩
def Fits2.k (rs : List AV) (os : List Den.Obj) : Option Bool :=
 match rs, os with
 | [.d .bool r0], [] => some r0
 | _, _ => none
def Fits2.s4 (mkind mfrom0 minc mlo mhi mseq mtarget mlife mepoch mbase : Int) (mrecs : LR) (x0 x1 : Int) : St := ⟨[dD, dD, dD, dD, dD, dD, dD, dD, dD, dD, dD, dD, dD, dD, dD, dD, dD, dD, dD, dD, dD, dD, dD, dD, .d (.sl tQr) (mrecs), .d tQi x0, .d tQi x1, dD, dD, dD, dD, dD, dD, .dead], ofL [], 0⟩
def Fits2.p4 (fuel : Nat) (mkind mfrom0 minc mlo mhi mseq mtarget mlife mepoch mbase : Int) (mrecs : LR) (k : Nat) := fun x0 x1 => lp Fits2_E fuel Tryz.f87 [.raw] 0 Fits2.k 4 [] k (Fits2.s4 mkind mfrom0 minc mlo mhi mseq mtarget mlife mepoch mbase mrecs x0 x1)
def Fits2.b4 (mkind mfrom0 minc mlo mhi mseq mtarget mlife mepoch mbase : Int) (mrecs : LR) (A4 : Int → Int → Option Bool) (x0 x1 : Int) : Option Bool :=
 (if (decide (x1 < x0)) then (match (idx mrecs x1) with | none => none | some y2 => (if (decide (y2.2.1 > (veil (4294967295 : Int)))) then some (false) else A4 x0 (IntKind.wrap .i64 (x1 + (1 : Int))))) else some (true))
def Fits2.l4 (fuel : Nat) (mkind mfrom0 minc mlo mhi mseq mtarget mlife mepoch mbase : Int) (mrecs : LR) : Nat → Int → Int → Option Bool
 | 0, _, _ => none
 | k + 1, x0, x1 => Fits2.b4 mkind mfrom0 minc mlo mhi mseq mtarget mlife mepoch mbase mrecs (Fits2.l4 fuel mkind mfrom0 minc mlo mhi mseq mtarget mlife mepoch mbase mrecs k) x0 x1
def Fits2.b (mkind mfrom0 minc mlo mhi mseq mtarget mlife mepoch mbase : Int) (mrecs : LR) (E4 : Int → Int → Option Bool) : Option Bool :=
 (if (smallRecs mrecs) then (if (!(validF mkind mfrom0 minc mlo mhi mseq mtarget mlife mepoch mbase mrecs)) then some (false) else (if (mkind == (9 : Int)) then some (false) else (if (mepoch != (0 : Int)) then some (false) else (if (smallRecs mrecs) then (if (decide ((size2 mkind mfrom0 minc mlo mhi mseq mtarget mlife mepoch mbase mrecs) > (65499 : Int))) then some (false) else E4 ((((List.length mrecs)) : Nat) : Int) (0 : Int)) else none)))) else none)
def Fits2.f (fuel : Nat) (mkind mfrom0 minc mlo mhi mseq mtarget mlife mepoch mbase : Int) (mrecs : LR) : Option Bool := Fits2.b mkind mfrom0 minc mlo mhi mseq mtarget mlife mepoch mbase mrecs (Fits2.l4 fuel mkind mfrom0 minc mlo mhi mseq mtarget mlife mepoch mbase mrecs fuel)
theorem Fits2.l4_eq (fuel : Nat) (mkind mfrom0 minc mlo mhi mseq mtarget mlife mepoch mbase : Int) (mrecs : LR) : ∀ k : Nat, Fits2.p4 fuel mkind mfrom0 minc mlo mhi mseq mtarget mlife mepoch mbase mrecs k = Fits2.l4 fuel mkind mfrom0 minc mlo mhi mseq mtarget mlife mepoch mbase mrecs k
 | 0 => by kernel_rfl
 | k + 1 => by
  refine Eq.trans (b := Fits2.b4 mkind mfrom0 minc mlo mhi mseq mtarget mlife mepoch mbase mrecs (Fits2.p4 fuel mkind mfrom0 minc mlo mhi mseq mtarget mlife mepoch mbase mrecs k)) (by kernel_rfl) ?_
  rw [Fits2.l4_eq fuel mkind mfrom0 minc mlo mhi mseq mtarget mlife mepoch mbase mrecs k]
  kernel_rfl
theorem Fits2.eq (fuel : Nat) (mkind mfrom0 minc mlo mhi mseq mtarget mlife mepoch mbase : Int) (mrecs : LR) : (denF Fits2_E loopN fuel Tryz.f87 [.raw] [.agg [.d tQi mkind, .d tQi mfrom0, .d tQi minc, .d tQi mlo, .d tQi mhi, .d tQi mseq, .d tQi mtarget, .d tQi mlife, .d tQi mepoch, .d tQi mbase, .d (.sl tQr) mrecs]] [] Fits2.k) = Fits2.f fuel mkind mfrom0 minc mlo mhi mseq mtarget mlife mepoch mbase mrecs := by
 refine Eq.trans (b := Fits2.b mkind mfrom0 minc mlo mhi mseq mtarget mlife mepoch mbase mrecs (Fits2.p4 fuel mkind mfrom0 minc mlo mhi mseq mtarget mlife mepoch mbase mrecs fuel)) (by kernel_rfl) ?_
 rw [Fits2.l4_eq fuel mkind mfrom0 minc mlo mhi mseq mtarget mlife mepoch mbase mrecs fuel]
 kernel_rfl
def TNum_E : Env := ⟨th, gam [(78, s_write), (79, s_num), (82, s_bytes)], fun i => ⟨[], [], []⟩⟩
def TNum.k (rs : List AV) (os : List Den.Obj) : Option (Int × (List Int)) :=
 match rs, os with
 | [.agg [.d (.int .i64) r0, .d (.sl (.int .u8)) r1]], [] => some (r0, r1)
 | _, _ => none
def TNum.b (t n v : Int) : Option (Int × (List Int)) :=
 (if (fitsF n v) then (if (roomy (be (Int.toNat n) v)) then some (t, (be (Int.toNat n) v)) else none) else none)
def TNum.f (fuel : Nat) (t n v : Int) : Option (Int × (List Int)) := TNum.b t n v
theorem TNum.eq (fuel : Nat) (t n v : Int) : (denF TNum_E loopN fuel Tryz.f88 [.dat (.pair tQi (.sl (.int .u8))) true] [.d tQi t, .d tQi n, .d tQi v] [] TNum.k) = TNum.f fuel t n v := by
 kernel_rfl
theorem bagLen_cons (x : Int × List Int) (b : LF) : bagLen (x :: b) = 3 + (x.2.length : Int) + bagLen b := by
 unfold bagLen; simp
theorem bagLen_nonneg (b : LF) : 0 ≤ bagLen b := by unfold bagLen; omega
theorem bagGo_len : ∀ (l : LF) (last size : Int), size ≤ 4096 → bagGo l last size = true → size + bagLen l ≤ 4096 + 3 * (l.length : Int)
 | [], last, size, h0, h => by simp [bagLen]; omega
 | x :: l, last, size, h0, h => by
  unfold bagGo at h
  split at h
  ·cases h
  ·split at h
   ·cases h
   ·rename_i h1 h2
    simp at h2
    have ih := bagGo_len l x.1 (size + (x.2.length : Int)) h2 h
    rw [bagLen_cons]
    simp
    omega
theorem bagOk_len {b : LF} (h : bagOk b = true) : b.length ≤ 32 ∧ 0 ≤ bagLen b ∧ bagLen b ≤ 4192 := by
 unfold bagOk at h
 split at h
 ·cases h
 ·rename_i h1
  simp at h1
  have := bagGo_len b 32 0 (by omega) h
  have := bagLen_nonneg b
  omega
theorem bagFit_iff (b : LF) : bagFit b = true ↔ bagOk b = true ∧ smallBag b = true := by unfold bagFit; simp
theorem RSize2.loop (fuel : Nat) (id inc st lo hi : Int) (cut : Bool) (bag : LF) (hb : bag.length ≤ 32) : ∀ (k i : Nat) (n : Int), i ≤ bag.length → bag.length - i < k → 0 ≤ n → n + bagLen (bag.drop i) < 1000000 →
  RSize2.l3 fuel id inc st lo hi cut bag k n (bag.length : Int) (i : Int) = some (n + bagLen (bag.drop i)) := by
 intro k
 induction k with
 | zero => intro i n h1 h2; omega
 | succ k ih =>
  intro i n h1 h2 h3 h4
  rw [RSize2.l3]
  unfold RSize2.b3
  by_cases hi' : i < bag.length
  ·rw [if_pos (by simp; omega), idx_at, List.getElem?_eq_getElem hi']
   dsimp only
   rw [List.drop_eq_getElem_cons hi', bagLen_cons] at h4 ⊢
   have hn := bagLen_nonneg (bag.drop (i + 1))
   rw [wrap_small (3 + _) (by omega) (by omega), wrap_small (n + _) (by omega) (by omega), wrap_small ((i : Int) + 1) (by omega) (by omega)]
   have := ih (i + 1) (n + (3 + (bag[i].2.length : Int))) (by omega) (by omega) (by omega) (by omega)
   rw [show ((i + 1 : Nat) : Int) = (i : Int) + 1 from by omega] at this
   rw [this]
   congr 1
   omega
  ·rw [if_neg (by simp; omega), List.drop_of_length_le (by omega)]
   simp [bagLen]
end
end Go.Proofs.YtneiiplppcjjlaaGreatDoor
