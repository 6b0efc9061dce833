/- TrafficRows, part 1: what the row leans on. -/
import Derived.Test.YtgaakgeemnkeeaaGreatDoorEw3
import Derived.Test.YtgaakgeemnkeeaaGreatDoorRows
import Derived.Test.YtgaakgeemnkeeaaGreatDoorTie
import Derived.Test.YtgaakgeemnkeeaaGreatDoorCards
import Derived.Test.YtgaakgeemnkeeaaGreatDoorTw
import Derived.Laws.BitsLemmas
import Derived.KernelRfl
import Derived.ProofKit
import Derived.LaidMore
import Derived.OpenShut
import Derived.Stop.Joined
import Derived.Lib.LaidTab
import Derived.SevenTiedAt
import Derived.Test.YtgaakgeemnkeeaaGreatDoorMq6
import Derived.Laws.Bits64
set_option linter.unusedVariables false
set_option linter.unusedSimpArgs false
set_option maxRecDepth 100000
namespace Go.Proofs.YtgaakgeemnkeeaaGreatDoor
open Go.Den
open Go.Den Go.RowKit
noncomputable section
abbrev dD : AV := AV.dead
abbrev LF := List (Int × List Int)
abbrev LR := List (Int × Int × Int × (Int × Int) × Bool × LF)
abbrev tQi : Ty := .int .i64
abbrev tQr : Ty := .pair (.int .i64) (.pair (.int .i64) (.pair (.int .i64) (.pair (.pair (.int .i64) (.int .i64)) (.pair .bool (.sl (.pair (.int .i64) (.sl (.int .u8))))))))
theorem zi {S : Den.Sum} (h : ∀ avs qj (R : Type) (κ : List AV × List Den.Obj → Option R), S.run avs qj (two κ) = (S.run avs qj (two some)).bind κ) : SumDet S := h
theorem sj {α : Type} {a b : α} (h : some a = some b) : a = b := Option.some.inj h
theorem qU : Tryz.prog.follows .mixedOrders = true := by kernel_rfl
theorem qK (n : Int) (h0 : -9223372036854775808 ≤ n) (h1 : n < 9223372036854775808) : IntKind.wrap .i64 n = n := by
 rw [IntKind.wrap_i64]; omega
theorem Qn {α : Type} (l : List α) (i : Nat) : idx l (i : Int) = l[i]? := by
 unfold idx
 rw [if_pos (by omega)]
 simp
theorem qog {α : Type} (l : List α) (d : α) (i : Nat) (h : i < l.length) : idx l (i : Int) = some (l.getD i d) := by
 rw [Qn, List.getElem?_eq_getElem h]; simp [List.getD, List.getElem?_eq_getElem h]
def okS (lo hi : Int) : Bool := decide (1 ≤ lo) && decide (lo ≤ hi) && decide (hi ≤ 3)
def z6 (a b : Int) : Int := if !okS a b then 0 else Den.bits .or .i64 (IntKind.wrap .i64 (a * 16)) b
def qhA : List (ByteArray × Int) := [(⟨#[]⟩, 0), (⟨#[104, 101, 108, 108, 111]⟩, 1), (⟨#[119, 101, 108, 99, 111, 109, 101]⟩, 1), (⟨#[114, 101, 106, 101, 99, 116]⟩, 2), (⟨#[112, 105, 110, 103]⟩, 17), (⟨#[97, 99, 107]⟩, 17), (⟨#[97, 115, 107]⟩, 19), (⟨#[112, 117, 115, 104]⟩, 28), (⟨#[112, 117, 108, 108]⟩, 20), (⟨#[114, 101, 115, 101, 116]⟩, 4)]
def ofF (k : Int) : ByteArray × Int := if decide (k < 1) || decide (k > 9) then (⟨#[]⟩, 0) else qhA.getD k.toNat (⟨#[]⟩, 0)
def zH (had : Bool) (v lo hi : Int) : Bool := if !had then v == 0 else (decide (v ≥ lo) && decide (v ≤ hi))
def qen : LF → Int → Int → Bool
 | [], _, _ => true
 | x :: l, qe, size => if decide (x.1 < qe) || decide (x.1 > 255) then false else if decide (size + (x.2.length : Int) > 4096) then false else qen l x.1 (size + (x.2.length : Int))
def qbo (b : LF) : Bool := if decide ((b.length : Int) > 32) then false else qen b 32 0
def qdp (id inc st lo hi : Int) (cut : Bool) (bag : LF) : Bool :=
 if decide (id < 0) || decide (id > 4095) then false else if decide (inc < 0) || decide (inc > 281474976710655) then false else if decide (st < 0) || decide (st > 3) then false else
 if !okS lo hi || !qbo bag then false else if cut && decide ((bag.length : Int) > 0) then false else true
def zn (b : LF) : Bool := decide (b.length < 281474976710656) && b.all fun x => decide (x.2.length < 281474976710656)
def qdc : Den.Sum := ⟨[.dat (.pair tQi tQi) true], fun qA qj κ => match qA, qj with
 | [.agg [.d (.int .i64) lo, .d (.int .i64) hi]], [] => κ [.d .bool (okS lo hi)] []
 | _, _ => none⟩
def Z2 : Den.Sum := ⟨[.dat (.pair tQi tQi) true], fun qA qj κ => match qA, qj with
 | [.agg [.d (.int .i64) a, .d (.int .i64) b]], [] => κ [.d (.int .i64) (z6 a b)] []
 | _, _ => none⟩
def qdb : Den.Sum := ⟨[], fun qA qj κ => match qA, qj with
 | [], [] => κ [.d (.arr 10 (.pair .str (.int .u8))) qhA] []
 | _, _ => none⟩
def qfb : Den.Sum := ⟨[.raw], fun qA qj κ => match qA, qj with
 | [.d (.int .i64) k], [] => κ [.agg [.d .str (ofF k).1, .d (.int .u8) (ofF k).2]] []
 | _, _ => none⟩
def qbb : Den.Sum := ⟨[.raw, .raw, .raw, .raw], fun qA qj κ => match qA, qj with
 | [.d .bool had, .d (.int .i64) v, .d (.int .i64) lo, .d (.int .i64) hi], [] => κ [.d .bool (zH had v lo hi)] []
 | _, _ => none⟩
def qd9 : Den.Sum := ⟨[.dat (.sl (.pair tQi (.sl (.int .u8)))) false], fun qA qj κ => match qA, qj with
 | [.d (.sl (.pair (.int .i64) (.sl (.int .u8)))) b], [] => if zn b = true then κ [.d .bool (qbo b)] [] else none
 | _, _ => none⟩
def qd1 : Den.Sum := ⟨[.dat tQr true], fun qA qj κ => match qA, qj with
 | [.agg [.d (.int .i64) rid, .d (.int .i64) zq, .d (.int .i64) rst, .d (.int .i64) rlo, .d (.int .i64) rhi, .d .bool zr, .d (.sl (.pair (.int .i64) (.sl (.int .u8)))) zm]], [] => if zn zm = true then κ [.d .bool (qdp rid zq rst rlo rhi zr zm)] [] else none
 | _, _ => none⟩
def qgY : Env := ⟨th, gam [], fun i => ⟨[], [], []⟩⟩
def Zw.k (rs : List AV) (os : List Den.Obj) : Option Bool :=
 match rs, os with
 | [.d .bool r0], [] => some r0
 | _, _ => none
def Zw.b (lo hi : Int) : Option Bool :=
 (if (decide (lo ≥ (1 : Int))) then (if (decide (lo ≤ hi)) then some ((decide (hi ≤ (3 : Int)))) else some (false)) else some (false))
def Zw.f (qa : Nat) (lo hi : Int) : Option Bool := Zw.b lo hi
theorem Zw.eq (qa : Nat) (lo hi : Int) : (denF qgY loopN qa Tryz.f29 [.raw] [.agg [.d tQi lo, .d tQi hi]] [] Zw.k) = Zw.f qa lo hi := by
 kernel_rfl
def qil : Env := ⟨th, gam [(29, qdc)], fun i => ⟨[], [], []⟩⟩
def ZL.k (rs : List AV) (os : List Den.Obj) : Option Int :=
 match rs, os with
 | [.d (.int .i64) r0], [] => some r0
 | _, _ => none
def ZL.b (a b : Int) : Option Int :=
 (if (!(okS a b)) then some ((0 : Int)) else some ((bits BinOp.or .i64 (IntKind.wrap .i64 (a * ((2 : Int) ^ (Min.min (Int.toNat (4 : Int)) (IntKind.bits .i64))))) b)))
def ZL.f (qa : Nat) (a b : Int) : Option Int := ZL.b a b
theorem ZL.eq (qa : Nat) (a b : Int) : (denF qil loopN qa Tryz.f62 [.raw] [.agg [.d tQi a, .d tQi b]] [] ZL.k) = ZL.f qa a b := by
 kernel_rfl
def qip : Env := ⟨th, gam [], fun i => ⟨[], [], []⟩⟩
def qbp.k (rs : List AV) (os : List Den.Obj) : Option (List (ByteArray × Int)) :=
 match rs, os with
 | [.d (.arr 10 (.pair .str (.int .u8))) r0], [] => some r0
 | _, _ => none
def qbp.b (u : Unit) : Option (List (ByteArray × Int)) :=
 some ((((⟨([]).toArray⟩ : ByteArray), 0) :: (((⟨((104 :: (101 :: (108 :: (108 :: (111 :: [])))))).toArray⟩ : ByteArray), (1 : Int)) :: (((⟨((119 :: (101 :: (108 :: (99 :: (111 :: (109 :: (101 :: [])))))))).toArray⟩ : ByteArray), (1 : Int)) :: (((⟨((114 :: (101 :: (106 :: (101 :: (99 :: (116 :: []))))))).toArray⟩ : ByteArray), (2 : Int)) :: (((⟨((112 :: (105 :: (110 :: (103 :: []))))).toArray⟩ : ByteArray), (17 : Int)) :: (((⟨((97 :: (99 :: (107 :: [])))).toArray⟩ : ByteArray), (17 : Int)) :: (((⟨((97 :: (115 :: (107 :: [])))).toArray⟩ : ByteArray), (19 : Int)) :: (((⟨((112 :: (117 :: (115 :: (104 :: []))))).toArray⟩ : ByteArray), (28 : Int)) :: (((⟨((112 :: (117 :: (108 :: (108 :: []))))).toArray⟩ : ByteArray), (20 : Int)) :: (((⟨((114 :: (101 :: (115 :: (101 :: (116 :: [])))))).toArray⟩ : ByteArray), (4 : Int)) :: [])))))))))))
def qbp.f (qa : Nat) (u : Unit) : Option (List (ByteArray × Int)) := qbp.b u
theorem qbp.eq (qa : Nat) (u : Unit) : (denF qip loopN qa Tryz.f103 [.raw] [] [] qbp.k) = qbp.f qa u := by
 kernel_rfl
def qld : Env := ⟨th, gam [(103, qdb)], fun i => ⟨[], [], []⟩⟩
def qbD.k (rs : List AV) (os : List Den.Obj) : Option (ByteArray × Int) :=
 match rs, os with
 | [.agg [.d .str r0, .d (.int .u8) r1]], [] => some (r0, r1)
 | _, _ => none
def qbD.b (k : Int) : Option (ByteArray × Int) :=
 (if (decide (k < (1 : Int))) then some ((⟨([]).toArray⟩ : ByteArray), 0) else (if (decide (k > (9 : Int))) then some ((⟨([]).toArray⟩ : ByteArray), 0) else (match (idx qhA k) with | none => none | some y0 => some (y0.1, y0.2))))
def qbD.f (qa : Nat) (k : Int) : Option (ByteArray × Int) := qbD.b k
theorem qbD.eq (qa : Nat) (k : Int) : (denF qld loopN qa Tryz.f85 [.dat (.pair .str (.int .u8)) true] [.d tQi k] [] qbD.k) = qbD.f qa k := by
 kernel_rfl
def qgZ : Env := ⟨th, gam [], fun i => ⟨[], [], []⟩⟩
def Zx.k (rs : List AV) (os : List Den.Obj) : Option Bool :=
 match rs, os with
 | [.d .bool r0], [] => some r0
 | _, _ => none
def Zx.b (had : Bool) (v lo hi : Int) : Option Bool :=
 (if (!had) then some ((v == (0 : Int))) else (if (decide (v ≥ lo)) then some ((decide (v ≤ hi))) else some (false)))
def Zx.f (qa : Nat) (had : Bool) (v lo hi : Int) : Option Bool := Zx.b had v lo hi
theorem Zx.eq (qa : Nat) (had : Bool) (v lo hi : Int) : (denF qgZ loopN qa Tryz.f86 [.raw] [.d .bool had, .d tQi v, .d tQi lo, .d tQi hi] [] Zx.k) = Zx.f qa had v lo hi := by
 kernel_rfl
def qfz : Env := ⟨th, gam [], fun i => if i = 5 then ⟨[3, 4, 10, 11, 12], [], []⟩ else ⟨[], [], []⟩⟩
def zx.k (rs : List AV) (os : List Den.Obj) : Option Bool :=
 match rs, os with
 | [.d .bool r0], [] => some r0
 | _, _ => none
def zx.s5 (b : LF) (x0 x1 x2 x3 : Int) : St := ⟨[dD, dD, dD, .d tQi x0, .d tQi x1, dD, dD, dD, dD, dD, .d (.sl (.pair tQi (.sl (.int .u8)))) (b), .d tQi x2, .d tQi x3, dD, dD, dD, dD, dD, dD, dD, dD, dD, dD, dD, dD, dD, dD, dD, dD, dD, dD, dD, dD, dD, .dead], ofL [], 0⟩
def zx.p5 (qa : Nat) (b : LF) (k : Nat) := fun x0 x1 x2 x3 => lp qfz qa Tryz.f105 [.raw] 0 zx.k 5 [] k (zx.s5 b x0 x1 x2 x3)
def zx.b5 (b : LF) (A5 : Int → Int → Int → Int → Option Bool) (x0 x1 x2 x3 : Int) : Option Bool :=
 (if (decide (x3 < x2)) then (match (idx b x3) with | none => none | some y4 => (if (decide (y4.1 < x0)) then some (false) else (if (decide (y4.1 > (255 : Int))) then some (false) else (if (decide ((IntKind.wrap .i64 (x1 + ((((List.length y4.2)) : Nat) : Int))) > (4096 : Int))) then some (false) else A5 y4.1 (IntKind.wrap .i64 (x1 + ((((List.length y4.2)) : Nat) : Int))) x2 (IntKind.wrap .i64 (x3 + (1 : Int))))))) else some (true))
def zx.l5 (qa : Nat) (b : LF) : Nat → Int → Int → Int → Int → Option Bool
 | 0, _, _, _, _ => none
 | k + 1, x0, x1, x2, x3 => zx.b5 b (zx.l5 qa b k) x0 x1 x2 x3
def zx.b (b : LF) (E5 : Int → Int → Int → Int → Option Bool) : Option Bool :=
 (if (decide (((((List.length b)) : Nat) : Int) > (32 : Int))) then some (false) else E5 (32 : Int) (0 : Int) ((((List.length b)) : Nat) : Int) (0 : Int))
def zx.f (qa : Nat) (b : LF) : Option Bool := zx.b b (zx.l5 qa b qa)
theorem zx.l5_eq (qa : Nat) (b : LF) : ∀ k : Nat, zx.p5 qa b k = zx.l5 qa b k
 | 0 => by kernel_rfl
 | k + 1 => by
  refine Eq.trans (b := zx.b5 b (zx.p5 qa b k)) (by kernel_rfl) ?_
  rw [zx.l5_eq qa b k]
  kernel_rfl
theorem zx.eq (qa : Nat) (b : LF) : (denF qfz loopN qa Tryz.f105 [.raw] [.d (.sl (.pair tQi (.sl (.int .u8)))) b] [] zx.k) = zx.f qa b := by
 refine Eq.trans (b := zx.b b (zx.p5 qa b qa)) (by kernel_rfl) ?_
 rw [zx.l5_eq qa b qa]
 kernel_rfl
def qin : Env := ⟨th, gam [(29, qdc), (105, qd9)], fun i => ⟨[], [], []⟩⟩
def ZM.k (rs : List AV) (os : List Den.Obj) : Option Bool :=
 match rs, os with
 | [.d .bool r0], [] => some r0
 | _, _ => none
def ZM.b (rid zq rst rlo rhi : Int) (zr : Bool) (zm : LF) : Option Bool :=
 (if (decide (rid < (0 : Int))) then some (false) else (if (decide (rid > (4095 : Int))) then some (false) else (if (decide (zq < (0 : Int))) then some (false) else (if (decide (zq > (veil (281474976710655 : Int)))) then some (false) else (if (decide (rst < (0 : Int))) then some (false) else (if (decide (rst > (3 : Int))) then some (false) else (if (!(okS rlo rhi)) then some (false) else (if (zn zm) then (if (!(qbo zm)) then some (false) else (if zr then (if (decide (((((List.length zm)) : Nat) : Int) > (0 : Int))) then some (false) else some (true)) else some (true))) else none))))))))
def ZM.f (qa : Nat) (rid zq rst rlo rhi : Int) (zr : Bool) (zm : LF) : Option Bool := ZM.b rid zq rst rlo rhi zr zm
theorem ZM.eq (qa : Nat) (rid zq rst rlo rhi : Int) (zr : Bool) (zm : LF) : (denF qin loopN qa Tryz.f95 [.raw] [.agg [.d tQi rid, .d tQi zq, .d tQi rst, .d tQi rlo, .d tQi rhi, .d .bool zr, .d (.sl (.pair tQi (.sl (.int .u8)))) zm]] [] ZM.k) = ZM.f qa rid zq rst rlo rhi zr zm := by
 kernel_rfl
def qjn : Env := ⟨th, gam [], fun i => ⟨[], [], []⟩⟩
def Z9.k (rs : List AV) (os : List Den.Obj) : Option Bool :=
 match rs, os with
 | [.d .bool r0], [] => some r0
 | _, _ => none
def Z9.b (n v : Int) : Option Bool :=
 (if (decide (n ≥ (1 : Int))) then (if (decide (n ≤ (7 : Int))) then (if (decide (v ≥ (0 : Int))) then (if ((IntKind.wrap .i64 ((8 : Int) * n)) < (0 : Int)) then none else some (((Int.fdiv v ((2 : Int) ^ (Min.min (Int.toNat (IntKind.wrap .i64 ((8 : Int) * n))) (IntKind.bits .i64)))) == (0 : Int)))) else some (false)) else some (false)) else some (false))
def Z9.f (qa : Nat) (n v : Int) : Option Bool := Z9.b n v
theorem Z9.eq (qa : Nat) (n v : Int) : (denF qjn loopN qa Tryz.f88 [.raw] [.d tQi n, .d tQi v] [] Z9.k) = Z9.f qa n v := by
 kernel_rfl
def qkm : Env := ⟨th, gam [(85, qfb)], fun i => ⟨[], [], []⟩⟩
def qaW.k (rs : List AV) (os : List Den.Obj) : Option Bool :=
 match rs, os with
 | [.d .bool r0], [] => some r0
 | _, _ => none
def qaW.b (k p : Int) : Option Bool :=
 (if (decide (p ≥ (0 : Int))) then (if (decide (p ≤ (4 : Int))) then (if (p < (0 : Int)) then none else some (((bits BinOp.and .u8 (Int.fdiv (ofF k).2 ((2 : Int) ^ (Min.min (Int.toNat p) (IntKind.bits .u8)))) (1 : Int)) == (1 : Int)))) else some (false)) else some (false))
def qaW.f (qa : Nat) (k p : Int) : Option Bool := qaW.b k p
theorem qaW.eq (qa : Nat) (k p : Int) : (denF qkm loopN qa Tryz.f71 [.raw] [.d tQi k, .d tQi p] [] qaW.k) = qaW.f qa k p := by
 kernel_rfl
theorem ZP (a b : Int) : okS a b = true ↔ 1 ≤ a ∧ a ≤ b ∧ b ≤ 3 := by
 unfold okS
 simp only [Bool.and_eq_true, decide_eq_true_eq]
 omega
theorem Zw.pure (lo hi : Int) : Zw.f 0 lo hi = some (okS lo hi) := by
 unfold Zw.f Zw.b okS
 by_cases h1 : 1 ≤ lo
 ·by_cases h2 : lo ≤ hi <;> simp [h1, h2]
 ·simp [h1]
theorem ZL.pure (a b : Int) : ZL.f 0 a b = some (z6 a b) := by
 unfold ZL.f ZL.b z6
 cases okS a b <;> rfl
theorem qbD.pure (k : Int) : qbD.f 0 k = some ((ofF k).1, (ofF k).2) := by
 unfold qbD.f qbD.b ofF
 by_cases h1 : k < 1
 ·simp [h1]
 ·by_cases h2 : k > 9
  ·simp [h1, h2]
  ·have := qog qhA (⟨#[]⟩, 0) k.toNat (by show k.toNat < 10; omega)
   rw [Int.toNat_of_nonneg (by omega)] at this
   simp [h1, h2, this]
theorem Zx.pure (had : Bool) (v lo hi : Int) : Zx.f 0 had v lo hi = some (zH had v lo hi) := by
 unfold Zx.f Zx.b zH
 cases had
 ·rfl
 ·by_cases h : v ≥ lo <;> simp [h]
theorem qas (b : LF) : zn b = true ↔ b.length < 281474976710656 ∧ ∀ x ∈ b, x.2.length < 281474976710656 := by
 unfold zn
 simp [List.all_eq_true]
theorem zx.loop (qa : Nat) (b : LF) (hl : zn b = true) : ∀ (k i : Nat) (qe size : Int), i ≤ b.length → b.length - i < k → 0 ≤ size → size ≤ 4096 →
  zx.l5 qa b k qe size (b.length : Int) (i : Int) = some (qen (b.drop i) qe size) := by
 obtain ⟨hb, hx⟩ := (qas b).1 hl
 intro k
 induction k with
 | zero => intro i qe size h1 h2; omega
 | succ k ih =>
  intro i qe size h1 h2 h3 h4
  rw [zx.l5]
  unfold zx.b5
  by_cases hi : i < b.length
  ·rw [if_pos (by simp; omega), Qn, List.getElem?_eq_getElem hi]
   simp only
   rw [List.drop_eq_getElem_cons hi]
   have hxl := hx b[i] (List.getElem_mem hi)
   unfold qen
   rw [qK (size + _) (by omega) (by omega), qK ((i : Int) + 1) (by omega) (by omega)]
   by_cases c1 : b[i].1 < qe
   ·simp [c1]
   ·by_cases c2 : b[i].1 > 255
    ·simp [c1, c2]
    ·by_cases c3 : size + (b[i].2.length : Int) > 4096
     ·simp [c1, c2, c3]
     ·simp only [c1, c2, c3, decide_false, Bool.or_self, Bool.false_eq_true, if_false]
      exact ih (i + 1) _ _ (by omega) (by omega) (by omega) (by omega)
  ·rw [if_neg (by simp; omega)]
   rw [List.drop_of_length_le (by omega)]
   rfl
theorem zx.pure (b : LF) (hl : zn b = true) : zx.f (b.length + 1) b = some (qbo b) := by
 unfold zx.f zx.b qbo
 split
 ·rfl
 ·exact zx.loop _ b hl _ 0 32 0 (by omega) (by omega) (by omega) (by omega)
theorem ZM.pure (id inc st lo hi : Int) (cut : Bool) (bag : LF) (hl : zn bag = true) : ZM.f 0 id inc st lo hi cut bag = some (qdp id inc st lo hi cut bag) := by
 unfold ZM.f ZM.b qdp
 rw [veil_eq, hl]
 by_cases c1 : id < 0
 ·simp [c1]
 by_cases c2 : id > 4095
 ·simp [c1, c2]
 by_cases c3 : inc < 0
 ·simp [c1, c2, c3]
 by_cases c4 : inc > 281474976710655
 ·simp [c1, c2, c3, c4]
 by_cases c5 : st < 0
 ·simp [c1, c2, c3, c4, c5]
 by_cases c6 : st > 3
 ·simp [c1, c2, c3, c4, c5, c6]
 simp only [c1, c2, c3, c4, c5, c6, decide_false, Bool.or_self, Bool.false_eq_true, if_false, if_true]
 cases okS lo hi <;> cases qbo bag <;> cases cut <;> simp
 split <;> simp_all
theorem qe8 : SumDet qdc := zi fun _ _ _ _ => by
 unfold qdc
 simp only
 split
 ·first | rfl | (split <;> rfl)
 ·rfl
theorem qgw : SumOk Tryz.prog 29 qdc := by
 have hE : EnvOk Tryz.prog qgY := env_ok (l := []) th_ok qU trivial _
 refine sum_ok hE Tryz.func29 rfl (by kernel_rfl) qdc [.raw] Zw.k ?_
 intro R avs qj κ r h
 unfold qdc at h
 simp only at h
 split at h
 ·rename_i lo hi
  refine ⟨0, _, _, _, (Zw.eq (0) lo hi).trans (Zw.pure lo hi), ?_, h⟩
  intro rs ros hk
  unfold Zw.k at hk
  split at hk
  ·first | (cases hk; exact ⟨rfl, rfl⟩) | (rw [← Option.some.inj hk]; exact ⟨rfl, rfl⟩)
  ·cases hk
 ·cases h
theorem qb1 : SumDet Z2 := zi fun _ _ _ _ => by
 unfold Z2
 simp only
 split
 ·first | rfl | (split <;> rfl)
 ·rfl
theorem qcA : SumOk Tryz.prog 62 Z2 := by
 have hE : EnvOk Tryz.prog qil := env_ok (l := [(29, qdc)]) th_ok qU ⟨⟨qgw, qe8⟩, trivial⟩ _
 refine sum_ok hE Tryz.func62 rfl (by kernel_rfl) Z2 [.raw] ZL.k ?_
 intro R avs qj κ r h
 unfold Z2 at h
 simp only at h
 split at h
 ·rename_i a b
  refine ⟨0, _, _, _, (ZL.eq (0) a b).trans (ZL.pure a b), ?_, h⟩
  intro rs ros hk
  unfold ZL.k at hk
  split at hk
  ·first | (cases hk; exact ⟨rfl, rfl⟩) | (rw [← Option.some.inj hk]; exact ⟨rfl, rfl⟩)
  ·cases hk
 ·cases h
theorem qkt : SumDet qdb := zi fun _ _ _ _ => by
 unfold qdb
 simp only
 split
 ·first | rfl | (split <;> rfl)
 ·rfl
theorem qlt : SumOk Tryz.prog 103 qdb := by
 have hE : EnvOk Tryz.prog qip := env_ok (l := []) th_ok qU trivial _
 refine sum_ok hE Tryz.func103 rfl (by kernel_rfl) qdb [.raw] qbp.k ?_
 intro R avs qj κ r h
 unfold qdb at h
 simp only at h
 split at h
 ·skip
  refine ⟨0, _, _, _, (qbp.eq (0) ()).trans (rfl), ?_, h⟩
  intro rs ros hk
  unfold qbp.k at hk
  split at hk
  ·first | (cases hk; exact ⟨rfl, rfl⟩) | (rw [← Option.some.inj hk]; exact ⟨rfl, rfl⟩)
  ·cases hk
 ·cases h
theorem qjO : SumDet qfb := zi fun _ _ _ _ => by
 unfold qfb
 simp only
 split
 ·first | rfl | (split <;> rfl)
 ·rfl
theorem qkP : SumOk Tryz.prog 85 qfb := by
 have hE : EnvOk Tryz.prog qld := env_ok (l := [(103, qdb)]) th_ok qU ⟨⟨qlt, qkt⟩, trivial⟩ _
 refine sum_ok hE Tryz.func85 rfl (by kernel_rfl) qfb [.dat (.pair .str (.int .u8)) true] qbD.k ?_
 intro R avs qj κ r h
 unfold qfb at h
 simp only at h
 split at h
 ·rename_i k
  refine ⟨0, _, _, _, (qbD.eq (0) k).trans (qbD.pure k), ?_, h⟩
  intro rs ros hk
  unfold qbD.k at hk
  split at hk
  ·first | (cases hk; exact ⟨rfl, rfl⟩) | (rw [← Option.some.inj hk]; exact ⟨rfl, rfl⟩)
  ·cases hk
 ·cases h
theorem qf0 : SumDet qbb := zi fun _ _ _ _ => by
 unfold qbb
 simp only
 split
 ·first | rfl | (split <;> rfl)
 ·rfl
theorem qgK : SumOk Tryz.prog 86 qbb := by
 have hE : EnvOk Tryz.prog qgZ := env_ok (l := []) th_ok qU trivial _
 refine sum_ok hE Tryz.func86 rfl (by kernel_rfl) qbb [.raw] Zx.k ?_
 intro R avs qj κ r h
 unfold qbb at h
 simp only at h
 split at h
 ·rename_i had v lo hi
  refine ⟨0, _, _, _, (Zx.eq (0) had v lo hi).trans (Zx.pure had v lo hi), ?_, h⟩
  intro rs ros hk
  unfold Zx.k at hk
  split at hk
  ·first | (cases hk; exact ⟨rfl, rfl⟩) | (rw [← Option.some.inj hk]; exact ⟨rfl, rfl⟩)
  ·cases hk
 ·cases h
theorem qlO : SumDet qd9 := zi fun _ _ _ _ => by
 unfold qd9
 simp only
 split
 ·first | rfl | (split <;> rfl)
 ·rfl
theorem qmI : SumOk Tryz.prog 105 qd9 := by
 have hE : EnvOk Tryz.prog qfz := env_ok (l := []) th_ok qU trivial _
 refine sum_ok hE Tryz.func105 rfl (by kernel_rfl) qd9 [.raw] zx.k ?_
 intro R avs qj κ r h
 unfold qd9 at h
 simp only at h
 split at h
 ·rename_i b
  split at h
  case isFalse => cases h
  rename_i hl
  refine ⟨b.length + 1, _, _, _, (zx.eq (b.length + 1) b).trans (zx.pure b hl), ?_, h⟩
  intro rs ros hk
  unfold zx.k at hk
  split at hk
  ·first | (cases hk; exact ⟨rfl, rfl⟩) | (rw [← Option.some.inj hk]; exact ⟨rfl, rfl⟩)
  ·cases hk
 ·cases h
theorem qlB : SumDet qd1 := zi fun _ _ _ _ => by
 unfold qd1
 simp only
 split
 ·first | rfl | (split <;> rfl)
 ·rfl
theorem qmA : SumOk Tryz.prog 95 qd1 := by
 have hE : EnvOk Tryz.prog qin := env_ok (l := [(29, qdc), (105, qd9)]) th_ok qU ⟨⟨qgw, qe8⟩, ⟨qmI, qlO⟩, trivial⟩ _
 refine sum_ok hE Tryz.func95 rfl (by kernel_rfl) qd1 [.raw] ZM.k ?_
 intro R avs qj κ r h
 unfold qd1 at h
 simp only at h
 split at h
 ·rename_i rid zq rst rlo rhi zr zm
  split at h
  case isFalse => cases h
  rename_i hl
  refine ⟨0, _, _, _, (ZM.eq (0) rid zq rst rlo rhi zr zm).trans (ZM.pure rid zq rst rlo rhi zr zm hl), ?_, h⟩
  intro rs ros hk
  unfold ZM.k at hk
  split at hk
  ·first | (cases hk; exact ⟨rfl, rfl⟩) | (rw [← Option.some.inj hk]; exact ⟨rfl, rfl⟩)
  ·cases hk
 ·cases h
def qt (k p : Int) : Bool := if decide (p ≥ 0) && decide (p ≤ 4) then (bits BinOp.and .u8 (Int.fdiv (ofF k).2 ((2 : Int) ^ (Min.min (Int.toNat p) (IntKind.bits .u8)))) (1 : Int)) == (1 : Int) else false
def ZF (qh qQ qB qc : Int) : Bool :=
 if !zH (qt qh 2) qQ 0 281474976710655 || !zH (qt qh 2) qB 0 65535 then false else
 if qB == 0 && (qQ != 0 || qh == 9) then false else qc == 0 || (qt qh 3 && (decide (qc > 0) && decide (qc < qB)))
def qjI (r : (Int × Int × Int × (Int × Int) × Bool × LF)) : Bool := zn r.2.2.2.2.2
def za (l : LR) : Bool := decide (l.length < 281474976710656) && l.all qjI
def zu (r : (Int × Int × Int × (Int × Int) × Bool × LF)) : Bool := qdp r.1 r.2.1 r.2.2.1 r.2.2.2.1.1 r.2.2.2.1.2 r.2.2.2.2.1 r.2.2.2.2.2
def qcE : LR → Int → Int → Int × Int
 | [], i, qe => (i, qe)
 | r :: l, i, qe => if !zu r || decide (r.1 ≤ qe) then (i, r.1) else qcE l (i + 1) r.1
def QC (l : LR) : Bool := (qcE l 0 (-1)).1 == (l.length : Int)
def qR (qh qv inc lo hi seq qk qQ qB qc : Int) (qg : LR) : Bool :=
 if (ofF qh).1.toList == (⟨#[]⟩ : ByteArray).toList || (decide (qv < 0) || (decide (qv > 4095) || (decide (inc < 0) || (decide (inc > 281474976710655) || !okS lo hi)))) then false else
 if !zH (qt qh 0) seq 0 65535 || (!zH (qt qh 1) qk (if qh == 3 then 1 else 0) (if qh == 3 then 3 else 4095) || !ZF qh qQ qB qc) then false else
 if !qt qh 4 then qg.length == 0 else decide ((qg.length : Int) ≤ 255) && QC qg
def qft : LR → Bool
 | [] => true
 | r :: l => if decide (r.2.1 > 65535) || decide ((r.2.2.2.2.2.length : Int) > 0) then false else qft l
def qak (qh qv inc lo hi seq qk qQ qB qc : Int) (qg : LR) : Bool :=
 if !qR qh qv inc lo hi seq qk qQ qB qc qg || (qh == 9 || qB != 0) then false else qft qg
def qgz (qh qv inc lo hi seq qk qQ qB qc : Int) (qg : LR) : Bool :=
 if !qR qh qv inc lo hi seq qk qQ qB qc qg || (qh == 9 || (qQ != 0 || (qB != 0 || qc != 0))) then false else qft qg
def qeN (st lo hi : Int) (cut : Bool) : Int :=
 let v := bits .or .i64 (bits .or .i64 st (IntKind.wrap .i64 (lo * 4))) (IntKind.wrap .i64 (hi * 16))
 if cut then bits .or .i64 v 64 else v
def be : Nat → Int → List Int
 | 0, _ => []
 | n + 1, v => be n (v / 256) ++ [v % 256]
def zN (n v : Int) : Bool := decide (1 ≤ n) && (decide (n ≤ 7) && (decide (0 ≤ v) && decide (v < 256 ^ n.toNat)))
def ZI : Den.Sum := ⟨[.raw, .raw], fun qA qj κ => match qA, qj with
 | [.d (.int .i64) k, .d (.int .i64) p], [] => κ [.d .bool (qt k p)] []
 | _, _ => none⟩
def qdh : Den.Sum := ⟨[.dat (.pair tQi (.pair tQi (.pair tQi (.pair (.pair tQi tQi) (.pair tQi (.pair tQi (.pair tQi (.pair tQi (.pair tQi (.sl tQr)))))))))) true], fun qA qj κ => match qA, qj with
 | [.agg [.d (.int .i64) qw, .d (.int .i64) qm, .d (.int .i64) qE, .d (.int .i64) mlo, .d (.int .i64) mhi, .d (.int .i64) qJ, .d (.int .i64) qi, .d (.int .i64) qz, .d (.int .i64) qo, .d (.int .i64) qy, .d (.sl (.pair (.int .i64) (.pair (.int .i64) (.pair (.int .i64) (.pair (.pair (.int .i64) (.int .i64)) (.pair .bool (.sl (.pair (.int .i64) (.sl (.int .u8)))))))))) qn]], [] => κ [.d .bool (ZF qw qz qo qy)] []
 | _, _ => none⟩
def qdX : Den.Sum := ⟨[.dat tQr true, .raw], fun qA qj κ => match qA, qj with
 | [.agg [.d (.int .i64) rid, .d (.int .i64) zq, .d (.int .i64) rst, .d (.int .i64) rlo, .d (.int .i64) rhi, .d .bool zr, .d (.sl (.pair (.int .i64) (.sl (.int .u8)))) zm], .ptr 0 0], [.box [.d (.int .i64) qe]] => if zn zm = true then κ [.d .bool (!qdp rid zq rst rlo rhi zr zm || decide (rid ≤ qe))] [.box [.d (.int .i64) rid]] else none
 | _, _ => none⟩
def qcw : Den.Sum := ⟨[.dat (.sl tQr) false, .raw], fun qA qj κ => match qA, qj with
 | [.d (.sl (.pair (.int .i64) (.pair (.int .i64) (.pair (.int .i64) (.pair (.pair (.int .i64) (.int .i64)) (.pair .bool (.sl (.pair (.int .i64) (.sl (.int .u8)))))))))) l, .fn (.func 94) [] [.ptr 0 0]], [.box [.d (.int .i64) qe]] => if za l = true then κ [.d (.int .i64) (qcE l 0 qe).1] [.box [.d (.int .i64) (qcE l 0 qe).2]] else none
 | _, _ => none⟩
def qax : Den.Sum := ⟨[.dat (.sl tQr) false], fun qA qj κ => match qA, qj with
 | [.d (.sl (.pair (.int .i64) (.pair (.int .i64) (.pair (.int .i64) (.pair (.pair (.int .i64) (.int .i64)) (.pair .bool (.sl (.pair (.int .i64) (.sl (.int .u8)))))))))) l], [] => if za l = true then κ [.d .bool (QC l)] [] else none
 | _, _ => none⟩
def QI : Den.Sum := ⟨[.dat (.pair tQi (.pair tQi (.pair tQi (.pair (.pair tQi tQi) (.pair tQi (.pair tQi (.pair tQi (.pair tQi (.pair tQi (.sl tQr)))))))))) true], fun qA qj κ => match qA, qj with
 | [.agg [.d (.int .i64) qw, .d (.int .i64) qm, .d (.int .i64) qE, .d (.int .i64) mlo, .d (.int .i64) mhi, .d (.int .i64) qJ, .d (.int .i64) qi, .d (.int .i64) qz, .d (.int .i64) qo, .d (.int .i64) qy, .d (.sl (.pair (.int .i64) (.pair (.int .i64) (.pair (.int .i64) (.pair (.pair (.int .i64) (.int .i64)) (.pair .bool (.sl (.pair (.int .i64) (.sl (.int .u8)))))))))) qn]], [] => if za qn = true then κ [.d .bool (qR qw qm qE mlo mhi qJ qi qz qo qy qn)] [] else none
 | _, _ => none⟩
def qb0 : Den.Sum := ⟨[.dat (.pair tQi (.pair tQi (.pair tQi (.pair (.pair tQi tQi) (.pair tQi (.pair tQi (.pair tQi (.pair tQi (.pair tQi (.sl tQr)))))))))) true], fun qA qj κ => match qA, qj with
 | [.agg [.d (.int .i64) qw, .d (.int .i64) qm, .d (.int .i64) qE, .d (.int .i64) mlo, .d (.int .i64) mhi, .d (.int .i64) qJ, .d (.int .i64) qi, .d (.int .i64) qz, .d (.int .i64) qo, .d (.int .i64) qy, .d (.sl (.pair (.int .i64) (.pair (.int .i64) (.pair (.int .i64) (.pair (.pair (.int .i64) (.int .i64)) (.pair .bool (.sl (.pair (.int .i64) (.sl (.int .u8)))))))))) qn]], [] => if za qn = true then κ [.d .bool (qak qw qm qE mlo mhi qJ qi qz qo qy qn)] [] else none
 | _, _ => none⟩
def qdd : Den.Sum := ⟨[.dat tQr true], fun qA qj κ => match qA, qj with
 | [.agg [.d (.int .i64) rid, .d (.int .i64) zq, .d (.int .i64) rst, .d (.int .i64) rlo, .d (.int .i64) rhi, .d .bool zr, .d (.sl (.pair (.int .i64) (.sl (.int .u8)))) zm]], [] => κ [.d (.int .i64) (qeN rst rlo rhi zr)] []
 | _, _ => none⟩
def qbX : Den.Sum := ⟨[.raw, .raw], fun qA qj κ => match qA, qj with
 | [.d (.int .i64) n, .d (.int .i64) v], [] => if zN n v = true then κ [.d .bool true] [] else none
 | _, _ => none⟩
def qiq : Env := ⟨th, gam [(71, ZI), (86, qbb)], fun i => ⟨[], [], []⟩⟩
def ZO.k (rs : List AV) (os : List Den.Obj) : Option Bool :=
 match rs, os with
 | [.d .bool r0], [] => some r0
 | _, _ => none
def ZO.b (qw qm qE mlo mhi qJ qi qz qo qy : Int) (qn : LR) : Option Bool :=
 (if (!(zH (qt qw (2 : Int)) qz (0 : Int) (veil (281474976710655 : Int)))) then some (false) else (if (!(zH (qt qw (2 : Int)) qo (0 : Int) (65535 : Int))) then some (false) else (if (qo == (0 : Int)) then (if (qz != (0 : Int)) then some (false) else (if (qw == (9 : Int)) then some (false) else (if (qy == (0 : Int)) then some (true) else (if (qt qw (3 : Int)) then (if (decide (qy > (0 : Int))) then some ((decide (qy < qo))) else some (false)) else some (false))))) else (if (qy == (0 : Int)) then some (true) else (if (qt qw (3 : Int)) then (if (decide (qy > (0 : Int))) then some ((decide (qy < qo))) else some (false)) else some (false))))))
def ZO.f (qa : Nat) (qw qm qE mlo mhi qJ qi qz qo qy : Int) (qn : LR) : Option Bool := ZO.b qw qm qE mlo mhi qJ qi qz qo qy qn
theorem ZO.eq (qa : Nat) (qw qm qE mlo mhi qJ qi qz qo qy : Int) (qn : LR) : (denF qiq loopN qa Tryz.f87 [.raw] [.agg [.d tQi qw, .d tQi qm, .d tQi qE, .d tQi mlo, .d tQi mhi, .d tQi qJ, .d tQi qi, .d tQi qz, .d tQi qo, .d tQi qy, .d (.sl tQr) qn]] [] ZO.k) = ZO.f qa qw qm qE mlo mhi qJ qi qz qo qy qn := by
 kernel_rfl
def qne : Env := ⟨th, gam [(95, qd1)], fun i => ⟨[], [], []⟩⟩
def qc0.k (rs : List AV) (os : List Den.Obj) : Option (Bool × Int) :=
 match rs, os with
 | [.d .bool r0], [.box [.d (.int .i64) r1]] => some (r0, r1)
 | _, _ => none
def qc0.b (rid zq rst rlo rhi : Int) (zr : Bool) (zm : LF) (qe : Int) : Option (Bool × Int) :=
 (if (zn (zq, (rst, ((rlo, rhi), (zr, zm)))).2.2.2.2) then (if (!(qdp rid (zq, (rst, ((rlo, rhi), (zr, zm)))).1 (zq, (rst, ((rlo, rhi), (zr, zm)))).2.1 (zq, (rst, ((rlo, rhi), (zr, zm)))).2.2.1.1 (zq, (rst, ((rlo, rhi), (zr, zm)))).2.2.1.2 (zq, (rst, ((rlo, rhi), (zr, zm)))).2.2.2.1 (zq, (rst, ((rlo, rhi), (zr, zm)))).2.2.2.2)) then some (true, rid) else some ((decide (rid ≤ qe)), rid)) else none)
def qc0.f (qa : Nat) (rid zq rst rlo rhi : Int) (zr : Bool) (zm : LF) (qe : Int) : Option (Bool × Int) := qc0.b rid zq rst rlo rhi zr zm qe
theorem qc0.eq (qa : Nat) (rid zq rst rlo rhi : Int) (zr : Bool) (zm : LF) (qe : Int) : (denF qne loopN qa Tryz.f94 [.raw] [.agg [.d tQi rid, .d tQi zq, .d tQi rst, .d tQi rlo, .d tQi rhi, .d .bool zr, .d (.sl (.pair tQi (.sl (.int .u8)))) zm], .ptr 0 0] [.box [.d tQi qe]] qc0.k) = qc0.f qa rid zq rst rlo rhi zr zm qe := by
 kernel_rfl
def qiN : Env := ⟨th, gam [(94, qdX)], fun i => if i = 2 then ⟨[0, 1, 7, 8, 9], [], []⟩ else ⟨[], [], []⟩⟩
def Qr.k (rs : List AV) (os : List Den.Obj) : Option (Int × Int) :=
 match rs, os with
 | [.d (.int .i64) r0], [.box [.d (.int .i64) r1]] => some (r0, r1)
 | _, _ => none
def Qr.s2 (l : LR) (qe x0 x1 x2 : Int) : St := ⟨[.d (.sl tQr) (l), .fn (.func 94) [] [.ptr 0 0], dD, dD, dD, dD, dD, .d (.sl tQr) (l), .d tQi x0, .d tQi x1, dD, dD, dD, dD, dD, dD, dD, dD, dD, dD, .dead], ofL [(0, .box [.d tQi x2])], 1⟩
def Qr.p2 (qa : Nat) (l : LR) (qe : Int) (k : Nat) := fun x0 x1 x2 => lp qiN qa Tryz.f93 [.raw] 1 Qr.k 2 [] k (Qr.s2 l qe x0 x1 x2)
def Qr.b2 (l : LR) (qe : Int) (A2 : Int → Int → Int → Option (Int × Int)) (x0 : Int) (x1 : Int) (x2 : Int) : Option (Int × Int) :=
 (if (decide (x1 < x0)) then (match (idx l x1) with | none => none | some y3 => (if (zn (y3.2.1, (y3.2.2.1, ((y3.2.2.2.1.1, y3.2.2.2.1.2), (y3.2.2.2.2.1, y3.2.2.2.2.2)))).2.2.2.2) then (if ((!(qdp y3.1 (y3.2.1, (y3.2.2.1, ((y3.2.2.2.1.1, y3.2.2.2.1.2), (y3.2.2.2.2.1, y3.2.2.2.2.2)))).1 (y3.2.1, (y3.2.2.1, ((y3.2.2.2.1.1, y3.2.2.2.1.2), (y3.2.2.2.2.1, y3.2.2.2.2.2)))).2.1 (y3.2.1, (y3.2.2.1, ((y3.2.2.2.1.1, y3.2.2.2.1.2), (y3.2.2.2.2.1, y3.2.2.2.2.2)))).2.2.1.1 (y3.2.1, (y3.2.2.1, ((y3.2.2.2.1.1, y3.2.2.2.1.2), (y3.2.2.2.2.1, y3.2.2.2.2.2)))).2.2.1.2 (y3.2.1, (y3.2.2.1, ((y3.2.2.2.1.1, y3.2.2.2.1.2), (y3.2.2.2.2.1, y3.2.2.2.2.2)))).2.2.2.1 (y3.2.1, (y3.2.2.1, ((y3.2.2.2.1.1, y3.2.2.2.1.2), (y3.2.2.2.2.1, y3.2.2.2.2.2)))).2.2.2.2)) || (decide (y3.1 ≤ x2))) then some (x1, y3.1) else A2 x0 (IntKind.wrap .i64 (x1 + (1 : Int))) y3.1) else none)) else some (((((List.length l)) : Nat) : Int), x2))
def Qr.l2 (qa : Nat) (l : LR) (qe : Int) : Nat → Int → Int → Int → Option (Int × Int)
 | 0, _, _, _ => none
 | k + 1, x0, x1, x2 => Qr.b2 l qe (Qr.l2 qa l qe k) x0 x1 x2
def Qr.b (l : LR) (qe : Int) (E2 : Int → Int → Int → Option (Int × Int)) : Option (Int × Int) :=
 E2 ((((List.length l)) : Nat) : Int) (0 : Int) qe
def Qr.f (qa : Nat) (l : LR) (qe : Int) : Option (Int × Int) := Qr.b l qe (Qr.l2 qa l qe qa)
theorem Qr.l2_eq (qa : Nat) (l : LR) (qe : Int) : ∀ k : Nat, Qr.p2 qa l qe k = Qr.l2 qa l qe k
 | 0 => by kernel_rfl
 | k + 1 => by
  refine Eq.trans (b := Qr.b2 l qe (Qr.p2 qa l qe k)) (by kernel_rfl) ?_
  rw [Qr.l2_eq qa l qe k]
  kernel_rfl
theorem Qr.eq (qa : Nat) (l : LR) (qe : Int) : (denF qiN loopN qa Tryz.f93 [.raw] [.d (.sl tQr) l, .fn (.func 94) [] [.ptr 0 0]] [.box [.d tQi qe]] Qr.k) = Qr.f qa l qe := by
 refine Eq.trans (b := Qr.b l qe (Qr.p2 qa l qe qa)) (by kernel_rfl) ?_
 rw [Qr.l2_eq qa l qe qa]
 kernel_rfl
def qkg : Env := ⟨th, gam [(93, qcw)], fun i => ⟨[], [], []⟩⟩
def qaU.k (rs : List AV) (os : List Den.Obj) : Option Bool :=
 match rs, os with
 | [.d .bool r0], [] => some r0
 | _, _ => none
def qaU.b (l : LR) : Option Bool :=
 (if (za l) then some (((qcE l (0 : Int) (-(1 : Int))).1 == ((((List.length l)) : Nat) : Int))) else none)
def qaU.f (qa : Nat) (l : LR) : Option Bool := qaU.b l
theorem qaU.eq (qa : Nat) (l : LR) : (denF qkg loopN qa Tryz.f79 [.raw] [.d (.sl tQr) l] [] qaU.k) = qaU.f qa l := by
 kernel_rfl
def qio : Env := ⟨th, gam [(85, qfb), (29, qdc), (86, qbb), (71, ZI), (87, qdh), (79, qax)], fun i => ⟨[], [], []⟩⟩
def ZN.k (rs : List AV) (os : List Den.Obj) : Option Bool :=
 match rs, os with
 | [.d .bool r0], [] => some r0
 | _, _ => none
def ZN.b (qw qm qE mlo mhi qJ qi qz qo qy : Int) (qn : LR) : Option Bool :=
 (if ((ByteArray.toList (ofF qw).1) == (ByteArray.toList (⟨([]).toArray⟩ : ByteArray))) then some (false) else (if (decide (qm < (0 : Int))) then some (false) else (if (decide (qm > (4095 : Int))) then some (false) else (if (decide (qE < (0 : Int))) then some (false) else (if (decide (qE > (veil (281474976710655 : Int)))) then some (false) else (if (!(okS mlo mhi)) then some (false) else (if (qw == (3 : Int)) then (if (!(zH (qt qw (0 : Int)) qJ (0 : Int) (65535 : Int))) then some (false) else (if (!(zH (qt qw (1 : Int)) qi (1 : Int) (3 : Int))) then some (false) else (if (!(ZF qw (qm, (qE, ((mlo, mhi), (qJ, (qi, (qz, (qo, (qy, qn)))))))).2.2.2.2.2.1 (qm, (qE, ((mlo, mhi), (qJ, (qi, (qz, (qo, (qy, qn)))))))).2.2.2.2.2.2.1 (qm, (qE, ((mlo, mhi), (qJ, (qi, (qz, (qo, (qy, qn)))))))).2.2.2.2.2.2.2.1)) then some (false) else (if (!(qt qw (4 : Int))) then some ((((((List.length qn)) : Nat) : Int) == (0 : Int))) else (if (decide (((((List.length qn)) : Nat) : Int) ≤ (255 : Int))) then (if (za qn) then some ((QC qn)) else none) else some (false)))))) else (if (!(zH (qt qw (0 : Int)) qJ (0 : Int) (65535 : Int))) then some (false) else (if (!(zH (qt qw (1 : Int)) qi (0 : Int) (4095 : Int))) then some (false) else (if (!(ZF qw (qm, (qE, ((mlo, mhi), (qJ, (qi, (qz, (qo, (qy, qn)))))))).2.2.2.2.2.1 (qm, (qE, ((mlo, mhi), (qJ, (qi, (qz, (qo, (qy, qn)))))))).2.2.2.2.2.2.1 (qm, (qE, ((mlo, mhi), (qJ, (qi, (qz, (qo, (qy, qn)))))))).2.2.2.2.2.2.2.1)) then some (false) else (if (!(qt qw (4 : Int))) then some ((((((List.length qn)) : Nat) : Int) == (0 : Int))) else (if (decide (((((List.length qn)) : Nat) : Int) ≤ (255 : Int))) then (if (za qn) then some ((QC qn)) else none) else some (false)))))))))))))
def ZN.f (qa : Nat) (qw qm qE mlo mhi qJ qi qz qo qy : Int) (qn : LR) : Option Bool := ZN.b qw qm qE mlo mhi qJ qi qz qo qy qn
theorem ZN.eq (qa : Nat) (qw qm qE mlo mhi qJ qi qz qo qy : Int) (qn : LR) : (denF qio loopN qa Tryz.f58 [.raw] [.agg [.d tQi qw, .d tQi qm, .d tQi qE, .d tQi mlo, .d tQi mhi, .d tQi qJ, .d tQi qi, .d tQi qz, .d tQi qo, .d tQi qy, .d (.sl tQr) qn]] [] ZN.k) = ZN.f qa qw qm qE mlo mhi qJ qi qz qo qy qn := by
 kernel_rfl
def qiS : Env := ⟨th, gam [(58, QI)], fun i => if i = 4 then ⟨[19, 20, 21], [], []⟩ else ⟨[], [], []⟩⟩
def Qw.k (rs : List AV) (os : List Den.Obj) : Option Bool :=
 match rs, os with
 | [.d .bool r0], [] => some r0
 | _, _ => none
def Qw.s4 (qw qm qE mlo mhi qJ qi qz qo qy : Int) (qn : LR) (x0 x1 : Int) : St := ⟨[dD, dD, dD, dD, dD, dD, dD, dD, dD, dD, dD, dD, dD, dD, dD, dD, dD, dD, dD, .d (.sl tQr) (qn), .d tQi x0, .d tQi x1, dD, dD, dD, dD, dD, dD, dD, dD, dD, dD, dD, dD, .dead], ofL [], 0⟩
def Qw.p4 (qa : Nat) (qw qm qE mlo mhi qJ qi qz qo qy : Int) (qn : LR) (k : Nat) := fun x0 x1 => lp qiS qa Tryz.f59 [.raw] 0 Qw.k 4 [] k (Qw.s4 qw qm qE mlo mhi qJ qi qz qo qy qn x0 x1)
def Qw.b4 (qw qm qE mlo mhi qJ qi qz qo qy : Int) (qn : LR) (A4 : Int → Int → Option Bool) (x0 x1 : Int) : Option Bool :=
 (if (decide (x1 < x0)) then (match (idx qn x1) with | none => none | some y2 => (if (decide (y2.2.1 > (65535 : Int))) then some (false) else (if (decide (((((List.length y2.2.2.2.2.2)) : Nat) : Int) > (0 : Int))) then some (false) else A4 x0 (IntKind.wrap .i64 (x1 + (1 : Int)))))) else some (true))
def Qw.l4 (qa : Nat) (qw qm qE mlo mhi qJ qi qz qo qy : Int) (qn : LR) : Nat → Int → Int → Option Bool
 | 0, _, _ => none
 | k + 1, x0, x1 => Qw.b4 qw qm qE mlo mhi qJ qi qz qo qy qn (Qw.l4 qa qw qm qE mlo mhi qJ qi qz qo qy qn k) x0 x1
def Qw.b (qw qm qE mlo mhi qJ qi qz qo qy : Int) (qn : LR) (E4 : Int → Int → Option Bool) : Option Bool :=
 (if (za (qm, (qE, ((mlo, mhi), (qJ, (qi, (qz, (qo, (qy, qn)))))))).2.2.2.2.2.2.2.2) then (if (!(qR qw (qm, (qE, ((mlo, mhi), (qJ, (qi, (qz, (qo, (qy, qn)))))))).1 (qm, (qE, ((mlo, mhi), (qJ, (qi, (qz, (qo, (qy, qn)))))))).2.1 (qm, (qE, ((mlo, mhi), (qJ, (qi, (qz, (qo, (qy, qn)))))))).2.2.1.1 (qm, (qE, ((mlo, mhi), (qJ, (qi, (qz, (qo, (qy, qn)))))))).2.2.1.2 (qm, (qE, ((mlo, mhi), (qJ, (qi, (qz, (qo, (qy, qn)))))))).2.2.2.1 (qm, (qE, ((mlo, mhi), (qJ, (qi, (qz, (qo, (qy, qn)))))))).2.2.2.2.1 (qm, (qE, ((mlo, mhi), (qJ, (qi, (qz, (qo, (qy, qn)))))))).2.2.2.2.2.1 (qm, (qE, ((mlo, mhi), (qJ, (qi, (qz, (qo, (qy, qn)))))))).2.2.2.2.2.2.1 (qm, (qE, ((mlo, mhi), (qJ, (qi, (qz, (qo, (qy, qn)))))))).2.2.2.2.2.2.2.1 (qm, (qE, ((mlo, mhi), (qJ, (qi, (qz, (qo, (qy, qn)))))))).2.2.2.2.2.2.2.2)) then some (false) else (if (qw == (9 : Int)) then some (false) else (if (qo != (0 : Int)) then some (false) else E4 ((((List.length qn)) : Nat) : Int) (0 : Int)))) else none)
def Qw.f (qa : Nat) (qw qm qE mlo mhi qJ qi qz qo qy : Int) (qn : LR) : Option Bool := Qw.b qw qm qE mlo mhi qJ qi qz qo qy qn (Qw.l4 qa qw qm qE mlo mhi qJ qi qz qo qy qn qa)
theorem Qw.l4_eq (qa : Nat) (qw qm qE mlo mhi qJ qi qz qo qy : Int) (qn : LR) : ∀ k : Nat, Qw.p4 qa qw qm qE mlo mhi qJ qi qz qo qy qn k = Qw.l4 qa qw qm qE mlo mhi qJ qi qz qo qy qn k
 | 0 => by kernel_rfl
 | k + 1 => by
  refine Eq.trans (b := Qw.b4 qw qm qE mlo mhi qJ qi qz qo qy qn (Qw.p4 qa qw qm qE mlo mhi qJ qi qz qo qy qn k)) (by kernel_rfl) ?_
  rw [Qw.l4_eq qa qw qm qE mlo mhi qJ qi qz qo qy qn k]
  kernel_rfl
theorem Qw.eq (qa : Nat) (qw qm qE mlo mhi qJ qi qz qo qy : Int) (qn : LR) : (denF qiS loopN qa Tryz.f59 [.raw] [.agg [.d tQi qw, .d tQi qm, .d tQi qE, .d tQi mlo, .d tQi mhi, .d tQi qJ, .d tQi qi, .d tQi qz, .d tQi qo, .d tQi qy, .d (.sl tQr) qn]] [] Qw.k) = Qw.f qa qw qm qE mlo mhi qJ qi qz qo qy qn := by
 refine Eq.trans (b := Qw.b qw qm qE mlo mhi qJ qi qz qo qy qn (Qw.p4 qa qw qm qE mlo mhi qJ qi qz qo qy qn qa)) (by kernel_rfl) ?_
 rw [Qw.l4_eq qa qw qm qE mlo mhi qJ qi qz qo qy qn qa]
 kernel_rfl
def qk7 : Env := ⟨th, gam [], fun i => ⟨[], [], []⟩⟩
def qbx.k (rs : List AV) (os : List Den.Obj) : Option Int :=
 match rs, os with
 | [.d (.int .i64) r0], [] => some r0
 | _, _ => none
def qbx.b (rid zq rst rlo rhi : Int) (zr : Bool) (zm : LF) : Option Int :=
 (if zr then some ((bits BinOp.or .i64 (bits BinOp.or .i64 (bits BinOp.or .i64 rst (IntKind.wrap .i64 (rlo * ((2 : Int) ^ (Min.min (Int.toNat (2 : Int)) (IntKind.bits .i64)))))) (IntKind.wrap .i64 (rhi * ((2 : Int) ^ (Min.min (Int.toNat (4 : Int)) (IntKind.bits .i64)))))) (64 : Int))) else some ((bits BinOp.or .i64 (bits BinOp.or .i64 rst (IntKind.wrap .i64 (rlo * ((2 : Int) ^ (Min.min (Int.toNat (2 : Int)) (IntKind.bits .i64)))))) (IntKind.wrap .i64 (rhi * ((2 : Int) ^ (Min.min (Int.toNat (4 : Int)) (IntKind.bits .i64))))))))
def qbx.f (qa : Nat) (rid zq rst rlo rhi : Int) (zr : Bool) (zm : LF) : Option Int := qbx.b rid zq rst rlo rhi zr zm
theorem qbx.eq (qa : Nat) (rid zq rst rlo rhi : Int) (zr : Bool) (zm : LF) : (denF qk7 loopN qa Tryz.f63 [.raw] [.agg [.d tQi rid, .d tQi zq, .d tQi rst, .d tQi rlo, .d tQi rhi, .d .bool zr, .d (.sl (.pair tQi (.sl (.int .u8)))) zm]] [] qbx.k) = qbx.f qa rid zq rst rlo rhi zr zm := by
 kernel_rfl
theorem qaW.pure (k p : Int) : qaW.f 0 k p = some (qt k p) := by
 unfold qaW.f qaW.b qt
 by_cases h1 : p ≥ 0
 ·by_cases h2 : p ≤ 4
  ·rw [if_pos (by simpa using h1), if_pos (by simpa using h2), if_neg (by omega), if_pos (by simp; omega)]
  ·simp [h1, h2]
 ·simp [h1]
theorem ZO.pure (qh qv inc lo hi seq qk qQ qB qc : Int) (qg : LR) : ZO.f 0 qh qv inc lo hi seq qk qQ qB qc qg = some (ZF qh qQ qB qc) := by
 unfold ZO.f ZO.b ZF
 rw [veil_eq]
 cases zH (qt qh 2) qQ 0 281474976710655
 ·simp
 cases zH (qt qh 2) qB 0 65535
 ·simp
 simp only [Bool.not_true, Bool.false_eq_true, if_false, Bool.or_self]
 by_cases h1 : qB = 0 <;> by_cases h2 : qQ = 0 <;> by_cases h3 : qh = 9 <;> by_cases h4 : qc = 0 <;> cases qt qh 3 <;> by_cases h5 : qc > 0 <;> simp [h1, h2, h3, h4, h5]
theorem qc0.pure (id inc st lo hi : Int) (cut : Bool) (bag : LF) (qe : Int) (hl : zn bag = true) : qc0.f 0 id inc st lo hi cut bag qe = some (!qdp id inc st lo hi cut bag || decide (id ≤ qe), id) := by
 unfold qc0.f qc0.b
 dsimp only
 rw [hl]
 cases qdp id inc st lo hi cut bag <;> simp
theorem Zk (l : LR) : za l = true ↔ l.length < 281474976710656 ∧ ∀ r ∈ l, zn r.2.2.2.2.2 = true := by
 unfold za
 simp [List.all_eq_true, qjI]
theorem Qr.loop (qa : Nat) (l : LR) (l0 : Int) (hl : za l = true) : ∀ (k i : Nat) (qe : Int), i ≤ l.length → l.length - i < k →
  Qr.l2 qa l l0 k (l.length : Int) (i : Int) qe = some (qcE (l.drop i) (i : Int) qe) := by
 obtain ⟨hb, hx⟩ := (Zk l).1 hl
 intro k
 induction k with
 | zero => intro i qe h1 h2; omega
 | succ k ih =>
  intro i qe h1 h2
  rw [Qr.l2]
  unfold Qr.b2
  by_cases hi : i < l.length
  ·rw [if_pos (by simp; omega), Qn, List.getElem?_eq_getElem hi]
   dsimp only
   rw [List.drop_eq_getElem_cons hi, hx l[i] (List.getElem_mem hi)]
   unfold qcE zu
   rw [if_pos rfl, qK ((i : Int) + 1) (by omega) (by omega)]
   split
   ·rfl
   ·exact ih (i + 1) _ (by omega) (by omega)
  ·rw [if_neg (by simp; omega)]
   have : i = l.length := by omega
   subst this
   rw [List.drop_of_length_le (by omega)]
   rfl
theorem Qr.pure (l : LR) (qe : Int) (hl : za l = true) : Qr.f (l.length + 1) l qe = some ((qcE l 0 qe).1, (qcE l 0 qe).2) := by
 unfold Qr.f Qr.b
 exact Qr.loop _ l qe hl _ 0 qe (by omega) (by omega)
theorem qaU.pure (l : LR) (hl : za l = true) : qaU.f 0 l = some (QC l) := by
 unfold qaU.f qaU.b QC
 rw [hl]; rfl
theorem ZN.pure (qh qv inc lo hi seq qk qQ qB qc : Int) (qg : LR) (hl : za qg = true) : ZN.f 0 qh qv inc lo hi seq qk qQ qB qc qg = some (qR qh qv inc lo hi seq qk qQ qB qc qg) := by
 unfold ZN.f ZN.b qR
 rw [veil_eq, hl]
 dsimp only
 cases h0 : ((ofF qh).1.toList == (⟨[].toArray⟩ : ByteArray).toList)
 case true => simp [h0]
 by_cases c1 : qv < 0
 ·simp [h0, c1]
 by_cases c2 : qv > 4095
 ·simp [h0, c1, c2]
 by_cases c3 : inc < 0
 ·simp [h0, c1, c2, c3]
 by_cases c4 : inc > 281474976710655
 ·simp [h0, c1, c2, c3, c4]
 cases h1 : okS lo hi
 ·simp [h0, c1, c2, c3, c4]
 simp only [h0, c1, c2, c3, c4, decide_false, Bool.or_self, Bool.not_true, Bool.false_eq_true, if_false]
 cases zH (qt qh 0) seq 0 65535
 ·by_cases h3 : qh = 3 <;> simp [h3]
 by_cases h3 : qh = 3
 ·subst h3
  simp only [beq_self_eq_true, if_true]
  cases zH (qt 3 1) qk 1 3 <;> cases ZF 3 qQ qB qc <;> cases qt 3 4 <;> simp
  ·exact Bool.eq_iff_iff.2 (by simp)
  ·split
   ·simp_all
   ·simp_all; omega
 ·have h3' : (qh == 3) = false := by simpa using h3
  simp only [h3', Bool.false_eq_true, if_false]
  cases zH (qt qh 1) qk 0 4095 <;> cases ZF qh qQ qB qc <;> cases qt qh 4 <;> simp
  ·exact Bool.eq_iff_iff.2 (by simp)
  ·split
   ·simp_all
   ·simp_all; omega
theorem Qw.loop (qa : Nat) (qh qv inc lo hi seq qk qQ qB qc : Int) (l : LR) (hl : l.length < 281474976710656) : ∀ (k i : Nat), i ≤ l.length → l.length - i < k → Qw.l4 qa qh qv inc lo hi seq qk qQ qB qc l k (l.length : Int) (i : Int) = some (qft (l.drop i)) := by
 intro k
 induction k with
 | zero => intro i h1 h2; omega
 | succ k ih =>
  intro i h1 h2
  rw [Qw.l4]
  unfold Qw.b4
  by_cases hi : i < l.length
  ·rw [if_pos (by simp; omega), Qn, List.getElem?_eq_getElem hi]
   dsimp only
   rw [List.drop_eq_getElem_cons hi, qK ((i : Int) + 1) (by omega) (by omega)]
   unfold qft
   by_cases c1 : l[i].2.1 > 65535
   ·simp [c1]
   ·by_cases c2 : ((l[i].2.2.2.2.2.length : Nat) : Int) > 0
    ·rw [if_neg (by simpa using c1), if_pos (by simpa using c2), if_pos (by simp; right; simpa using c2)]
    ·rw [if_neg (by simpa using c1), if_neg (by simpa using c2), if_neg (by simp; exact ⟨by omega, by simpa using c2⟩)]
     exact ih (i + 1) (by omega) (by omega)
  ·rw [if_neg (by simp; omega), List.drop_of_length_le (by omega)]
   rfl
theorem Qw.pure (qh qv inc lo hi seq qk qQ qB qc : Int) (qg : LR) (hl : za qg = true) : Qw.f (qg.length + 1) qh qv inc lo hi seq qk qQ qB qc qg = some (qak qh qv inc lo hi seq qk qQ qB qc qg) := by
 unfold Qw.f Qw.b qak
 dsimp only
 have := Qw.loop (qg.length + 1) qh qv inc lo hi seq qk qQ qB qc qg ((Zk qg).1 hl).1 (qg.length + 1) 0 (by omega) (by omega)
 rw [hl, if_pos rfl]
 cases qR qh qv inc lo hi seq qk qQ qB qc qg
 ·rfl
 ·by_cases h1 : qh = 9
  ·simp [h1]
  ·by_cases h2 : qB = 0
   ·subst h2
    have h1' : (qh == 9) = false := by simpa using h1
    simp only [h1', bne_self_eq_false, Bool.false_eq_true, if_false, Bool.or_self, Bool.not_true]
    exact this
   ·have h1' : (qh == 9) = false := by simpa using h1
    simp [h1', h2]
theorem qbx.pure (id inc st lo hi : Int) (cut : Bool) (bag : LF) : qbx.f 0 id inc st lo hi cut bag = some (qeN st lo hi cut) := by
 unfold qbx.f qbx.b qeN
 cases cut <;> rfl
theorem qaS (n v : Int) : zN n v = true ↔ 1 ≤ n ∧ n ≤ 7 ∧ 0 ≤ v ∧ v < 256 ^ n.toNat := by
 unfold zN
 simp only [Bool.and_eq_true, decide_eq_true_eq]
theorem qm2 (v m : Int) (h0 : 0 ≤ v) (hm : v < m) : Int.fdiv v m = 0 := by
 rw [Int.fdiv_eq_ediv_of_nonneg _ (by omega)]
 exact Int.ediv_eq_zero_of_lt h0 hm
theorem qoU (n : Int) (h1 : 1 ≤ n) (h7 : n ≤ 7) : ((2 : Int) ^ (Min.min (Int.toNat (IntKind.wrap .i64 ((8 : Int) * n))) (IntKind.bits .i64))) = 256 ^ n.toNat := by
 have : n = 1 ∨ n = 2 ∨ n = 3 ∨ n = 4 ∨ n = 5 ∨ n = 6 ∨ n = 7 := by omega
 rcases this with rfl | rfl | rfl | rfl | rfl | rfl | rfl <;> rfl
theorem Z9.pure (n v : Int) (hl : zN n v = true) : Z9.f 0 n v = some true := by
 obtain ⟨h1, h2, h3, h4⟩ := (qaS n v).1 hl
 unfold Z9.f Z9.b
 rw [if_pos (by simpa using h1), if_pos (by simpa using h2), if_pos (by simpa using h3), if_neg (by rw [qK _ (by omega) (by omega)]; omega), qoU n h1 h2, qm2 v _ h3 h4]
 rfl
theorem qaP : SumDet ZI := zi fun _ _ _ _ => by
 unfold ZI
 simp only
 split
 ·first | rfl | (split <;> rfl)
 ·rfl
theorem qbe : SumOk Tryz.prog 71 ZI := by
 have hE : EnvOk Tryz.prog qkm := env_ok (l := [(85, qfb)]) th_ok qU ⟨⟨qkP, qjO⟩, trivial⟩ _
 refine sum_ok hE Tryz.func71 rfl (by kernel_rfl) ZI [.raw] qaW.k ?_
 intro R avs qj κ r h
 unfold ZI at h
 simp only at h
 split at h
 ·rename_i k p
  refine ⟨0, _, _, _, (qaW.eq (0) k p).trans (qaW.pure k p), ?_, h⟩
  intro rs ros hk
  unfold qaW.k at hk
  split at hk
  ·first | (cases hk; exact ⟨rfl, rfl⟩) | (rw [← Option.some.inj hk]; exact ⟨rfl, rfl⟩)
  ·cases hk
 ·cases h
theorem qky : SumDet qdh := zi fun _ _ _ _ => by
 unfold qdh
 simp only
 split
 ·first | rfl | (split <;> rfl)
 ·rfl
theorem qlF : SumOk Tryz.prog 87 qdh := by
 have hE : EnvOk Tryz.prog qiq := env_ok (l := [(71, ZI), (86, qbb)]) th_ok qU ⟨⟨qbe, qaP⟩, ⟨qgK, qf0⟩, trivial⟩ _
 refine sum_ok hE Tryz.func87 rfl (by kernel_rfl) qdh [.raw] ZO.k ?_
 intro R avs qj κ r h
 unfold qdh at h
 simp only at h
 split at h
 ·rename_i qw qm qE mlo mhi qJ qi qz qo qy qn
  refine ⟨0, _, _, _, (ZO.eq (0) qw qm qE mlo mhi qJ qi qz qo qy qn).trans (ZO.pure qw qm qE mlo mhi qJ qi qz qo qy qn), ?_, h⟩
  intro rs ros hk
  unfold ZO.k at hk
  split at hk
  ·first | (cases hk; exact ⟨rfl, rfl⟩) | (rw [← Option.some.inj hk]; exact ⟨rfl, rfl⟩)
  ·cases hk
 ·cases h
theorem qlv : SumDet qdX := zi fun _ _ _ _ => by
 unfold qdX
 simp only
 split
 ·first | rfl | (split <;> rfl)
 ·rfl
theorem qmx : SumOk Tryz.prog 94 qdX := by
 have hE : EnvOk Tryz.prog qne := env_ok (l := [(95, qd1)]) th_ok qU ⟨⟨qmA, qlB⟩, trivial⟩ _
 refine sum_ok hE Tryz.func94 rfl (by kernel_rfl) qdX [.raw] qc0.k ?_
 intro R avs qj κ r h
 unfold qdX at h
 simp only at h
 split at h
 ·rename_i rid zq rst rlo rhi zr zm qe
  split at h
  case isFalse => cases h
  rename_i hl
  refine ⟨0, _, _, _, (qc0.eq (0) rid zq rst rlo rhi zr zm qe).trans (qc0.pure rid zq rst rlo rhi zr zm qe hl), ?_, h⟩
  intro rs ros hk
  unfold qc0.k at hk
  split at hk
  ·first | (cases hk; exact ⟨rfl, rfl⟩) | (rw [← Option.some.inj hk]; exact ⟨rfl, rfl⟩)
  ·cases hk
 ·cases h
theorem qgL : SumDet qcw := zi fun _ _ _ _ => by
 unfold qcw
 simp only
 split
 ·first | rfl | (split <;> rfl)
 ·rfl
theorem qe6 : SumOk Tryz.prog 93 qcw := by
 have hE : EnvOk Tryz.prog qiN := env_ok (l := [(94, qdX)]) th_ok qU ⟨⟨qmx, qlv⟩, trivial⟩ _
 refine sum_ok hE Tryz.func93 rfl (by kernel_rfl) qcw [.raw] Qr.k ?_
 intro R avs qj κ r h
 unfold qcw at h
 simp only at h
 split at h
 ·rename_i l qe
  split at h
  case isFalse => cases h
  rename_i hl
  refine ⟨l.length + 1, _, _, _, (Qr.eq (l.length + 1) l qe).trans (Qr.pure l qe hl), ?_, h⟩
  intro rs ros hk
  unfold Qr.k at hk
  split at hk
  ·first | (cases hk; exact ⟨rfl, rfl⟩) | (rw [← Option.some.inj hk]; exact ⟨rfl, rfl⟩)
  ·cases hk
 ·cases h
theorem qdY : SumDet qax := zi fun _ _ _ _ => by
 unfold qax
 simp only
 split
 ·first | rfl | (split <;> rfl)
 ·rfl
theorem qes : SumOk Tryz.prog 79 qax := by
 have hE : EnvOk Tryz.prog qkg := env_ok (l := [(93, qcw)]) th_ok qU ⟨⟨qe6, qgL⟩, trivial⟩ _
 refine sum_ok hE Tryz.func79 rfl (by kernel_rfl) qax [.raw] qaU.k ?_
 intro R avs qj κ r h
 unfold qax at h
 simp only at h
 split at h
 ·rename_i l
  split at h
  case isFalse => cases h
  rename_i hl
  refine ⟨0, _, _, _, (qaU.eq (0) l).trans (qaU.pure l hl), ?_, h⟩
  intro rs ros hk
  unfold qaU.k at hk
  split at hk
  ·first | (cases hk; exact ⟨rfl, rfl⟩) | (rw [← Option.some.inj hk]; exact ⟨rfl, rfl⟩)
  ·cases hk
 ·cases h
theorem ZW : SumDet QI := zi fun _ _ _ _ => by
 unfold QI
 simp only
 split
 ·first | rfl | (split <;> rfl)
 ·rfl
theorem qah : SumOk Tryz.prog 58 QI := by
 have hE : EnvOk Tryz.prog qio := env_ok (l := [(85, qfb), (29, qdc), (86, qbb), (71, ZI), (87, qdh), (79, qax)]) th_ok qU ⟨⟨qkP, qjO⟩, ⟨qgw, qe8⟩, ⟨qgK, qf0⟩, ⟨qbe, qaP⟩, ⟨qlF, qky⟩, ⟨qes, qdY⟩, trivial⟩ _
 refine sum_ok hE Tryz.func58 rfl (by kernel_rfl) QI [.raw] ZN.k ?_
 intro R avs qj κ r h
 unfold QI at h
 simp only at h
 split at h
 ·rename_i qw qm qE mlo mhi qJ qi qz qo qy qn
  split at h
  case isFalse => cases h
  rename_i hl
  refine ⟨0, _, _, _, (ZN.eq (0) qw qm qE mlo mhi qJ qi qz qo qy qn).trans (ZN.pure qw qm qE mlo mhi qJ qi qz qo qy qn hl), ?_, h⟩
  intro rs ros hk
  unfold ZN.k at hk
  split at hk
  ·first | (cases hk; exact ⟨rfl, rfl⟩) | (rw [← Option.some.inj hk]; exact ⟨rfl, rfl⟩)
  ·cases hk
 ·cases h
theorem qgQ : SumDet qb0 := zi fun _ _ _ _ => by
 unfold qb0
 simp only
 split
 ·first | rfl | (split <;> rfl)
 ·rfl
theorem qhU : SumOk Tryz.prog 59 qb0 := by
 have hE : EnvOk Tryz.prog qiS := env_ok (l := [(58, QI)]) th_ok qU ⟨⟨qah, ZW⟩, trivial⟩ _
 refine sum_ok hE Tryz.func59 rfl (by kernel_rfl) qb0 [.raw] Qw.k ?_
 intro R avs qj κ r h
 unfold qb0 at h
 simp only at h
 split at h
 ·rename_i qw qm qE mlo mhi qJ qi qz qo qy qn
  split at h
  case isFalse => cases h
  rename_i hl
  refine ⟨qn.length + 1, _, _, _, (Qw.eq (qn.length + 1) qw qm qE mlo mhi qJ qi qz qo qy qn).trans (Qw.pure qw qm qE mlo mhi qJ qi qz qo qy qn hl), ?_, h⟩
  intro rs ros hk
  unfold Qw.k at hk
  split at hk
  ·first | (cases hk; exact ⟨rfl, rfl⟩) | (rw [← Option.some.inj hk]; exact ⟨rfl, rfl⟩)
  ·cases hk
 ·cases h
theorem qku : SumDet qdd := zi fun _ _ _ _ => by
 unfold qdd
 simp only
 split
 ·first | rfl | (split <;> rfl)
 ·rfl
theorem qlu : SumOk Tryz.prog 63 qdd := by
 have hE : EnvOk Tryz.prog qk7 := env_ok (l := []) th_ok qU trivial _
 refine sum_ok hE Tryz.func63 rfl (by kernel_rfl) qdd [.raw] qbx.k ?_
 intro R avs qj κ r h
 unfold qdd at h
 simp only at h
 split at h
 ·rename_i rid zq rst rlo rhi zr zm
  refine ⟨0, _, _, _, (qbx.eq (0) rid zq rst rlo rhi zr zm).trans (qbx.pure rid zq rst rlo rhi zr zm), ?_, h⟩
  intro rs ros hk
  unfold qbx.k at hk
  split at hk
  ·first | (cases hk; exact ⟨rfl, rfl⟩) | (rw [← Option.some.inj hk]; exact ⟨rfl, rfl⟩)
  ·cases hk
 ·cases h
theorem qgN : SumDet qbX := zi fun _ _ _ _ => by
 unfold qbX
 simp only
 split
 ·first | rfl | (split <;> rfl)
 ·rfl
theorem qhM : SumOk Tryz.prog 88 qbX := by
 have hE : EnvOk Tryz.prog qjn := env_ok (l := []) th_ok qU trivial _
 refine sum_ok hE Tryz.func88 rfl (by kernel_rfl) qbX [.raw] Z9.k ?_
 intro R avs qj κ r h
 unfold qbX at h
 simp only at h
 split at h
 ·rename_i n v
  split at h
  case isFalse => cases h
  rename_i hl
  refine ⟨0, _, _, _, (Z9.eq (0) n v).trans (Z9.pure n v hl), ?_, h⟩
  intro rs ros hk
  unfold Z9.k at hk
  split at hk
  ·first | (cases hk; exact ⟨rfl, rfl⟩) | (rw [← Option.some.inj hk]; exact ⟨rfl, rfl⟩)
  ·cases hk
 ·cases h
def QQ (l : List Int) : Bool := decide (l.length < 1099511600000)
def qa5 : Den.Sum := ⟨[], fun qA qj κ => match qA, qj with
 | [], [] => κ [.ptr 0 0] [.box [.nilsl, .d .bool false]]
 | _, _ => none⟩
def qbY : Den.Sum := ⟨[.raw, .raw, .raw], fun qA qj κ => match qA, qj with
 | [.ptr 0 0, .d (.int .i64) n, .d (.int .i64) v], [.box [.nilsl, .d .bool false]] => if zN n v = true then κ [.ptr 0 0] [.box [.row 1, .d .bool false], .row 5 (.int .u8) (be n.toNat v) false] else none
 | [.ptr 0 0, .d (.int .i64) n, .d (.int .i64) v], [.box [.row 1, .d .bool false], .row 5 (.int .u8) l false] => if zN n v = true ∧ QQ l = true then κ [.ptr 0 0] [.box [.row 2, .d .bool false], .gone, .row 5 (.int .u8) (l ++ be n.toNat v) false] else none
 | _, _ => none⟩
def qa7 : Den.Sum := ⟨[.raw], fun qA qj κ => match qA, qj with
 | [.ptr 0 0], [.box [.row 1, .d .bool false], .row 5 (.int .u8) l false] => if QQ l = true then κ [.d (.sl (.int .u8)) l, .d .bool true] [.box [.row 1, .d .bool false], .row 5 (.int .u8) l false] else none
 | _, _ => none⟩
def qki : Env := ⟨th, gam [], fun i => ⟨[], [], []⟩⟩
def qc3.k (rs : List AV) (os : List Den.Obj) : Option Bool :=
 match rs, os with
 | [.ptr 0 0], [.box [.nilsl, .d .bool r0]] => some r0
 | _, _ => none
def qc3.b (u : Unit) : Option Bool :=
 some (false)
def qc3.f (qa : Nat) (u : Unit) : Option Bool := qc3.b u
theorem qc3.eq (qa : Nat) (u : Unit) : (denF qki loopN qa Tryz.f60 [.raw] [] [] qc3.k) = qc3.f qa u := by
 kernel_rfl
def qkl : Env := ⟨th, gam [(88, qbX)], fun i => if i = 7 then ⟨[0, 2, 7], [(1000, 5, (.int .u8))], [1001]⟩ else ⟨[], [], []⟩⟩
def Ze.k (rs : List AV) (os : List Den.Obj) : Option (Bool × (List Int)) :=
 match rs, os with
 | [.ptr 0 0], [.box [.row 1, .d .bool r0], .row 5 (.int .u8) r1 false] => some (r0, r1)
 | _, _ => none
def Ze.s7 (n v x0 : Int) (x1 : (List Int)) : St := ⟨[.ptr 0 0, .dead, .d tQi (v), dD, dD, dD, dD, .d tQi x0, dD, dD, dD, dD, dD, dD, dD, dD, dD, dD, dD, dD, dD, dD, dD, dD, dD, dD, dD, dD, dD, dD, dD, dD, dD, dD, dD, dD, dD, dD, dD, dD, dD, dD, dD, dD, dD, .dead], ofL [(0, .box [.row 64, .d .bool (false)]), (64, .row 5 (.int .u8) x1 false)], 1⟩
def Ze.p7 (qa : Nat) (n v : Int) (k : Nat) := fun x0 x1 => lp qkl qa Tryz.f61 [.raw] 1 Ze.k 7 [] k (Ze.s7 n v x0 x1)
def Ze.b7 (n v : Int) (A7 : Int → (List Int) → Option (Bool × (List Int))) (x0 : Int) (x1 : (List Int)) : Option (Bool × (List Int)) :=
 (if (decide (x0 ≥ (0 : Int))) then (if ((IntKind.wrap .i64 ((8 : Int) * x0)) < (0 : Int)) then none else (if ((((List.length x1) + (List.length ((IntKind.wrap .u8 (Int.fdiv v ((2 : Int) ^ (Min.min (Int.toNat (IntKind.wrap .i64 ((8 : Int) * x0))) (IntKind.bits .i64))))) :: []))) * (1 : Nat)) ≤ lim) then A7 (IntKind.wrap .i64 (x0 - (1 : Int))) (x1 ++ ((IntKind.wrap .u8 (Int.fdiv v ((2 : Int) ^ (Min.min (Int.toNat (IntKind.wrap .i64 ((8 : Int) * x0))) (IntKind.bits .i64))))) :: [])) else none)) else some (false, x1))
def Ze.l7 (qa : Nat) (n v : Int) : Nat → Int → (List Int) → Option (Bool × (List Int))
 | 0, _, _ => none
 | k + 1, x0, x1 => Ze.b7 n v (Ze.l7 qa n v k) x0 x1
def Ze.b (n v : Int) (E7 : Int → (List Int) → Option (Bool × (List Int))) : Option (Bool × (List Int)) :=
 (if (zN n v) then E7 (IntKind.wrap .i64 (n - (1 : Int))) [] else none)
def Ze.f (qa : Nat) (n v : Int) : Option (Bool × (List Int)) := Ze.b n v (Ze.l7 qa n v qa)
theorem Ze.l7_eq (qa : Nat) (n v : Int) : ∀ k : Nat, Ze.p7 qa n v k = Ze.l7 qa n v k
 | 0 => by kernel_rfl
 | k + 1 => by
  refine Eq.trans (b := Ze.b7 n v (Ze.p7 qa n v k)) (by kernel_rfl) ?_
  rw [Ze.l7_eq qa n v k]
  kernel_rfl
theorem Ze.eq (qa : Nat) (n v : Int) : (denF qkl loopN qa Tryz.f61 [.raw] [.ptr 0 0, .d tQi n, .d tQi v] [.box [.nilsl, .d .bool false]] Ze.k) = Ze.f qa n v := by
 refine Eq.trans (b := Ze.b n v (Ze.p7 qa n v qa)) (by kernel_rfl) ?_
 rw [Ze.l7_eq qa n v qa]
 kernel_rfl
def qkk : Env := ⟨th, gam [(88, qbX)], fun i => if i = 7 then ⟨[0, 2, 7], [(1000, 5, (.int .u8))], [1001]⟩ else ⟨[], [], []⟩⟩
def Zd.k (rs : List AV) (os : List Den.Obj) : Option (Bool × (List Int)) :=
 match rs, os with
 | [.ptr 0 0], [.box [.row 2, .d .bool r0], .gone, .row 5 (.int .u8) r1 false] => some (r0, r1)
 | _, _ => none
def Zd.s7 (n v : Int) (l : List Int) (x0 : Int) (x1 : (List Int)) : St := ⟨[.ptr 0 0, .dead, .d tQi (v), dD, dD, dD, dD, .d tQi x0, dD, dD, dD, dD, dD, dD, dD, dD, dD, dD, dD, dD, dD, dD, dD, dD, dD, dD, dD, dD, dD, dD, dD, dD, dD, dD, dD, dD, dD, dD, dD, dD, dD, dD, dD, dD, dD, .dead], ofL [(0, .box [.row 64, .d .bool (false)]), (1, .gone), (64, .row 5 (.int .u8) x1 false)], 2⟩
def Zd.p7 (qa : Nat) (n v : Int) (l : List Int) (k : Nat) := fun x0 x1 => lp qkk qa Tryz.f61 [.raw] 2 Zd.k 7 [] k (Zd.s7 n v l x0 x1)
def Zd.b7 (n v : Int) (l : List Int) (A7 : Int → (List Int) → Option (Bool × (List Int))) (x0 : Int) (x1 : (List Int)) : Option (Bool × (List Int)) :=
 (if (decide (x0 ≥ (0 : Int))) then (if ((IntKind.wrap .i64 ((8 : Int) * x0)) < (0 : Int)) then none else (if ((((List.length x1) + (List.length ((IntKind.wrap .u8 (Int.fdiv v ((2 : Int) ^ (Min.min (Int.toNat (IntKind.wrap .i64 ((8 : Int) * x0))) (IntKind.bits .i64))))) :: []))) * (1 : Nat)) ≤ lim) then A7 (IntKind.wrap .i64 (x0 - (1 : Int))) (x1 ++ ((IntKind.wrap .u8 (Int.fdiv v ((2 : Int) ^ (Min.min (Int.toNat (IntKind.wrap .i64 ((8 : Int) * x0))) (IntKind.bits .i64))))) :: [])) else none)) else some (false, x1))
def Zd.l7 (qa : Nat) (n v : Int) (l : List Int) : Nat → Int → (List Int) → Option (Bool × (List Int))
 | 0, _, _ => none
 | k + 1, x0, x1 => Zd.b7 n v l (Zd.l7 qa n v l k) x0 x1
def Zd.b (n v : Int) (l : List Int) (E7 : Int → (List Int) → Option (Bool × (List Int))) : Option (Bool × (List Int)) :=
 (if (zN n v) then E7 (IntKind.wrap .i64 (n - (1 : Int))) l else none)
def Zd.f (qa : Nat) (n v : Int) (l : List Int) : Option (Bool × (List Int)) := Zd.b n v l (Zd.l7 qa n v l qa)
theorem Zd.l7_eq (qa : Nat) (n v : Int) (l : List Int) : ∀ k : Nat, Zd.p7 qa n v l k = Zd.l7 qa n v l k
 | 0 => by kernel_rfl
 | k + 1 => by
  refine Eq.trans (b := Zd.b7 n v l (Zd.p7 qa n v l k)) (by kernel_rfl) ?_
  rw [Zd.l7_eq qa n v l k]
  kernel_rfl
theorem Zd.eq (qa : Nat) (n v : Int) (l : List Int) : (denF qkk loopN qa Tryz.f61 [.raw] [.ptr 0 0, .d tQi n, .d tQi v] [.box [.row 1, .d .bool false], .row 5 (.int .u8) l false] Zd.k) = Zd.f qa n v l := by
 refine Eq.trans (b := Zd.b n v l (Zd.p7 qa n v l qa)) (by kernel_rfl) ?_
 rw [Zd.l7_eq qa n v l qa]
 kernel_rfl
def qkj : Env := ⟨th, gam [], fun i => ⟨[], [], []⟩⟩
def qaV.k (rs : List AV) (os : List Den.Obj) : Option ((List Int) × Bool × Bool × (List Int)) :=
 match rs, os with
 | [.d (.sl (.int .u8)) r0, .d .bool r1], [.box [.row 1, .d .bool r2], .row 5 (.int .u8) r3 false] => some (r0, r1, r2, r3)
 | _, _ => none
def qaV.b (l : List Int) : Option ((List Int) × Bool × Bool × (List Int)) :=
 (if (((0 : Int) ≤ ((((List.length l)) : Nat) : Int)) ∧ ((((((List.length l)) : Nat) : Int) ≤ ((((List.length l)) : Nat) : Int)) ∧ (((((((List.length l)) : Nat) : Int) * ((((1 : Nat)) : Nat) : Int)) ≤ (1099511627776 : Int)) ∧ (((((List.length l)) : Nat) : Int) ≤ (1099511627776 : Int))))) then (if ((false = false) ∧ ((List.length l) ≤ (List.length (List.replicate (Int.toNat ((((List.length l)) : Nat) : Int)) (zeroI (Go.Den.Ty.int .u8)))))) then some ((l ++ (List.drop (List.length l) (List.replicate (Int.toNat ((((List.length l)) : Nat) : Int)) (zeroI (Go.Den.Ty.int .u8))))), true, false, l) else none) else none)
def qaV.f (qa : Nat) (l : List Int) : Option ((List Int) × Bool × Bool × (List Int)) := qaV.b l
theorem qaV.eq (qa : Nat) (l : List Int) : (denF qkj loopN qa Tryz.f64 [.dat (.sl (.int .u8)) false, .raw] [.ptr 0 0] [.box [.row 1, .d .bool false], .row 5 (.int .u8) l false] qaV.k) = qaV.f qa l := by
 kernel_rfl
theorem qiM : ∀ (n : Nat) (v : Int), be (n + 1) v = (v / 256 ^ n % 256) :: be n v
 | 0, v => by simp [be]
 | n + 1, v => by
  have ih := qiM n (v / 256)
  show be (n + 1) (v / 256) ++ [v % 256] = _
  rw [ih, Int.ediv_ediv_of_nonneg (by omega)]
  show ((v / (256 * 256 ^ n)) % 256 :: be n (v / 256)) ++ [v % 256] = (v / 256 ^ (n + 1) % 256) :: (be n (v / 256) ++ [v % 256])
  rw [Int.pow_succ, Int.mul_comm (256 ^ n) 256]
  rfl
theorem zw : ∀ (n : Nat) (v : Int), (be n v).length = n
 | 0, v => rfl
 | n + 1, v => by
  show (be n (v / 256) ++ [v % 256]).length = n + 1
  rw [List.length_append, zw n]; rfl
theorem qjw (x : Int) : IntKind.wrap .u8 x = x % 256 := by
 rw [IntKind.wrap_u8]
theorem qnZ (n : Int) (h1 : 0 ≤ n) (h7 : n ≤ 6) : ((2 : Int) ^ (Min.min (Int.toNat (IntKind.wrap .i64 ((8 : Int) * n))) (IntKind.bits .i64))) = 256 ^ n.toNat := by
 have : n = 0 ∨ n = 1 ∨ n = 2 ∨ n = 3 ∨ n = 4 ∨ n = 5 ∨ n = 6 := by omega
 rcases this with rfl | rfl | rfl | rfl | rfl | rfl | rfl <;> rfl
theorem qaQ (l : List Int) : QQ l = true ↔ l.length < 1099511600000 := by unfold QQ; simp
theorem qm8 (v : Int) (i : Nat) : IntKind.wrap .u8 (Int.fdiv v (256 ^ i)) = v / 256 ^ i % 256 := by
 rw [qjw, Int.fdiv_eq_ediv_of_nonneg _ (Int.pow_nonneg (by omega))]
theorem Zd.loop (qa : Nat) (n v : Int) (l0 : List Int) : ∀ (k i : Nat) (acc : List Int), i ≤ 7 → i < k → acc.length + i < 1099511620000 → Zd.l7 qa n v l0 k ((i : Int) - 1) acc = some (false, acc ++ be i v) := by
 intro k
 induction k with
 | zero => intro i acc h1 h2; omega
 | succ k ih =>
  intro i acc h1 h2 h3
  rw [Zd.l7]
  unfold Zd.b7
  cases i with
  | zero => rw [if_neg (by simp)]; simp [be]
  | succ i =>
   rw [show ((i + 1 : Nat) : Int) - 1 = (i : Int) from by omega]
   rw [if_pos (by simp), if_neg (by rw [qK _ (by omega) (by omega)]; omega), qnZ (i : Int) (by omega) (by omega), Int.toNat_natCast, qm8, if_pos (by simp [lim]; omega), qK _ (by omega) (by omega), ih i _ (by omega) (by omega) (by simp; omega), qiM i v]
   simp
theorem Zd.pure (n v : Int) (l : List Int) (hf : zN n v = true) (hr : QQ l = true) : Zd.f 9 n v l = some (false, l ++ be n.toNat v) := by
 obtain ⟨h1, h2, h3, h4⟩ := (qaS n v).1 hf
 have hr' := (qaQ l).1 hr
 unfold Zd.f Zd.b
 rw [hf, if_pos rfl, qK _ (by omega) (by omega)]
 have := Zd.loop 9 n v l 9 n.toNat l (by omega) (by omega) (by omega)
 rw [Int.toNat_of_nonneg (by omega)] at this
 exact this
theorem Ze.loop (qa : Nat) (n v : Int) : ∀ (k i : Nat) (acc : List Int), i ≤ 7 → i < k → acc.length + i < 1099511620000 → Ze.l7 qa n v k ((i : Int) - 1) acc = some (false, acc ++ be i v) := by
 intro k
 induction k with
 | zero => intro i acc h1 h2; omega
 | succ k ih =>
  intro i acc h1 h2 h3
  rw [Ze.l7]
  unfold Ze.b7
  cases i with
  | zero => rw [if_neg (by simp)]; simp [be]
  | succ i =>
   rw [show ((i + 1 : Nat) : Int) - 1 = (i : Int) from by omega]
   rw [if_pos (by simp), if_neg (by rw [qK _ (by omega) (by omega)]; omega), qnZ (i : Int) (by omega) (by omega), Int.toNat_natCast, qm8, if_pos (by simp [lim]; omega), qK _ (by omega) (by omega), ih i _ (by omega) (by omega) (by simp; omega), qiM i v]
   simp
theorem Ze.pure (n v : Int) (hf : zN n v = true) : Ze.f 9 n v = some (false, be n.toNat v) := by
 obtain ⟨h1, h2, h3, h4⟩ := (qaS n v).1 hf
 unfold Ze.f Ze.b
 rw [hf, if_pos rfl, qK _ (by omega) (by omega)]
 have := Ze.loop 9 n v 9 n.toNat [] (by omega) (by omega) (by simp; omega)
 rw [Int.toNat_of_nonneg (by omega), List.nil_append] at this
 exact this
theorem qaV.pure (l : List Int) (hr : QQ l = true) : qaV.f 0 l = some (l, true, false, l) := by
 have hr' := (qaQ l).1 hr
 unfold qaV.f qaV.b
 rw [if_pos (by refine ⟨by omega, by omega, by omega, by omega⟩), if_pos (by simp)]
 simp
theorem qeq : SumDet qa5 := zi fun _ _ _ _ => by
 unfold qa5
 simp only
 split
 ·first | rfl | (split <;> rfl)
 ·rfl
theorem qe5 : SumOk Tryz.prog 60 qa5 := by
 have hE : EnvOk Tryz.prog qki := env_ok (l := []) th_ok qU trivial _
 refine sum_ok hE Tryz.func60 rfl (by kernel_rfl) qa5 [.raw] qc3.k ?_
 intro R avs qj κ r h
 unfold qa5 at h
 simp only at h
 split at h
 ·skip
  refine ⟨0, _, _, _, (qc3.eq (0) ()).trans (rfl), ?_, h⟩
  intro rs ros hk
  unfold qc3.k at hk
  split at hk
  ·first | (cases hk; exact ⟨rfl, rfl⟩) | (rw [← Option.some.inj hk]; exact ⟨rfl, rfl⟩)
  ·cases hk
 ·cases h
theorem qex : SumDet qa7 := zi fun _ _ _ _ => by
 unfold qa7
 simp only
 split
 ·first | rfl | (split <;> rfl)
 ·rfl
theorem qfh : SumOk Tryz.prog 64 qa7 := by
 have hE : EnvOk Tryz.prog qkj := env_ok (l := []) th_ok qU trivial _
 refine sum_ok hE Tryz.func64 rfl (by kernel_rfl) qa7 [.dat (.sl (.int .u8)) false, .raw] qaV.k ?_
 intro R avs qj κ r h
 unfold qa7 at h
 simp only at h
 split at h
 ·rename_i l
  split at h
  case isFalse => cases h
  rename_i hl
  refine ⟨0, _, _, _, (qaV.eq (0) l).trans (qaV.pure l hl), ?_, h⟩
  intro rs ros hk
  unfold qaV.k at hk
  split at hk
  ·first | (cases hk; exact ⟨rfl, rfl⟩) | (rw [← Option.some.inj hk]; exact ⟨rfl, rfl⟩)
  ·cases hk
 ·cases h
theorem qej : SumDet qbY := zi fun _ _ _ _ => by
 unfold qbY
 simp only
 split
 ·split <;> rfl
 ·split <;> rfl
 ·rfl
theorem qfc : SumOk Tryz.prog 61 qbY := by
 have hN : EnvOk Tryz.prog qkl := env_ok (l := [(88, qbX)]) th_ok qU ⟨⟨qhM, qgN⟩, trivial⟩ _
 have hR : EnvOk Tryz.prog qkk := env_ok (l := [(88, qbX)]) th_ok qU ⟨⟨qhM, qgN⟩, trivial⟩ _
 refine sum_of hN (drawOk hN) Tryz.func61 rfl (by kernel_rfl) qbY [.raw] ?_
 intro R avs qj κ r h
 unfold qbY at h
 simp only at h
 split at h
 ·rename_i n v
  split at h
  case isFalse => cases h
  rename_i hl
  refine ⟨9, ?_⟩
  rw [denF_any hN.D ((Ze.eq 9 n v).trans (Ze.pure n v hl)) (out := [.ptr 0 0]) (os := [.box [.row 1, .d .bool false], .row 5 (.int .u8) (be n.toNat v) false]) (fun rs ros hk => by
   unfold Ze.k at hk
   split at hk
   ·have e := Option.some.inj hk; cases e; exact ⟨rfl, rfl⟩
   ·cases hk)]
  exact h
 ·rename_i n v l
  split at h
  case isFalse => cases h
  rename_i hl
  refine ⟨9, ?_⟩
  have := denF_any hR.D ((Zd.eq 9 n v l).trans (Zd.pure n v l hl.1 hl.2)) (out := [.ptr 0 0]) (os := [.box [.row 2, .d .bool false], .gone, .row 5 (.int .u8) (l ++ be n.toNat v) false]) (fun rs ros hk => by
   unfold Zd.k at hk
   split at hk
   ·have e := Option.some.inj hk; cases e; exact ⟨rfl, rfl⟩
   ·cases hk) κ
  exact this.trans h
 ·cases h
def qce (r : (Int × Int × Int × (Int × Int) × Bool × LF)) : Int := if r.2.2.2.2.1 then r.2.2.1 + 4 * r.2.2.2.1.1 + 16 * r.2.2.2.1.2 + 64 else r.2.2.1 + 4 * r.2.2.2.1.1 + 16 * r.2.2.2.1.2
def qct (r : (Int × Int × Int × (Int × Int) × Bool × LF)) : List Int := be 2 r.1 ++ (be 2 r.2.1 ++ be 1 (qce r))
def qfo (qh qv inc lo hi seq qk len : Int) : List Int := be 1 qh ++ (be 2 qv ++ (be 6 inc ++ (be 1 (lo * 16 + hi) ++ (be 2 seq ++ (be 2 qk ++ be 1 len)))))
def qbw (qh qv inc lo hi seq qk : Int) (qg : LR) : List Int := qfo qh qv inc lo hi seq qk (qg.length : Int) ++ qg.flatMap qct
def qcT (qh qv inc lo hi seq qk qQ qB qc : Int) (qg : LR) : List Int × Int :=
 if !qR qh qv inc lo hi seq qk qQ qB qc qg then ([], 1) else if !qak qh qv inc lo hi seq qk qQ qB qc qg then ([], 14) else (qbw qh qv inc lo hi seq qk qg, 0)
def qff : Den.Sum := ⟨[.dat (.pair tQi (.pair tQi (.pair tQi (.pair (.pair tQi tQi) (.pair tQi (.pair tQi (.pair tQi (.pair tQi (.pair tQi (.sl tQr)))))))))) true], fun qA qj κ => match qA, qj with
 | [.agg [.d (.int .i64) qw, .d (.int .i64) qm, .d (.int .i64) qE, .d (.int .i64) mlo, .d (.int .i64) mhi, .d (.int .i64) qJ, .d (.int .i64) qi, .d (.int .i64) qz, .d (.int .i64) qo, .d (.int .i64) qy, .d (.sl (.pair (.int .i64) (.pair (.int .i64) (.pair (.int .i64) (.pair (.pair (.int .i64) (.int .i64)) (.pair .bool (.sl (.pair (.int .i64) (.sl (.int .u8)))))))))) qn]], [] => if za qn = true then κ [.d (.sl (.int .u8)) (qcT qw qm qE mlo mhi qJ qi qz qo qy qn).1, .d (.int .i64) (qcT qw qm qE mlo mhi qJ qi qz qo qy qn).2] [] else none
 | _, _ => none⟩
def qgn : Env := ⟨th, gam [(58, QI), (59, qb0), (60, qa5), (62, Z2), (63, qdd), (61, qbY), (64, qa7)], fun i => if i = 15 then ⟨[4, 5, 50, 51, 52], [], []⟩ else ⟨[], [], []⟩⟩
def zR.k (rs : List AV) (os : List Den.Obj) : Option ((List Int) × Int) :=
 match rs, os with
 | [.d (.sl (.int .u8)) r0, .d (.int .i64) r1], [] => some (r0, r1)
 | _, _ => none
def zR.s15 (qw qm qE mlo mhi qJ qi qz qo qy : Int) (qn : LR) (x0 x1 : Int) (x2 : (List Int)) : St := ⟨[dD, dD, dD, dD, .ptr 64 0, .fn (.func 61) [.ptr 64 0] [], dD, dD, dD, dD, dD, dD, dD, dD, dD, dD, dD, dD, dD, dD, dD, dD, dD, dD, dD, dD, dD, dD, dD, dD, dD, dD, dD, dD, dD, dD, dD, dD, dD, dD, dD, dD, dD, dD, dD, dD, dD, dD, dD, dD, .d (.sl tQr) (qn), .d tQi x0, .d tQi x1, dD, dD, dD, dD, dD, dD, dD, dD, dD, dD, dD, dD, dD, dD, dD, dD, dD, dD, dD, dD, dD, .dead], ofL [(64, .box [.row 65, .d .bool (false)]), (65, .row 5 (.int .u8) x2 false)], 0⟩
def zR.p15 (qa : Nat) (qw qm qE mlo mhi qJ qi qz qo qy : Int) (qn : LR) (k : Nat) := fun x0 x1 x2 => lp qgn qa Tryz.f41 [.dat (.sl (.int .u8)) false, .raw] 0 zR.k 15 [] k (zR.s15 qw qm qE mlo mhi qJ qi qz qo qy qn x0 x1 x2)
def zR.b15 (qw qm qE mlo mhi qJ qi qz qo qy : Int) (qn : LR) (A15 : Int → Int → (List Int) → Option ((List Int) × Int)) (x0 : Int) (x1 : Int) (x2 : (List Int)) : Option ((List Int) × Int) :=
 (if (decide (x1 < x0)) then (match (idx qn x1) with | none => none | some y3 => (if ((zN (2 : Int) y3.1) ∧ (QQ x2)) then (if ((zN (2 : Int) y3.2.1) ∧ (QQ (x2 ++ (be (Int.toNat (2 : Int)) y3.1)))) then (if ((zN (1 : Int) (qeN y3.2.2.1 y3.2.2.2.1.1 y3.2.2.2.1.2 y3.2.2.2.2.1)) ∧ (QQ ((x2 ++ (be (Int.toNat (2 : Int)) y3.1)) ++ (be (Int.toNat (2 : Int)) y3.2.1)))) then A15 x0 (IntKind.wrap .i64 (x1 + (1 : Int))) (((x2 ++ (be (Int.toNat (2 : Int)) y3.1)) ++ (be (Int.toNat (2 : Int)) y3.2.1)) ++ (be (Int.toNat (1 : Int)) (qeN y3.2.2.1 y3.2.2.2.1.1 y3.2.2.2.1.2 y3.2.2.2.2.1))) else none) else none) else none)) else (if (QQ x2) then some (x2, (0 : Int)) else none))
def zR.l15 (qa : Nat) (qw qm qE mlo mhi qJ qi qz qo qy : Int) (qn : LR) : Nat → Int → Int → (List Int) → Option ((List Int) × Int)
 | 0, _, _, _ => none
 | k + 1, x0, x1, x2 => zR.b15 qw qm qE mlo mhi qJ qi qz qo qy qn (zR.l15 qa qw qm qE mlo mhi qJ qi qz qo qy qn k) x0 x1 x2
def zR.b (qw qm qE mlo mhi qJ qi qz qo qy : Int) (qn : LR) (E15 : Int → Int → (List Int) → Option ((List Int) × Int)) : Option ((List Int) × Int) :=
 (if (za qn) then (if (!(qR qw qm qE mlo mhi qJ qi qz qo qy qn)) then some ([], (1 : Int)) else (if (za qn) then (if (!(qak qw qm qE mlo mhi qJ qi qz qo qy qn)) then some ([], (14 : Int)) else (if (zN (1 : Int) qw) then (if ((zN (2 : Int) qm) ∧ (QQ (be (Int.toNat (1 : Int)) qw))) then (if ((zN (6 : Int) qE) ∧ (QQ ((be (Int.toNat (1 : Int)) qw) ++ (be (Int.toNat (2 : Int)) qm)))) then (if ((zN (1 : Int) (z6 mlo mhi)) ∧ (QQ (((be (Int.toNat (1 : Int)) qw) ++ (be (Int.toNat (2 : Int)) qm)) ++ (be (Int.toNat (6 : Int)) qE)))) then (if ((zN (2 : Int) qJ) ∧ (QQ ((((be (Int.toNat (1 : Int)) qw) ++ (be (Int.toNat (2 : Int)) qm)) ++ (be (Int.toNat (6 : Int)) qE)) ++ (be (Int.toNat (1 : Int)) (z6 mlo mhi))))) then (if ((zN (2 : Int) qi) ∧ (QQ (((((be (Int.toNat (1 : Int)) qw) ++ (be (Int.toNat (2 : Int)) qm)) ++ (be (Int.toNat (6 : Int)) qE)) ++ (be (Int.toNat (1 : Int)) (z6 mlo mhi))) ++ (be (Int.toNat (2 : Int)) qJ)))) then (if ((zN (1 : Int) ((((List.length qn)) : Nat) : Int)) ∧ (QQ ((((((be (Int.toNat (1 : Int)) qw) ++ (be (Int.toNat (2 : Int)) qm)) ++ (be (Int.toNat (6 : Int)) qE)) ++ (be (Int.toNat (1 : Int)) (z6 mlo mhi))) ++ (be (Int.toNat (2 : Int)) qJ)) ++ (be (Int.toNat (2 : Int)) qi)))) then E15 ((((List.length qn)) : Nat) : Int) (0 : Int) (((((((be (Int.toNat (1 : Int)) qw) ++ (be (Int.toNat (2 : Int)) qm)) ++ (be (Int.toNat (6 : Int)) qE)) ++ (be (Int.toNat (1 : Int)) (z6 mlo mhi))) ++ (be (Int.toNat (2 : Int)) qJ)) ++ (be (Int.toNat (2 : Int)) qi)) ++ (be (Int.toNat (1 : Int)) ((((List.length qn)) : Nat) : Int))) else none) else none) else none) else none) else none) else none) else none)) else none)) else none)
def zR.f (qa : Nat) (qw qm qE mlo mhi qJ qi qz qo qy : Int) (qn : LR) : Option ((List Int) × Int) := zR.b qw qm qE mlo mhi qJ qi qz qo qy qn (zR.l15 qa qw qm qE mlo mhi qJ qi qz qo qy qn qa)
theorem zR.l15_eq (qa : Nat) (qw qm qE mlo mhi qJ qi qz qo qy : Int) (qn : LR) : ∀ k : Nat, zR.p15 qa qw qm qE mlo mhi qJ qi qz qo qy qn k = zR.l15 qa qw qm qE mlo mhi qJ qi qz qo qy qn k
 | 0 => by kernel_rfl
 | k + 1 => by
  refine Eq.trans (b := zR.b15 qw qm qE mlo mhi qJ qi qz qo qy qn (zR.p15 qa qw qm qE mlo mhi qJ qi qz qo qy qn k)) (by kernel_rfl) ?_
  rw [zR.l15_eq qa qw qm qE mlo mhi qJ qi qz qo qy qn k]
  kernel_rfl
theorem zR.eq (qa : Nat) (qw qm qE mlo mhi qJ qi qz qo qy : Int) (qn : LR) : (denF qgn loopN qa Tryz.f41 [.dat (.sl (.int .u8)) false, .raw] [.agg [.d tQi qw, .d tQi qm, .d tQi qE, .d tQi mlo, .d tQi mhi, .d tQi qJ, .d tQi qi, .d tQi qz, .d tQi qo, .d tQi qy, .d (.sl tQr) qn]] [] zR.k) = zR.f qa qw qm qE mlo mhi qJ qi qz qo qy qn := by
 refine Eq.trans (b := zR.b qw qm qE mlo mhi qJ qi qz qo qy qn (zR.p15 qa qw qm qE mlo mhi qJ qi qz qo qy qn qa)) (by kernel_rfl) ?_
 rw [zR.l15_eq qa qw qm qE mlo mhi qJ qi qz qo qy qn qa]
 kernel_rfl
theorem qoc {k : Int} (h : ((ofF k).1.toList == (⟨#[]⟩ : ByteArray).toList) = false) : 1 ≤ k ∧ k ≤ 9 := by
 unfold ofF at h
 split at h
 ·simp at h
 ·rename_i hc
  simp only [Bool.or_eq_true, decide_eq_true_eq, not_or] at hc
  omega
theorem qg1 : ∀ (l : LR) (i qe : Int), (qcE l i qe).1 = i + (l.length : Int) → ∀ r ∈ l, zu r = true
 | [], _, _, _, r, hr => by simp at hr
 | x :: l, i, qe, h, r, hr => by
  unfold qcE at h
  split at h
  ·simp at h; omega
  ·rename_i hc
   simp only [Bool.or_eq_true, not_or, Bool.not_eq_true', Bool.not_eq_false] at hc
   rcases List.mem_cons.1 hr with rfl | hr
   ·exact hc.1
   ·exact qg1 l (i + 1) x.1 (by simp only [List.length_cons] at h; omega) r hr
theorem zy {r : Int × Int × Int × (Int × Int) × Bool × LF} (h : zu r = true) : 0 ≤ r.1 ∧ r.1 ≤ 4095 ∧ 0 ≤ r.2.1 ∧ r.2.1 ≤ 281474976710655 ∧ 0 ≤ r.2.2.1 ∧ r.2.2.1 ≤ 3 ∧ okS r.2.2.2.1.1 r.2.2.2.1.2 = true ∧ qbo r.2.2.2.2.2 = true ∧ (r.2.2.2.2.1 = true → r.2.2.2.2.2 = []) := by
 unfold zu qdp at h
 split at h
 ·cases h
 split at h
 ·cases h
 split at h
 ·cases h
 split at h
 ·cases h
 split at h
 ·cases h
 rename_i h1 h2 h3 h4 h5
 simp only [Bool.or_eq_true, decide_eq_true_eq, not_or, Bool.not_eq_true', Bool.not_eq_false] at h1 h2 h3 h4
 simp only [Bool.and_eq_true, decide_eq_true_eq, not_and] at h5
 refine ⟨by omega, by omega, by omega, by omega, by omega, by omega, h4.1, h4.2, fun hc => ?_⟩
 have := h5 hc
 exact List.eq_nil_of_length_eq_zero (by omega)
theorem qdU {had : Bool} {v hi : Int} (h : zH had v 0 hi = true) (h0 : 0 ≤ hi) : 0 ≤ v ∧ v ≤ hi := by
 unfold zH at h
 cases had
 ·simp at h; omega
 ·simp at h; exact h
theorem Ql {qh qv inc lo hi seq qk qQ qB qc : Int} {qg : LR} (h : qR qh qv inc lo hi seq qk qQ qB qc qg = true) :
  1 ≤ qh ∧ qh ≤ 9 ∧ 0 ≤ qv ∧ qv ≤ 4095 ∧ 0 ≤ inc ∧ inc ≤ 281474976710655 ∧ okS lo hi = true ∧ 0 ≤ seq ∧ seq ≤ 65535 ∧ 0 ≤ qk ∧ qk ≤ 4095 ∧ ZF qh qQ qB qc = true ∧ qg.length ≤ 255 ∧ ∀ r ∈ qg, zu r = true := by
 unfold qR at h
 have h1 : ((ofF qh).1.toList == (⟨#[]⟩ : ByteArray).toList || (decide (qv < 0) || (decide (qv > 4095) || (decide (inc < 0) || (decide (inc > 281474976710655) || !okS lo hi))))) = false := by
  cases hc : ((ofF qh).1.toList == (⟨#[]⟩ : ByteArray).toList || (decide (qv < 0) || (decide (qv > 4095) || (decide (inc < 0) || (decide (inc > 281474976710655) || !okS lo hi))))) with
  | false => rfl
  | true => rw [hc] at h; cases h
 rw [h1] at h
 have h2 : (!zH (qt qh 0) seq 0 65535 || (!zH (qt qh 1) qk (if qh == 3 then 1 else 0) (if qh == 3 then 3 else 4095) || !ZF qh qQ qB qc)) = false := by
  cases hc : (!zH (qt qh 0) seq 0 65535 || (!zH (qt qh 1) qk (if qh == 3 then 1 else 0) (if qh == 3 then 3 else 4095) || !ZF qh qQ qB qc)) with
  | false => rfl
  | true => rw [hc] at h; cases h
 rw [h2] at h
 simp only [Bool.false_eq_true, if_false] at h
 simp only [Bool.or_eq_false_iff, decide_eq_false_iff_not, Bool.not_eq_false'] at h1 h2
 obtain ⟨k1, k2, k3, k4, k5, k6⟩ := h1
 obtain ⟨m1, m2, m3⟩ := h2
 have hk := qoc k1
 have hs := qdU m1 (by omega)
 have ht : 0 ≤ qk ∧ qk ≤ 4095 := by
  unfold zH at m2
  cases hh : qt qh 1
  ·rw [hh] at m2
   simp at m2; omega
  ·rw [hh] at m2
   by_cases h3 : qh = 3
   ·simp [h3] at m2; omega
   ·simp [h3] at m2; exact m2
 refine ⟨hk.1, hk.2, by omega, by omega, by omega, by omega, k6, hs.1, hs.2, ht.1, ht.2, m3, ?_⟩
 split at h
 ·have : qg = [] := List.eq_nil_of_length_eq_zero (by simpa using h)
  subst this
  simp
 ·simp only [Bool.and_eq_true, decide_eq_true_eq] at h
  refine ⟨by omega, ?_⟩
  have hs := h.2
  unfold QC at hs
  exact qg1 qg 0 (-1) (by simpa using hs)
theorem qh6 {qh qQ qc : Int} (h : ZF qh qQ 0 qc = true) : qQ = 0 ∧ qc = 0 := by
 unfold ZF at h
 split at h
 ·cases h
 split at h
 ·cases h
 rename_i h1 h2
 simp only [beq_self_eq_true, Bool.true_and, Bool.or_eq_true, not_or, bne_iff_ne, ne_eq, Decidable.not_not] at h2
 refine ⟨h2.1, ?_⟩
 simp only [Bool.or_eq_true, Bool.and_eq_true, beq_iff_eq, decide_eq_true_eq] at h
 rcases h with h | h
 ·exact h
 ·omega
theorem qdB (qh qv inc lo hi seq qk qQ qB qc : Int) (qg : LR) : qak qh qv inc lo hi seq qk qQ qB qc qg = qgz qh qv inc lo hi seq qk qQ qB qc qg := by
 unfold qak qgz
 cases hv : qR qh qv inc lo hi seq qk qQ qB qc qg
 ·rfl
 ·by_cases he : qB = 0
  ·subst he
   obtain ⟨_, _, _, _, _, _, _, _, _, _, _, hl, _⟩ := Ql hv
   obtain ⟨rfl, rfl⟩ := qh6 hl
   simp
  ·by_cases h9 : qh = 9
   ·simp [h9]
   ·simp [he, h9]
theorem qjh : ∀ (l : LR), qft l = true → ∀ r ∈ l, r.2.1 ≤ 65535 ∧ r.2.2.2.2.2 = []
 | [], _, r, hr => by simp at hr
 | x :: l, h, r, hr => by
  unfold qft at h
  split at h
  ·cases h
  ·rename_i hc
   simp only [Bool.or_eq_true, not_or, decide_eq_true_eq] at hc
   rcases List.mem_cons.1 hr with rfl | hr
   ·exact ⟨by omega, List.eq_nil_of_length_eq_zero (by omega)⟩
   ·exact qjh l h r hr
theorem qdO {qh qv inc lo hi seq qk qQ qB qc : Int} {qg : LR} (h : qgz qh qv inc lo hi seq qk qQ qB qc qg = true) :
  qR qh qv inc lo hi seq qk qQ qB qc qg = true ∧ ∀ r ∈ qg, r.2.1 ≤ 65535 ∧ r.2.2.2.2.2 = [] := by
 unfold qgz at h
 split at h
 ·cases h
 ·rename_i hc
  simp only [Bool.or_eq_true, not_or, Bool.not_eq_true', Bool.not_eq_false] at hc
  exact ⟨hc.1, qjh qg h⟩
theorem qap {v : Int} (h0 : 0 ≤ v) (h1 : v < 256) : zN 1 v = true := (qaS 1 v).2 ⟨by omega, by omega, h0, by simpa using h1⟩
theorem qa1 {v : Int} (h0 : 0 ≤ v) (h1 : v < 65536) : zN 2 v = true := (qaS 2 v).2 ⟨by omega, by omega, h0, by simpa using h1⟩
theorem qj9 {v : Int} (h0 : 0 ≤ v) (h1 : v < 281474976710656) : zN 6 v = true := (qaS 6 v).2 ⟨by omega, by omega, h0, by simpa using h1⟩
theorem qdl {lo hi : Int} (h : okS lo hi = true) : z6 lo hi = lo * 16 + hi := by
 have := (ZP lo hi).1 h
 have h1 : lo = 1 ∨ lo = 2 ∨ lo = 3 := by omega
 have h2 : hi = 1 ∨ hi = 2 ∨ hi = 3 := by omega
 rcases h1 with rfl | rfl | rfl <;> rcases h2 with rfl | rfl | rfl <;> first | omega | rfl | kernel_rfl
theorem qjG {r : Int × Int × Int × (Int × Int) × Bool × LF} (h : zu r = true) : qeN r.2.2.1 r.2.2.2.1.1 r.2.2.2.1.2 r.2.2.2.2.1 = qce r ∧ 0 ≤ qce r ∧ qce r < 256 := by
 obtain ⟨id, inc, st, ⟨lo, hi⟩, cut, bag⟩ := r
 obtain ⟨_, _, _, _, h5, h6, h7, _, _⟩ := zy h
 have := (ZP lo hi).1 h7
 dsimp only at h5 h6 h7 ⊢
 have h0 : st = 0 ∨ st = 1 ∨ st = 2 ∨ st = 3 := by omega
 have h1 : lo = 1 ∨ lo = 2 ∨ lo = 3 := by omega
 have h2 : hi = 1 ∨ hi = 2 ∨ hi = 3 := by omega
 refine ⟨?_, by unfold qce; dsimp only; split <;> omega, by unfold qce; dsimp only; split <;> omega⟩
 rcases h0 with rfl | rfl | rfl | rfl <;> rcases h1 with rfl | rfl | rfl <;> rcases h2 with rfl | rfl | rfl <;> cases cut <;> kernel_rfl
theorem n1 : Int.toNat (1 : Int) = 1 := rfl
theorem n2 : Int.toNat (2 : Int) = 2 := rfl
theorem n6 : Int.toNat (6 : Int) = 6 := rfl
theorem qaB {l : List Int} (h : l.length < 1099511600000) : QQ l = true := (qaQ l).2 h
theorem qgV (r : (Int × Int × Int × (Int × Int) × Bool × LF)) : (qct r).length = 5 := by unfold qct; simp [zw]
theorem zR.loop (qa : Nat) (qh qv inc lo hi seq qk qQ qB qc : Int) (qg : LR) (hr : ∀ r ∈ qg, zu r = true ∧ r.2.1 ≤ 65535) (hlen : qg.length ≤ 255) : ∀ (k i : Nat) (acc : List Int), i ≤ qg.length → qg.length - i < k → acc.length + 5 * (qg.length - i) < 2000 →
  zR.l15 qa qh qv inc lo hi seq qk qQ qB qc qg k (qg.length : Int) (i : Int) acc = some (acc ++ (qg.drop i).flatMap qct, 0) := by
 intro k
 induction k with
 | zero => intro i acc h1 h2; omega
 | succ k ih =>
  intro i acc h1 h2 h3
  rw [zR.l15]
  unfold zR.b15
  by_cases hi' : i < qg.length
  ·rw [if_pos (by simp; omega), Qn, List.getElem?_eq_getElem hi']
   dsimp only
   rw [List.drop_eq_getElem_cons hi', List.flatMap_cons]
   obtain ⟨hok, hinc⟩ := hr qg[i] (List.getElem_mem hi')
   generalize qg[i] = r at hok hinc ⊢
   obtain ⟨f1, f2, f3, f4, f5, f6, f7, _, _⟩ := zy hok
   obtain ⟨s0, s1, s2⟩ := qjG hok
   have r1 : QQ acc = true := qaB (by omega)
   have r2 : QQ (acc ++ be 2 r.1) = true := qaB (by simp [zw]; omega)
   have r3 : QQ ((acc ++ be 2 r.1) ++ be 2 r.2.1) = true := qaB (by simp [zw]; omega)
   have hnext := ih (i + 1) (((acc ++ be 2 r.1) ++ be 2 r.2.1) ++ be 1 (qce r)) (by omega) (by omega) (by simp [zw]; omega)
   have hw : IntKind.wrap .i64 ((i : Int) + 1) = ((i + 1 : Nat) : Int) := by rw [qK _ (by omega) (by omega)]; omega
   rw [n1, n2, s0, if_pos ⟨qa1 f1 (by omega), r1⟩, if_pos ⟨qa1 f3 (by omega), r2⟩, if_pos ⟨qap s1 s2, r3⟩, hw, hnext]
   simp [qct, List.append_assoc]
  ·rw [if_neg (by simp; omega), List.drop_of_length_le (by omega), if_pos (qaB (by omega))]
   simp
theorem zR.pure (qh qv inc lo hi seq qk qQ qB qc : Int) (qg : LR) (hl : za qg = true) :
  zR.f (qg.length + 1) qh qv inc lo hi seq qk qQ qB qc qg = some ((qcT qh qv inc lo hi seq qk qQ qB qc qg).1, (qcT qh qv inc lo hi seq qk qQ qB qc qg).2) := by
 unfold zR.f zR.b qcT
 rw [if_pos hl]
 cases hv0 : qR qh qv inc lo hi seq qk qQ qB qc qg
 ·rfl
 rw [if_neg (by simp), if_pos hl]
 cases hf : qak qh qv inc lo hi seq qk qQ qB qc qg
 ·rfl
 have hf' := hf
 rw [qdB] at hf'
 obtain ⟨hv, hx⟩ := qdO hf'
 obtain ⟨v1, v2, v3, v4, v5, v6, v7, v8, v9, v10, v11, _, v12, v13⟩ := Ql hv
 have v14 := (ZP _ _).1 v7
 have hlp := zR.loop (qg.length + 1) qh qv inc lo hi seq qk qQ qB qc qg (fun r hr => ⟨v13 r hr, (hx r hr).1⟩) v12 (qg.length + 1) 0 (((((((be 1 qh) ++ be 2 qv) ++ be 6 inc) ++ be 1 (lo * 16 + hi)) ++ be 2 seq) ++ be 2 qk) ++ be 1 (qg.length : Int)) (by omega) (by omega) (by simp [zw]; omega)
 rw [show ((0 : Nat) : Int) = 0 from rfl] at hlp
 rw [if_neg (by simp), qdl v7, n1, n2, n6]
 rw [if_pos (qap (by omega) (by omega)), if_pos ⟨qa1 v3 (by omega), qaB (by simp [zw])⟩, if_pos ⟨qj9 v5 (by omega), qaB (by simp [zw])⟩,
  if_pos ⟨qap (by omega) (by omega), qaB (by simp [zw])⟩, if_pos ⟨qa1 v8 (by omega), qaB (by simp [zw])⟩, if_pos ⟨qa1 v10 (by omega), qaB (by simp [zw])⟩, if_pos ⟨qap (by omega) (by omega), qaB (by simp [zw])⟩]
 rw [hlp]
 simp [qbw, qfo, List.append_assoc]
theorem qmD : SumDet qff := zi fun _ _ _ _ => by
 unfold qff
 simp only
 split
 ·first | rfl | (split <;> rfl)
 ·rfl
theorem qns : SumOk Tryz.prog 41 qff := by
 have hE : EnvOk Tryz.prog qgn := env_ok (l := [(58, QI), (59, qb0), (60, qa5), (62, Z2), (63, qdd), (61, qbY), (64, qa7)]) th_ok qU ⟨⟨qah, ZW⟩, ⟨qhU, qgQ⟩, ⟨qe5, qeq⟩, ⟨qcA, qb1⟩, ⟨qlu, qku⟩, ⟨qfc, qej⟩, ⟨qfh, qex⟩, trivial⟩ _
 refine sum_ok hE Tryz.func41 rfl (by kernel_rfl) qff [.dat (.sl (.int .u8)) false, .raw] zR.k ?_
 intro R avs qj κ r h
 unfold qff at h
 simp only at h
 split at h
 ·rename_i qw qm qE mlo mhi qJ qi qz qo qy qn
  split at h
  case isFalse => cases h
  rename_i hl
  refine ⟨qn.length + 1, _, _, _, (zR.eq (qn.length + 1) qw qm qE mlo mhi qJ qi qz qo qy qn).trans (zR.pure qw qm qE mlo mhi qJ qi qz qo qy qn hl), ?_, h⟩
  intro rs ros hk
  unfold zR.k at hk
  split at hk
  ·first | (cases hk; exact ⟨rfl, rfl⟩) | (rw [← Option.some.inj hk]; exact ⟨rfl, rfl⟩)
  ·cases hk
 ·cases h
theorem Tryz.own : ownKnob Tryz.prog.godebug = none := by kernel_rfl
theorem Tryz.laidOut : laidOutB Tryz.prog = true := by kernel_rfl
theorem Tryz.mapsRow : mapsRowed Tryz.prog = true := by kernel_rfl
theorem Tryz.slicesSize : slicesSized Tryz.prog = true := by kernel_rfl
abbrev qh8 : List (String × DataW Unit) := [("polyglot/crc.halves", Rows.laid_polyglot_crc_halves)]
theorem qkW : Tryz.prog.globalNamed "polyglot/crc.halves" = some 0 := by kernel_rfl
theorem qnP (os : Os) (qA : Array Value) : laidMetH Tryz.prog qh8 ((World.doorLaid Tryz.prog 400 os).forCall (fun _ _ => 0) ⟨#[], qA, []⟩).memory :=
 laidMetH_of_parts3 (fuel := 8) (laidMet_of_run' 8 (by kernel_rfl) (by kernel_rfl)) (by kernel_rfl) (by kernel_rfl)
theorem qmV {W : World} (h : laidMetH Tryz.prog qh8 W) : GlobIn W := by
 rw [MakeChecks.laidMetH_plain _ _ _ (by kernel_rfl)] at h
 have hT : Lib.TabIs Tryz.prog W "polyglot/crc.halves" .u32 halves := Lib.tabIs_of_head (k := .u32) (zs := halves) (rest := []) qkW (show (Tryz.prog.globals[0]?).map (·.type) = some 141 by kernel_rfl) Tryz.underlying141 Tryz.underlying70 (by kernel_rfl) (by kernel_rfl) h
 refine ⟨?_, (fun n hn => nomatch hn), trivial⟩
 intro n k l hn j x hj
 unfold gtab at hn
 split at hn
 ·rename_i h0
  subst h0
  cases hn
  have hlt : j < halves.length := by
   rcases Nat.lt_or_ge j halves.length with h | h
   ·exact h
   ·rw [List.getElem?_eq_none h] at hj; cases hj
  have := hT.cell qkW j hlt
  rw [this]
  have e : halves.getD j 0 = x := by
   show (halves[j]?).getD 0 = x
   rw [hj]; rfl
  rw [e]
 ·cases hn
theorem ql3 {l : List Int} (h : Go.Den.Good (.sl (.int .u8)) l) : ∀ c ∈ l, 0 ≤ c ∧ c ≤ 255 := by
 intro c hc
 have h1 := h.2 c hc
 have h2 : (Lit.int .u8 c).wf = true := h1
 simp [Lit.wf, IntKind.min, IntKind.max, IntKind.signed, IntKind.bits] at h2
 omega
def BIG : Nat := veil 1099511627776
theorem Z4 : BIG = 1099511627776 := veil_eq _
def z8 : List (Int × Int) := [(1, 1), (1, 2), (1, 3), (2, 2), (2, 3), (3, 3)]
def zF : List (Int × Int) → Int → Int × Int × Bool
 | [], c => (0, 0, false)
 | s :: l, c => if (z6 s.1 s.2 == c) = true then (s.1, s.2, true) else zF l c
def inB (l : List Int) : Bool := QQ l && l.all fun c => decide (0 ≤ c) && decide (c ≤ 255)
def zk (l : List Int) (a : Int) : Bool := inB l && (decide (0 ≤ a) && decide (a ≤ (l.length : Int)))
def seg (l : List Int) (a n : Int) : List Int := (l.take (a + n).toNat).drop a.toNat
def qY (l : List Int) (n a : Int) (bad : Bool) : List Int × Bool × Int × Bool :=
 if bad then ([], false, a, true) else if decide (n < 0) || decide (n > (l.length : Int) - a) then ([], false, a, true) else (seg l a n, true, a + n, false)
def QL (p : List Int) : Int := p.foldl (fun v c => v * 256 + c) 0
def ql (l : List Int) (n a : Int) (bad : Bool) : Int × Int × Bool :=
 let n' := if decide (n < 1) || decide (n > 7) then -1 else n
 ((if (qY l n' a bad).2.1 then QL (qY l n' a bad).1 else 0), (qY l n' a bad).2.2.1, (qY l n' a bad).2.2.2)
def Zm (l : List Int) (a : Int) (bad : Bool) : Int := if bad then 0 else (l.length : Int) - a
def Qx (l : List Int) (a : Int) (bad : Bool) : (Int × Int × Int × (Int × Int) × Bool × LF) × Int × Bool :=
 let r1 := ql l 2 a bad
 let r2 := ql l 2 r1.2.1 r1.2.2
 let r3 := ql l 1 r2.2.1 r2.2.2
 (((if decide (r3.1 > 127) then -1 else r1.1), r2.1, r3.1 % 4, (r3.1 / 4 % 4, r3.1 / 16 % 4), r3.1 / 64 % 2 == 1, []), r3.2.1, r3.2.2)
def qfi : Den.Sum := ⟨[], fun qA qj κ => match qA, qj with
 | [], [] => κ [.row 0] [.row 41 (.pair (.int .i64) (.int .i64)) z8 false]
 | _, _ => none⟩
def qlw : Den.Sum := ⟨[.raw], fun qA qj κ => match qA, qj with
 | [.d (.int .i64) c], [] => κ [.agg [.d (.int .i64) (zF z8 c).1, .d (.int .i64) (zF z8 c).2.1], .d .bool (zF z8 c).2.2] []
 | _, _ => none⟩
def Z1 : Den.Sum := ⟨[.dat (.sl (.int .u8)) false], fun qA qj κ => match qA, qj with
 | [.d (.sl (.int .u8)) l], [] => if inB l = true then κ [.ptr 0 0] [.box [.d (.sl (.int .u8)) l, .d (.int .i64) 0, .d .bool false]] else none
 | _, _ => none⟩
def qcL : Den.Sum := ⟨[.raw, .raw], fun qA qj κ => match qA, qj with
 | [.ptr 0 0, .d (.int .i64) n], [.box [.d (.sl (.int .u8)) l, .d (.int .i64) a, .d .bool bad]] => if zk l a = true then κ [.d (.sl (.int .u8)) (qY l n a bad).1, .d .bool (qY l n a bad).2.1] [.box [.d (.sl (.int .u8)) l, .d (.int .i64) (qY l n a bad).2.2.1, .d .bool (qY l n a bad).2.2.2]] else none
 | _, _ => none⟩
def qcM : Den.Sum := ⟨[.raw, .raw], fun qA qj κ => match qA, qj with
 | [.ptr 0 0, .d (.int .i64) n], [.box [.d (.sl (.int .u8)) l, .d (.int .i64) a, .d .bool bad]] => if zk l a = true then κ [.d (.int .i64) (ql l n a bad).1] [.box [.d (.sl (.int .u8)) l, .d (.int .i64) (ql l n a bad).2.1, .d .bool (ql l n a bad).2.2]] else none
 | _, _ => none⟩
def ZY : Den.Sum := ⟨[.raw], fun qA qj κ => match qA, qj with
 | [.ptr 0 0], [.box [.d (.sl (.int .u8)) l, .d (.int .i64) a, .d .bool bad]] => κ [.d .bool bad] [.box [.d (.sl (.int .u8)) l, .d (.int .i64) a, .d .bool bad]]
 | _, _ => none⟩
def qcO : Den.Sum := ⟨[.raw], fun qA qj κ => match qA, qj with
 | [.ptr 0 0], [.box [.d (.sl (.int .u8)) l, .d (.int .i64) a, .d .bool bad]] => if zk l a = true then κ [.d (.int .i64) (Zm l a bad)] [.box [.d (.sl (.int .u8)) l, .d (.int .i64) a, .d .bool bad]] else none
 | _, _ => none⟩
def qbL : Den.Sum := ⟨[.raw], fun qA qj κ => match qA, qj with
 | [.ptr 0 0], [.box [.d (.sl (.int .u8)) l, .d (.int .i64) a, .d .bool bad]] => if zk l a = true then κ [.d .bool (!bad && (Zm l a bad == 0))] [.box [.d (.sl (.int .u8)) l, .d (.int .i64) a, .d .bool bad]] else none
 | _, _ => none⟩
def qlE : Den.Sum := ⟨[.raw], fun qA qj κ => match qA, qj with
 | [.fn (.func 24) [.ptr 0 0] []], [.box [.d (.sl (.int .u8)) l, .d (.int .i64) a, .d .bool bad]] => if zk l a = true then κ [.agg [.d (.int .i64) (Qx l a bad).1.1, .d (.int .i64) (Qx l a bad).1.2.1, .d (.int .i64) (Qx l a bad).1.2.2.1, .d (.int .i64) (Qx l a bad).1.2.2.2.1.1, .d (.int .i64) (Qx l a bad).1.2.2.2.1.2, .d .bool (Qx l a bad).1.2.2.2.2.1, .d (.sl (.pair (.int .i64) (.sl (.int .u8)))) []]] [.box [.d (.sl (.int .u8)) l, .d (.int .i64) (Qx l a bad).2.1, .d .bool (Qx l a bad).2.2]] else none
 | _, _ => none⟩
def qim : Env := ⟨th, gam [], fun i => if i = 3 then ⟨[1, 2], [(1, 41, (.pair tQi tQi))], []⟩ else if i = 6 then ⟨[1, 2, 3], [], []⟩ else ⟨[], [], []⟩⟩
def Qj.k (rs : List AV) (os : List Den.Obj) : Option (List (Int × Int)) :=
 match rs, os with
 | [.row 0], [.row 41 (.pair (.int .i64) (.int .i64)) r0 false] => some r0
 | _, _ => none
def Qj.s6 (u : Unit) (x2 x3 : Int) (x4 : (List (Int × Int))) : St := ⟨[.dead, .row 64, .d tQi x2, .d tQi x3, dD, dD, dD, dD, dD, dD, dD, dD, dD, dD, dD, dD, dD, dD, dD, .dead], ofL [(64, .row 41 (.pair tQi tQi) x4 false)], 0⟩
def Qj.p6 (qa : Nat) (u : Unit) (k3 k : Nat) := fun x2 x3 x4 => lp qim qa Tryz.f89 [.own 41 (.pair tQi tQi)] 0 Qj.k 6 [k3] k (Qj.s6 u x2 x3 x4)
def Qj.b6 (u : Unit) (A3 : Int → (List (Int × Int)) → Option (List (Int × Int))) (A6 : Int → Int → (List (Int × Int)) → Option (List (Int × Int))) (x2 : Int) (x3 : Int) (x4 : (List (Int × Int))) : Option (List (Int × Int)) :=
 (if (decide (x3 ≤ (3 : Int))) then (if ((((List.length x4) + (List.length ((x2, x3) :: []))) * (16 : Nat)) ≤ lim) then A6 x2 (IntKind.wrap .i64 (x3 + (1 : Int))) (x4 ++ ((x2, x3) :: [])) else none) else A3 (IntKind.wrap .i64 (x2 + (1 : Int))) x4)
def Qj.l6 (qa : Nat) (u : Unit) (A3 : Int → (List (Int × Int)) → Option (List (Int × Int))) : Nat → Int → Int → (List (Int × Int)) → Option (List (Int × Int))
 | 0, _, _, _ => none
 | k + 1, x2, x3, x4 => Qj.b6 u A3 (Qj.l6 qa u A3 k) x2 x3 x4
def Qj.s3 (u : Unit) (x0 : Int) (x1 : (List (Int × Int))) : St := ⟨[.dead, .row 64, .d tQi x0, dD, dD, dD, dD, dD, dD, dD, dD, dD, dD, dD, dD, dD, dD, dD, dD, .dead], ofL [(64, .row 41 (.pair tQi tQi) x1 false)], 0⟩
def Qj.p3 (qa : Nat) (u : Unit) (k : Nat) := fun x0 x1 => lp qim qa Tryz.f89 [.own 41 (.pair tQi tQi)] 0 Qj.k 3 [] k (Qj.s3 u x0 x1)
def Qj.b3 (u : Unit) (A3 : Int → (List (Int × Int)) → Option (List (Int × Int))) (E6 : Int → Int → (List (Int × Int)) → Option (List (Int × Int))) (x0 : Int) (x1 : (List (Int × Int))) : Option (List (Int × Int)) :=
 (if (decide (x0 ≤ (3 : Int))) then E6 x0 x0 x1 else some (x1))
def Qj.l3 (qa : Nat) (u : Unit) : Nat → Int → (List (Int × Int)) → Option (List (Int × Int))
 | 0, _, _ => none
 | k + 1, x0, x1 => Qj.b3 u (Qj.l3 qa u k) (Qj.l6 qa u (Qj.l3 qa u k) qa) x0 x1
def Qj.b (u : Unit) (E3 : Int → (List (Int × Int)) → Option (List (Int × Int))) : Option (List (Int × Int)) :=
 E3 (1 : Int) []
def Qj.f (qa : Nat) (u : Unit) : Option (List (Int × Int)) := Qj.b u (Qj.l3 qa u qa)
theorem Qj.l6_eq (qa : Nat) (u : Unit) (k3 : Nat) : ∀ k : Nat, Qj.p6 qa u k3 k = Qj.l6 qa u (Qj.p3 qa u k3) k
 | 0 => by kernel_rfl
 | k + 1 => by
  refine Eq.trans (b := Qj.b6 u (Qj.p3 qa u k3) (Qj.p6 qa u k3 k)) (by kernel_rfl) ?_
  rw [Qj.l6_eq qa u k3 k]
  kernel_rfl
theorem Qj.l3_eq (qa : Nat) (u : Unit) : ∀ k : Nat, Qj.p3 qa u k = Qj.l3 qa u k
 | 0 => by kernel_rfl
 | k + 1 => by
  refine Eq.trans (b := Qj.b3 u (Qj.p3 qa u k) (Qj.p6 qa u k qa)) (by kernel_rfl) ?_
  rw [Qj.l3_eq qa u k, Qj.l6_eq qa u k qa, Qj.l3_eq qa u k]
  kernel_rfl
theorem Qj.eq (qa : Nat) (u : Unit) : (denF qim loopN qa Tryz.f89 [.own 41 (.pair tQi tQi)] [] [] Qj.k) = Qj.f qa u := by
 refine Eq.trans (b := Qj.b u (Qj.p3 qa u qa)) (by kernel_rfl) ?_
 rw [Qj.l3_eq qa u qa]
 kernel_rfl
def qmf : Env := ⟨th, gam [(89, qfi), (62, Z2)], fun i => if i = 2 then ⟨[0, 2, 6, 7, 8], [], []⟩ else ⟨[], [], []⟩⟩
def SOf.k (rs : List AV) (os : List Den.Obj) : Option (Int × Int × Bool) :=
 match rs, os with
 | [.agg [.d (.int .i64) r0, .d (.int .i64) r1], .d .bool r2], [] => some (r0, r1, r2)
 | _, _ => none
def SOf.s2 (c x0 x1 : Int) : St := ⟨[.d tQi (c), .dead, .ptr 64 0, dD, dD, dD, .row 65, .d tQi x0, .d tQi x1, dD, dD, dD, dD, dD, dD, dD, dD, dD, .dead], ofL [(64, .box [.d tQi (0), .d tQi (0)]), (65, .row 41 (.pair tQi tQi) (z8) false)], 0⟩
def SOf.p2 (qa : Nat) (c : Int) (k : Nat) := fun x0 x1 => lp qmf qa Tryz.f65 [.dat (.pair tQi tQi) true, .raw] 0 SOf.k 2 [] k (SOf.s2 c x0 x1)
def SOf.b2 (c : Int) (A2 : Int → Int → Option (Int × Int × Bool)) (x0 : Int) (x1 : Int) : Option (Int × Int × Bool) :=
 (if (decide (x1 < x0)) then (match (idx z8 x1) with | none => none | some y2 => (match (idx z8 x1) with | none => none | some y3 => (if ((z6 y3.1 y3.2) == c) then some (y3.1, y3.2, true) else A2 x0 (IntKind.wrap .i64 (x1 + (1 : Int)))))) else some (0, 0, false))
def SOf.l2 (qa : Nat) (c : Int) : Nat → Int → Int → Option (Int × Int × Bool)
 | 0, _, _ => none
 | k + 1, x0, x1 => SOf.b2 c (SOf.l2 qa c k) x0 x1
def SOf.b (c : Int) (E2 : Int → Int → Option (Int × Int × Bool)) : Option (Int × Int × Bool) :=
 E2 ((((List.length z8)) : Nat) : Int) (0 : Int)
def SOf.f (qa : Nat) (c : Int) : Option (Int × Int × Bool) := SOf.b c (SOf.l2 qa c qa)
theorem SOf.l2_eq (qa : Nat) (c : Int) : ∀ k : Nat, SOf.p2 qa c k = SOf.l2 qa c k
 | 0 => by kernel_rfl
 | k + 1 => by
  refine Eq.trans (b := SOf.b2 c (SOf.p2 qa c k)) (by kernel_rfl) ?_
  rw [SOf.l2_eq qa c k]
  kernel_rfl
theorem SOf.eq (qa : Nat) (c : Int) : (denF qmf loopN qa Tryz.f65 [.dat (.pair tQi tQi) true, .raw] [.d tQi c] [] SOf.k) = SOf.f qa c := by
 refine Eq.trans (b := SOf.b c (SOf.p2 qa c qa)) (by kernel_rfl) ?_
 rw [SOf.l2_eq qa c qa]
 kernel_rfl
def qlc : Env := ⟨th, gam [], fun i => ⟨[], [], []⟩⟩
def qbC.k (rs : List AV) (os : List Den.Obj) : Option ((List Int) × Int × Bool) :=
 match rs, os with
 | [.ptr 0 0], [.box [.d (.sl (.int .u8)) r0, .d (.int .i64) r1, .d .bool r2]] => some (r0, r1, r2)
 | _, _ => none
def qbC.b (l : List Int) : Option ((List Int) × Int × Bool) :=
 (if (((0 : Int) ≤ ((((List.length l)) : Nat) : Int)) ∧ ((((((List.length l)) : Nat) : Int) ≤ ((((List.length l)) : Nat) : Int)) ∧ (((((((List.length l)) : Nat) : Int) * ((((1 : Nat)) : Nat) : Int)) ≤ (1099511627776 : Int)) ∧ (((((List.length l)) : Nat) : Int) ≤ (1099511627776 : Int))))) then (if ((false = false) ∧ ((List.length l) ≤ (List.length (List.replicate (Int.toNat ((((List.length l)) : Nat) : Int)) (zeroI (Go.Den.Ty.int .u8)))))) then some ((l ++ (List.drop (List.length l) (List.replicate (Int.toNat ((((List.length l)) : Nat) : Int)) (zeroI (Go.Den.Ty.int .u8))))), 0, false) else none) else none)
def qbC.f (qa : Nat) (l : List Int) : Option ((List Int) × Int × Bool) := qbC.b l
theorem qbC.eq (qa : Nat) (l : List Int) : (denF qlc loopN qa Tryz.f23 [.fz] [.d (.sl (.int .u8)) l] [] qbC.k) = qbC.f qa l := by
 kernel_rfl
def qlb : Env := ⟨th, gam [], fun i => ⟨[], [], []⟩⟩
def qbB.k (rs : List AV) (os : List Den.Obj) : Option ((List Int) × Bool × (List Int) × Int × Bool) :=
 match rs, os with
 | [.d (.sl (.int .u8)) r0, .d .bool r1], [.box [.d (.sl (.int .u8)) r2, .d (.int .i64) r3, .d .bool r4]] => some (r0, r1, r2, r3, r4)
 | _, _ => none
def qbB.b (n : Int) (l : List Int) (a : Int) (bad : Bool) : Option ((List Int) × Bool × (List Int) × Int × Bool) :=
 (if bad then some ([], false, l, a, bad) else (if (decide (n < (0 : Int))) then some ([], false, l, a, true) else (if (decide (n > (IntKind.wrap .i64 (((((List.length l)) : Nat) : Int) - a)))) then some ([], false, l, a, true) else (if (((0 : Int) ≤ a) ∧ ((a ≤ (IntKind.wrap .i64 (a + n))) ∧ ((IntKind.wrap .i64 (a + n)) ≤ ((((List.length l)) : Nat) : Int)))) then some ((List.drop (Int.toNat a) (List.take (Int.toNat (IntKind.wrap .i64 (a + n))) l)), true, l, (IntKind.wrap .i64 (a + n)), bad) else none))))
def qbB.f (qa : Nat) (n : Int) (l : List Int) (a : Int) (bad : Bool) : Option ((List Int) × Bool × (List Int) × Int × Bool) := qbB.b n l a bad
theorem qbB.eq (qa : Nat) (n : Int) (l : List Int) (a : Int) (bad : Bool) : (denF qlb loopN qa Tryz.f51 [.dat (.sl (.int .u8)) false, .raw] [.ptr 0 0, .d tQi n] [.box [.d (.sl (.int .u8)) l, .d tQi a, .d .bool bad]] qbB.k) = qbB.f qa n l a bad := by
 kernel_rfl
def qkh : Env := ⟨th, gam [(51, qcL)], fun i => if i = 8 then ⟨[7, 24, 25, 26], [], []⟩ else ⟨[], [], []⟩⟩
def Q5.k (rs : List AV) (os : List Den.Obj) : Option (Int × (List Int) × Int × Bool) :=
 match rs, os with
 | [.d (.int .i64) r0], [.box [.d (.sl (.int .u8)) r1, .d (.int .i64) r2, .d .bool r3]] => some (r0, r1, r2, r3)
 | _, _ => none
def Q5.s8 (n : Int) (l : List Int) (a : Int) (bad : Bool) (x0 : Int) (x1 : (List Int)) (x2 x3 x4 : Int) (x5 : Bool) : St := ⟨[dD, dD, dD, dD, dD, dD, dD, .d tQi x0, dD, dD, dD, dD, dD, dD, dD, dD, dD, dD, dD, dD, dD, dD, dD, dD, .d (.sl (.int .u8)) x1, .d tQi x2, .d tQi x3, dD, dD, dD, dD, dD, dD, dD, dD, dD, .dead], ofL [(0, .box [.d (.sl (.int .u8)) (l), .d tQi x4, .d .bool x5])], 1⟩
def Q5.p8 (qa : Nat) (n : Int) (l : List Int) (a : Int) (bad : Bool) (k : Nat) := fun x0 x1 x2 x3 x4 x5 => lp qkh qa Tryz.f24 [.raw] 1 Q5.k 8 [] k (Q5.s8 n l a bad x0 x1 x2 x3 x4 x5)
def Q5.b8 (n : Int) (l : List Int) (a : Int) (bad : Bool) (A8 : Int → (List Int) → Int → Int → Int → Bool → Option (Int × (List Int) × Int × Bool)) (x0 : Int) (x1 : (List Int)) (x2 : Int) (x3 : Int) (x4 : Int) (x5 : Bool) : Option (Int × (List Int) × Int × Bool) :=
 (if (decide (x3 < x2)) then (match (idx x1 x3) with | none => none | some y6 => A8 (bits BinOp.or .i64 (IntKind.wrap .i64 (x0 * ((2 : Int) ^ (Min.min (Int.toNat (8 : Int)) (IntKind.bits .i64))))) (IntKind.wrap .i64 y6)) x1 x2 (IntKind.wrap .i64 (x3 + (1 : Int))) x4 x5) else some (x0, l, x4, x5))
def Q5.l8 (qa : Nat) (n : Int) (l : List Int) (a : Int) (bad : Bool) : Nat → Int → (List Int) → Int → Int → Int → Bool → Option (Int × (List Int) × Int × Bool)
 | 0, _, _, _, _, _, _ => none
 | k + 1, x0, x1, x2, x3, x4, x5 => Q5.b8 n l a bad (Q5.l8 qa n l a bad k) x0 x1 x2 x3 x4 x5
def Q5.b (n : Int) (l : List Int) (a : Int) (bad : Bool) (E8 : Int → (List Int) → Int → Int → Int → Bool → Option (Int × (List Int) × Int × Bool)) : Option (Int × (List Int) × Int × Bool) :=
 (if (decide (n < (1 : Int))) then (if (zk l a) then (if (!(qY l (-(1 : Int)) a bad).2.1) then some ((0 : Int), l, (qY l (-(1 : Int)) a bad).2.2.1, (qY l (-(1 : Int)) a bad).2.2.2) else E8 (0 : Int) (qY l (-(1 : Int)) a bad).1 ((((List.length (qY l (-(1 : Int)) a bad).1)) : Nat) : Int) (0 : Int) (qY l (-(1 : Int)) a bad).2.2.1 (qY l (-(1 : Int)) a bad).2.2.2) else none) else (if (decide (n > (7 : Int))) then (if (zk l a) then (if (!(qY l (-(1 : Int)) a bad).2.1) then some ((0 : Int), l, (qY l (-(1 : Int)) a bad).2.2.1, (qY l (-(1 : Int)) a bad).2.2.2) else E8 (0 : Int) (qY l (-(1 : Int)) a bad).1 ((((List.length (qY l (-(1 : Int)) a bad).1)) : Nat) : Int) (0 : Int) (qY l (-(1 : Int)) a bad).2.2.1 (qY l (-(1 : Int)) a bad).2.2.2) else none) else (if (zk l a) then (if (!(qY l n a bad).2.1) then some ((0 : Int), l, (qY l n a bad).2.2.1, (qY l n a bad).2.2.2) else E8 (0 : Int) (qY l n a bad).1 ((((List.length (qY l n a bad).1)) : Nat) : Int) (0 : Int) (qY l n a bad).2.2.1 (qY l n a bad).2.2.2) else none)))
def Q5.f (qa : Nat) (n : Int) (l : List Int) (a : Int) (bad : Bool) : Option (Int × (List Int) × Int × Bool) := Q5.b n l a bad (Q5.l8 qa n l a bad qa)
theorem Q5.l8_eq (qa : Nat) (n : Int) (l : List Int) (a : Int) (bad : Bool) : ∀ k : Nat, Q5.p8 qa n l a bad k = Q5.l8 qa n l a bad k
 | 0 => by kernel_rfl
 | k + 1 => by
  refine Eq.trans (b := Q5.b8 n l a bad (Q5.p8 qa n l a bad k)) (by kernel_rfl) ?_
  rw [Q5.l8_eq qa n l a bad k]
  kernel_rfl
theorem Q5.eq (qa : Nat) (n : Int) (l : List Int) (a : Int) (bad : Bool) : (denF qkh loopN qa Tryz.f24 [.raw] [.ptr 0 0, .d tQi n] [.box [.d (.sl (.int .u8)) l, .d tQi a, .d .bool bad]] Q5.k) = Q5.f qa n l a bad := by
 refine Eq.trans (b := Q5.b n l a bad (Q5.p8 qa n l a bad qa)) (by kernel_rfl) ?_
 rw [Q5.l8_eq qa n l a bad qa]
 kernel_rfl
def qng : Env := ⟨th, gam [], fun i => ⟨[], [], []⟩⟩
def qdF.k (rs : List AV) (os : List Den.Obj) : Option (Bool × (List Int) × Int × Bool) :=
 match rs, os with
 | [.d .bool r0], [.box [.d (.sl (.int .u8)) r1, .d (.int .i64) r2, .d .bool r3]] => some (r0, r1, r2, r3)
 | _, _ => none
def qdF.b (l : List Int) (a : Int) (bad : Bool) : Option (Bool × (List Int) × Int × Bool) :=
 some (bad, l, a, bad)
def qdF.f (qa : Nat) (l : List Int) (a : Int) (bad : Bool) : Option (Bool × (List Int) × Int × Bool) := qdF.b l a bad
theorem qdF.eq (qa : Nat) (l : List Int) (a : Int) (bad : Bool) : (denF qng loopN qa Tryz.f66 [.raw] [.ptr 0 0] [.box [.d (.sl (.int .u8)) l, .d tQi a, .d .bool bad]] qdF.k) = qdF.f qa l a bad := by
 kernel_rfl
def qk9 : Env := ⟨th, gam [(66, ZY)], fun i => ⟨[], [], []⟩⟩
def qbz.k (rs : List AV) (os : List Den.Obj) : Option (Int × (List Int) × Int × Bool) :=
 match rs, os with
 | [.d (.int .i64) r0], [.box [.d (.sl (.int .u8)) r1, .d (.int .i64) r2, .d .bool r3]] => some (r0, r1, r2, r3)
 | _, _ => none
def qbz.b (l : List Int) (a : Int) (bad : Bool) : Option (Int × (List Int) × Int × Bool) :=
 (if bad then some ((0 : Int), l, a, bad) else some ((IntKind.wrap .i64 (((((List.length l)) : Nat) : Int) - a)), l, a, bad))
def qbz.f (qa : Nat) (l : List Int) (a : Int) (bad : Bool) : Option (Int × (List Int) × Int × Bool) := qbz.b l a bad
theorem qbz.eq (qa : Nat) (l : List Int) (a : Int) (bad : Bool) : (denF qk9 loopN qa Tryz.f90 [.raw] [.ptr 0 0] [.box [.d (.sl (.int .u8)) l, .d tQi a, .d .bool bad]] qbz.k) = qbz.f qa l a bad := by
 kernel_rfl
def qla : Env := ⟨th, gam [(66, ZY), (90, qcO)], fun i => ⟨[], [], []⟩⟩
def qbA.k (rs : List AV) (os : List Den.Obj) : Option (Bool × (List Int) × Int × Bool) :=
 match rs, os with
 | [.d .bool r0], [.box [.d (.sl (.int .u8)) r1, .d (.int .i64) r2, .d .bool r3]] => some (r0, r1, r2, r3)
 | _, _ => none
def qbA.b (l : List Int) (a : Int) (bad : Bool) : Option (Bool × (List Int) × Int × Bool) :=
 (if (!bad) then (if (zk l a) then some (((Zm l a bad) == (0 : Int)), l, a, bad) else none) else some (false, l, a, bad))
def qbA.f (qa : Nat) (l : List Int) (a : Int) (bad : Bool) : Option (Bool × (List Int) × Int × Bool) := qbA.b l a bad
theorem qbA.eq (qa : Nat) (l : List Int) (a : Int) (bad : Bool) : (denF qla loopN qa Tryz.f68 [.raw] [.ptr 0 0] [.box [.d (.sl (.int .u8)) l, .d tQi a, .d .bool bad]] qbA.k) = qbA.f qa l a bad := by
 kernel_rfl
def qnh : Env := ⟨th, gam [(24, qcM)], fun i => ⟨[], [], []⟩⟩
def qc2.k (rs : List AV) (os : List Den.Obj) : Option (Int × Int × Int × Int × Int × Bool × LF × (List Int) × Int × Bool) :=
 match rs, os with
 | [.agg [.d (.int .i64) r0, .d (.int .i64) r1, .d (.int .i64) r2, .d (.int .i64) r3, .d (.int .i64) r4, .d .bool r5, .d (.sl (.pair (.int .i64) (.sl (.int .u8)))) r6]], [.box [.d (.sl (.int .u8)) r7, .d (.int .i64) r8, .d .bool r9]] => some (r0, r1, r2, r3, r4, r5, r6, r7, r8, r9)
 | _, _ => none
def qc2.b (l : List Int) (a : Int) (bad : Bool) : Option (Int × Int × Int × Int × Int × Bool × LF × (List Int) × Int × Bool) :=
 (if (zk l a) then (if (zk l (ql l (2 : Int) a bad).2.1) then (if (zk l (ql l (2 : Int) (ql l (2 : Int) a bad).2.1 (ql l (2 : Int) a bad).2.2).2.1) then (if (decide ((ql l (1 : Int) (ql l (2 : Int) (ql l (2 : Int) a bad).2.1 (ql l (2 : Int) a bad).2.2).2.1 (ql l (2 : Int) (ql l (2 : Int) a bad).2.1 (ql l (2 : Int) a bad).2.2).2.2).1 > (127 : Int))) then some ((-(1 : Int)), (ql l (2 : Int) (ql l (2 : Int) a bad).2.1 (ql l (2 : Int) a bad).2.2).1, (bits BinOp.and .i64 (ql l (1 : Int) (ql l (2 : Int) (ql l (2 : Int) a bad).2.1 (ql l (2 : Int) a bad).2.2).2.1 (ql l (2 : Int) (ql l (2 : Int) a bad).2.1 (ql l (2 : Int) a bad).2.2).2.2).1 (3 : Int)), (bits BinOp.and .i64 (Int.fdiv (ql l (1 : Int) (ql l (2 : Int) (ql l (2 : Int) a bad).2.1 (ql l (2 : Int) a bad).2.2).2.1 (ql l (2 : Int) (ql l (2 : Int) a bad).2.1 (ql l (2 : Int) a bad).2.2).2.2).1 ((2 : Int) ^ (Min.min (Int.toNat (2 : Int)) (IntKind.bits .i64)))) (3 : Int)), (bits BinOp.and .i64 (Int.fdiv (ql l (1 : Int) (ql l (2 : Int) (ql l (2 : Int) a bad).2.1 (ql l (2 : Int) a bad).2.2).2.1 (ql l (2 : Int) (ql l (2 : Int) a bad).2.1 (ql l (2 : Int) a bad).2.2).2.2).1 ((2 : Int) ^ (Min.min (Int.toNat (4 : Int)) (IntKind.bits .i64)))) (3 : Int)), ((bits BinOp.and .i64 (ql l (1 : Int) (ql l (2 : Int) (ql l (2 : Int) a bad).2.1 (ql l (2 : Int) a bad).2.2).2.1 (ql l (2 : Int) (ql l (2 : Int) a bad).2.1 (ql l (2 : Int) a bad).2.2).2.2).1 (64 : Int)) != (0 : Int)), [], l, (ql l (1 : Int) (ql l (2 : Int) (ql l (2 : Int) a bad).2.1 (ql l (2 : Int) a bad).2.2).2.1 (ql l (2 : Int) (ql l (2 : Int) a bad).2.1 (ql l (2 : Int) a bad).2.2).2.2).2.1, (ql l (1 : Int) (ql l (2 : Int) (ql l (2 : Int) a bad).2.1 (ql l (2 : Int) a bad).2.2).2.1 (ql l (2 : Int) (ql l (2 : Int) a bad).2.1 (ql l (2 : Int) a bad).2.2).2.2).2.2) else some ((ql l (2 : Int) a bad).1, (ql l (2 : Int) (ql l (2 : Int) a bad).2.1 (ql l (2 : Int) a bad).2.2).1, (bits BinOp.and .i64 (ql l (1 : Int) (ql l (2 : Int) (ql l (2 : Int) a bad).2.1 (ql l (2 : Int) a bad).2.2).2.1 (ql l (2 : Int) (ql l (2 : Int) a bad).2.1 (ql l (2 : Int) a bad).2.2).2.2).1 (3 : Int)), (bits BinOp.and .i64 (Int.fdiv (ql l (1 : Int) (ql l (2 : Int) (ql l (2 : Int) a bad).2.1 (ql l (2 : Int) a bad).2.2).2.1 (ql l (2 : Int) (ql l (2 : Int) a bad).2.1 (ql l (2 : Int) a bad).2.2).2.2).1 ((2 : Int) ^ (Min.min (Int.toNat (2 : Int)) (IntKind.bits .i64)))) (3 : Int)), (bits BinOp.and .i64 (Int.fdiv (ql l (1 : Int) (ql l (2 : Int) (ql l (2 : Int) a bad).2.1 (ql l (2 : Int) a bad).2.2).2.1 (ql l (2 : Int) (ql l (2 : Int) a bad).2.1 (ql l (2 : Int) a bad).2.2).2.2).1 ((2 : Int) ^ (Min.min (Int.toNat (4 : Int)) (IntKind.bits .i64)))) (3 : Int)), ((bits BinOp.and .i64 (ql l (1 : Int) (ql l (2 : Int) (ql l (2 : Int) a bad).2.1 (ql l (2 : Int) a bad).2.2).2.1 (ql l (2 : Int) (ql l (2 : Int) a bad).2.1 (ql l (2 : Int) a bad).2.2).2.2).1 (64 : Int)) != (0 : Int)), [], l, (ql l (1 : Int) (ql l (2 : Int) (ql l (2 : Int) a bad).2.1 (ql l (2 : Int) a bad).2.2).2.1 (ql l (2 : Int) (ql l (2 : Int) a bad).2.1 (ql l (2 : Int) a bad).2.2).2.2).2.1, (ql l (1 : Int) (ql l (2 : Int) (ql l (2 : Int) a bad).2.1 (ql l (2 : Int) a bad).2.2).2.1 (ql l (2 : Int) (ql l (2 : Int) a bad).2.1 (ql l (2 : Int) a bad).2.2).2.2).2.2)) else none) else none) else none)
def qc2.f (qa : Nat) (l : List Int) (a : Int) (bad : Bool) : Option (Int × Int × Int × Int × Int × Bool × LF × (List Int) × Int × Bool) := qc2.b l a bad
theorem qc2.eq (qa : Nat) (l : List Int) (a : Int) (bad : Bool) : (denF qnh loopN qa Tryz.f67 [.dat tQr true] [.fn (.func 24) [.ptr 0 0] []] [.box [.d (.sl (.int .u8)) l, .d tQi a, .d .bool bad]] qc2.k) = qc2.f qa l a bad := by
 kernel_rfl
theorem Qj.pure : Qj.f 9 () = some z8 := by kernel_rfl
theorem SOf.flat (c : Int) : SOf.f 9 c = (if (z6 1 1 == c) = true then some (1, 1, true) else if (z6 1 2 == c) = true then some (1, 2, true) else if (z6 1 3 == c) = true then some (1, 3, true) else
 if (z6 2 2 == c) = true then some (2, 2, true) else if (z6 2 3 == c) = true then some (2, 3, true) else if (z6 3 3 == c) = true then some (3, 3, true) else some (0, 0, false)) := by kernel_rfl
theorem SOf.pure (c : Int) : SOf.f 9 c = some ((zF z8 c).1, (zF z8 c).2.1, (zF z8 c).2.2) := by
 rw [SOf.flat]
 unfold z8 zF zF zF zF zF zF zF
 repeat' split
 all_goals rfl
theorem Qy (l : List Int) : inB l = true ↔ l.length < 1099511600000 ∧ ∀ c ∈ l, 0 ≤ c ∧ c ≤ 255 := by
 unfold inB
 rw [Bool.and_eq_true, qaQ]
 simp [List.all_eq_true]
theorem zA (l : List Int) (a : Int) : zk l a = true ↔ inB l = true ∧ 0 ≤ a ∧ a ≤ (l.length : Int) := by
 unfold zk
 simp only [Bool.and_eq_true, decide_eq_true_eq]
theorem qbC.pure (l : List Int) (hl : inB l = true) : qbC.f 0 l = some (l, 0, false) := by
 have hr' := ((Qy l).1 hl).1
 unfold qbC.f qbC.b
 rw [if_pos (by refine ⟨by omega, by omega, by omega, by omega⟩), if_pos (by simp)]
 simp
theorem qbB.pure (n : Int) (l : List Int) (a : Int) (bad : Bool) (hl : zk l a = true) : qbB.f 0 n l a bad = some ((qY l n a bad).1, (qY l n a bad).2.1, l, (qY l n a bad).2.2.1, (qY l n a bad).2.2.2) := by
 obtain ⟨h1, h2, h3⟩ := (zA l a).1 hl
 have h4 := ((Qy l).1 h1).1
 unfold qbB.f qbB.b qY
 cases bad
 ·simp only [Bool.false_eq_true, if_false]
  by_cases c1 : n < 0
  ·simp [c1]
  ·rw [qK ((l.length : Int) - a) (by omega) (by omega)]
   by_cases c2 : n > (l.length : Int) - a
   ·simp [c1, c2]
   ·rw [qK (a + n) (by omega) (by omega)]
    rw [if_neg (by simpa using c1), if_neg (by simpa using c2), if_pos ⟨h2, by omega, by omega⟩, if_neg (by simp [c1]; omega)]
    rfl
 ·rfl
theorem qdF.pure (l : List Int) (a : Int) (bad : Bool) : qdF.f 0 l a bad = some (bad, l, a, bad) := rfl
theorem qbz.pure (l : List Int) (a : Int) (bad : Bool) (hl : zk l a = true) : qbz.f 0 l a bad = some (Zm l a bad, l, a, bad) := by
 obtain ⟨h1, h2, h3⟩ := (zA l a).1 hl
 have h4 := ((Qy l).1 h1).1
 unfold qbz.f qbz.b Zm
 rw [qK _ (by omega) (by omega)]
 cases bad <;> rfl
theorem qbA.pure (l : List Int) (a : Int) (bad : Bool) (hl : zk l a = true) : qbA.f 0 l a bad = some (!bad && (Zm l a bad == 0), l, a, bad) := by
 unfold qbA.f qbA.b
 rw [hl]
 cases bad <;> rfl
theorem or8 (x c : Int) (h0 : 0 ≤ x) (h1 : x < 281474976710656) (c0 : 0 ≤ c) (c1 : c ≤ 255) : bits BinOp.or .i64 (IntKind.wrap .i64 (x * ((2 : Int) ^ (Min.min (Int.toNat (8 : Int)) (IntKind.bits .i64))))) (IntKind.wrap .i64 c) = x * 256 + c := by
 have hp : ((2 : Int) ^ (Min.min (Int.toNat (8 : Int)) (IntKind.bits .i64))) = 256 := rfl
 rw [hp, qK (x * 256) (by omega) (by omega), qK c (by omega) (by omega)]
 obtain ⟨X, rfl⟩ := Int.eq_ofNat_of_zero_le h0
 obtain ⟨C, rfl⟩ := Int.eq_ofNat_of_zero_le c0
 unfold bits
 dsimp only
 have e1 : ((X : Int) * 256) = ((X * 256 : Nat) : Int) := by omega
 rw [e1]
 have b64 : IntKind.bits .i64 = 64 := rfl
 have t1 : (BitVec.ofInt (IntKind.bits .i64) ((X * 256 : Nat) : Int)).toNat = X * 256 := by
  rw [b64, BitVec.ofInt_natCast, BitVec.toNat_ofNat, Nat.mod_eq_of_lt (by omega)]
 have t2 : (BitVec.ofInt (IntKind.bits .i64) (C : Int)).toNat = C := by
  rw [b64, BitVec.ofInt_natCast, BitVec.toNat_ofNat, Nat.mod_eq_of_lt (by omega)]
 rw [BitVec.toNat_or, t1, t2]
 have t3 : X * 256 ||| C = X * 256 + C := by
  have := Nat.shiftLeft_add_eq_or_of_lt (a := X) (b := C) (i := 8) (by omega)
  rw [Nat.shiftLeft_eq] at this
  exact this.symm
 rw [t3, qK _ (by omega) (by omega)]
 omega
theorem Q5.loop (qa : Nat) (n : Int) (l : List Int) (a0 : Int) (bad0 : Bool) (p : List Int) (hp : p.length ≤ 7) (hb : ∀ c ∈ p, 0 ≤ c ∧ c ≤ 255) (a : Int) (bad : Bool) : ∀ (k i : Nat) (v : Int), i ≤ p.length → p.length - i < k → 0 ≤ v → v < 256 ^ i →
  Q5.l8 qa n l a0 bad0 k v p (p.length : Int) (i : Int) a bad = some ((p.drop i).foldl (fun v c => v * 256 + c) v, l, a, bad) := by
 intro k
 induction k with
 | zero => intro i v h1 h2; omega
 | succ k ih =>
  intro i v h1 h2 h3 h4
  rw [Q5.l8]
  unfold Q5.b8
  by_cases hi : i < p.length
  ·rw [if_pos (by simp; omega), Qn, List.getElem?_eq_getElem hi]
   dsimp only
   obtain ⟨b1, b2⟩ := hb p[i] (List.getElem_mem hi)
   have hv : v < 281474976710656 := by
    have : i = 0 ∨ i = 1 ∨ i = 2 ∨ i = 3 ∨ i = 4 ∨ i = 5 ∨ i = 6 := by omega
    rcases this with rfl | rfl | rfl | rfl | rfl | rfl | rfl <;> simp at h4 <;> omega
   rw [or8 v _ h3 hv b1 b2, qK _ (by omega) (by omega), List.drop_eq_getElem_cons hi]
   rw [show ((i : Int) + 1) = ((i + 1 : Nat) : Int) from by omega]
   exact ih (i + 1) _ (by omega) (by omega) (by omega) (by rw [Int.pow_succ]; generalize (256 : Int) ^ i = M at h4 ⊢; omega)
  ·rw [if_neg (by simp; omega), List.drop_of_length_le (by omega)]
   rfl
theorem qdL (l : List Int) (a n : Int) (h2 : 0 ≤ a) (h0 : 0 ≤ n) (h3 : n ≤ (l.length : Int) - a) : (seg l a n).length = n.toNat := by
 unfold seg
 simp
 omega
theorem qiu {l : List Int} {a n c : Int} (h : c ∈ seg l a n) : c ∈ l := List.mem_of_mem_take (List.mem_of_mem_drop h)
theorem qfT (l : List Int) (a : Int) (bad : Bool) : qY l (-1) a bad = ([], false, a, true) := by
 unfold qY
 cases bad
 ·simp
 ·rfl
theorem Q5.pure (n : Int) (l : List Int) (a : Int) (bad : Bool) (hl : zk l a = true) : Q5.f 9 n l a bad = some ((ql l n a bad).1, l, (ql l n a bad).2.1, (ql l n a bad).2.2) := by
 obtain ⟨h1, h2, h3⟩ := (zA l a).1 hl
 obtain ⟨h4, h5⟩ := (Qy l).1 h1
 unfold Q5.f Q5.b ql
 rw [hl, qfT]
 by_cases c1 : n < 1
 ·simp [c1, qfT]
 ·by_cases c2 : n > 7
  ·simp [c1, c2, qfT]
  ·simp only [c1, c2, decide_false, Bool.or_self, Bool.false_eq_true, if_false, if_true]
   cases hs : (qY l n a bad).2.1
   ·simp
   ·simp only [Bool.not_true, Bool.false_eq_true, if_false, if_true]
    have hp : (qY l n a bad).1 = seg l a n ∧ n ≤ (l.length : Int) - a := by
     unfold qY at hs ⊢
     split at hs
     ·cases hs
     ·split at hs
      ·cases hs
      ·rename_i k1 k2
       rw [if_neg k1, if_neg k2]
       simp only [Bool.or_eq_true, decide_eq_true_eq, not_or] at k2
       exact ⟨rfl, by omega⟩
    rw [hp.1]
    have := Q5.loop 9 n l a bad (seg l a n) (by rw [qdL l a n h2 (by omega) hp.2]; omega) (fun c hc => h5 c (qiu hc)) (qY l n a bad).2.2.1 (qY l n a bad).2.2.2 9 0 0 (by omega) (by rw [qdL l a n h2 (by omega) hp.2]; omega) (by omega) (by simp)
    exact this
theorem Qk (l : List Int) (n a : Int) (bad : Bool) (hl : zk l a = true) : zk l (ql l n a bad).2.1 = true := by
 obtain ⟨h1, h2, h3⟩ := (zA l a).1 hl
 refine (zA _ _).2 ⟨h1, ?_⟩
 have key : ∀ m, 0 ≤ (qY l m a bad).2.2.1 ∧ (qY l m a bad).2.2.1 ≤ (l.length : Int) := by
  intro m
  unfold qY
  cases bad
  ·rw [if_neg (by simp)]
   split
   ·exact ⟨h2, h3⟩
   ·rename_i k2
    simp only [Bool.or_eq_true, decide_eq_true_eq, not_or] at k2
    dsimp only
    omega
  ·exact ⟨h2, h3⟩
 exact key _
theorem qdN (l : List Int) (a : Int) (bad : Bool) (hl : zk l a = true) : 0 ≤ (ql l 1 a bad).1 ∧ (ql l 1 a bad).1 ≤ 255 := by
 obtain ⟨h1, h2, h3⟩ := (zA l a).1 hl
 obtain ⟨h4, h5⟩ := (Qy l).1 h1
 unfold ql
 have hn : (if (decide ((1 : Int) < 1) || decide ((1 : Int) > 7)) = true then (-1 : Int) else 1) = 1 := by decide
 dsimp only
 rw [hn]
 split
 ·rename_i hs
  unfold qY at hs ⊢
  split at hs
  ·cases hs
  ·split at hs
   ·cases hs
   ·rename_i k1 k2
    rw [if_neg k1, if_neg k2]
    simp only [Bool.or_eq_true, decide_eq_true_eq, not_or] at k2
    have hlen := qdL l a 1 h2 (by omega) (by omega)
    have : ∃ c, seg l a 1 = [c] := by
     match hh : seg l a 1, hlen with
     | [c], _ => exact ⟨c, rfl⟩
    obtain ⟨c, hc⟩ := this
    have := h5 c (qiu (a := a) (n := 1) (by rw [hc]; simp))
    dsimp only
    rw [hc]
    simp [QL]
    omega
 ·omega
def qk3 : Bool := (List.range 256).all fun v => bits BinOp.and .i64 (v : Int) 3 == (v : Int) % 4 && bits BinOp.and .i64 (Int.fdiv (v : Int) 4) 3 == (v : Int) / 4 % 4 && bits BinOp.and .i64 (Int.fdiv (v : Int) 16) 3 == (v : Int) / 16 % 4 && ((bits BinOp.and .i64 (v : Int) 64 != 0) == ((v : Int) / 64 % 2 == 1))
theorem qnT : qk3 = true := by kernel_rfl
theorem qoj (v : Int) (h0 : 0 ≤ v) (h1 : v ≤ 255) : bits BinOp.and .i64 v 3 = v % 4 ∧ bits BinOp.and .i64 (Int.fdiv v 4) 3 = v / 4 % 4 ∧ bits BinOp.and .i64 (Int.fdiv v 16) 3 = v / 16 % 4 ∧ (bits BinOp.and .i64 v 64 != 0) = (v / 64 % 2 == 1) := by
 have := qnT
 unfold qk3 at this
 have h := List.all_eq_true.1 this v.toNat (List.mem_range.2 (by omega))
 rw [Int.toNat_of_nonneg h0] at h
 simp only [Bool.and_eq_true, beq_iff_eq] at h
 exact ⟨h.1.1.1, h.1.1.2, h.1.2, h.2⟩
theorem qc2.pure (l : List Int) (a : Int) (bad : Bool) (hl : zk l a = true) : qc2.f 0 l a bad = some ((Qx l a bad).1.1, (Qx l a bad).1.2.1, (Qx l a bad).1.2.2.1, (Qx l a bad).1.2.2.2.1.1, (Qx l a bad).1.2.2.2.1.2, (Qx l a bad).1.2.2.2.2.1, [], l, (Qx l a bad).2.1, (Qx l a bad).2.2) := by
 unfold qc2.f qc2.b Qx
 have h2 := Qk l 2 a bad hl
 have h3 := Qk l 2 _ (ql l 2 a bad).2.2 h2
 have hb := qdN l _ (ql l 2 (ql l 2 a bad).2.1 (ql l 2 a bad).2.2).2.2 h3
 rw [if_pos hl, if_pos h2, if_pos h3]
 obtain ⟨e1, e2, e3, e4⟩ := qoj _ hb.1 hb.2
 have p1 : ((2 : Int) ^ (Min.min (Int.toNat (2 : Int)) (IntKind.bits .i64))) = 4 := rfl
 have p2 : ((2 : Int) ^ (Min.min (Int.toNat (4 : Int)) (IntKind.bits .i64))) = 16 := rfl
 rw [p1, p2, e1, e2, e3, e4]
 dsimp only
 split <;> rfl
theorem qmJ : SumDet qfi := zi fun _ _ _ _ => by
 unfold qfi
 simp only
 split
 ·first | rfl | (split <;> rfl)
 ·rfl
theorem qnt : SumOk Tryz.prog 89 qfi := by
 have hE : EnvOk Tryz.prog qim := env_ok (l := []) th_ok qU trivial _
 refine sum_ok hE Tryz.func89 rfl (by kernel_rfl) qfi [.own 41 (.pair tQi tQi)] Qj.k ?_
 intro R avs qj κ r h
 unfold qfi at h
 simp only at h
 split at h
 ·skip
  refine ⟨9, _, _, _, (Qj.eq (9) ()).trans (Qj.pure), ?_, h⟩
  intro rs ros hk
  unfold Qj.k at hk
  split at hk
  ·first | (cases hk; exact ⟨rfl, rfl⟩) | (rw [← Option.some.inj hk]; exact ⟨rfl, rfl⟩)
  ·cases hk
 ·cases h
theorem qjL : SumOk Tryz.prog 65 qlw := by
 have hE : EnvOk Tryz.prog qmf := env_ok (l := [(89, qfi), (62, Z2)]) th_ok qU ⟨⟨qnt, qmJ⟩, ⟨qcA, qb1⟩, trivial⟩ _
 refine sum_ok hE Tryz.func65 rfl (by kernel_rfl) qlw [.dat (.pair tQi tQi) true, .raw] SOf.k ?_
 intro R avs qj κ r h
 unfold qlw at h
 simp only at h
 split at h
 ·rename_i c
  refine ⟨9, _, _, _, (SOf.eq (9) c).trans (SOf.pure c), ?_, h⟩
  intro rs ros hk
  unfold SOf.k at hk
  split at hk
  ·first | (cases hk; exact ⟨rfl, rfl⟩) | (rw [← Option.some.inj hk]; exact ⟨rfl, rfl⟩)
  ·cases hk
 ·cases h
theorem qbW : SumDet Z1 := zi fun _ _ _ _ => by
 unfold Z1
 simp only
 split
 ·first | rfl | (split <;> rfl)
 ·rfl
theorem qcx : SumOk Tryz.prog 23 Z1 := by
 have hE : EnvOk Tryz.prog qlc := env_ok (l := []) th_ok qU trivial _
 refine sum_ok hE Tryz.func23 rfl (by kernel_rfl) Z1 [.fz] qbC.k ?_
 intro R avs qj κ r h
 unfold Z1 at h
 simp only at h
 split at h
 ·rename_i l
  split at h
  case isFalse => cases h
  rename_i hl
  refine ⟨0, _, _, _, (qbC.eq (0) l).trans (qbC.pure l hl), ?_, h⟩
  intro rs ros hk
  unfold qbC.k at hk
  split at hk
  ·first | (cases hk; exact ⟨rfl, rfl⟩) | (rw [← Option.some.inj hk]; exact ⟨rfl, rfl⟩)
  ·cases hk
 ·cases h
theorem qhI : SumDet qcL := zi fun _ _ _ _ => by
 unfold qcL
 simp only
 split
 ·first | rfl | (split <;> rfl)
 ·rfl
theorem qi2 : SumOk Tryz.prog 51 qcL := by
 have hE : EnvOk Tryz.prog qlb := env_ok (l := []) th_ok qU trivial _
 refine sum_ok hE Tryz.func51 rfl (by kernel_rfl) qcL [.dat (.sl (.int .u8)) false, .raw] qbB.k ?_
 intro R avs qj κ r h
 unfold qcL at h
 simp only at h
 split at h
 ·rename_i n l a bad
  split at h
  case isFalse => cases h
  rename_i hl
  refine ⟨0, _, _, _, (qbB.eq (0) n l a bad).trans (qbB.pure n l a bad hl), ?_, h⟩
  intro rs ros hk
  unfold qbB.k at hk
  split at hk
  ·first | (cases hk; exact ⟨rfl, rfl⟩) | (rw [← Option.some.inj hk]; exact ⟨rfl, rfl⟩)
  ·cases hk
 ·cases h
theorem qhK : SumDet qcM := zi fun _ _ _ _ => by
 unfold qcM
 simp only
 split
 ·first | rfl | (split <;> rfl)
 ·rfl
theorem qei : SumOk Tryz.prog 24 qcM := by
 have hE : EnvOk Tryz.prog qkh := env_ok (l := [(51, qcL)]) th_ok qU ⟨⟨qi2, qhI⟩, trivial⟩ _
 refine sum_ok hE Tryz.func24 rfl (by kernel_rfl) qcM [.raw] Q5.k ?_
 intro R avs qj κ r h
 unfold qcM at h
 simp only at h
 split at h
 ·rename_i n l a bad
  split at h
  case isFalse => cases h
  rename_i hl
  refine ⟨9, _, _, _, (Q5.eq (9) n l a bad).trans (Q5.pure n l a bad hl), ?_, h⟩
  intro rs ros hk
  unfold Q5.k at hk
  split at hk
  ·first | (cases hk; exact ⟨rfl, rfl⟩) | (rw [← Option.some.inj hk]; exact ⟨rfl, rfl⟩)
  ·cases hk
 ·cases h
theorem qa9 : SumDet ZY := zi fun _ _ _ _ => by
 unfold ZY
 simp only
 split
 ·first | rfl | (split <;> rfl)
 ·rfl
theorem qbN : SumOk Tryz.prog 66 ZY := by
 have hE : EnvOk Tryz.prog qng := env_ok (l := []) th_ok qU trivial _
 refine sum_ok hE Tryz.func66 rfl (by kernel_rfl) ZY [.raw] qdF.k ?_
 intro R avs qj κ r h
 unfold ZY at h
 simp only at h
 split at h
 ·rename_i l a bad
  refine ⟨0, _, _, _, (qdF.eq (0) l a bad).trans (qdF.pure l a bad), ?_, h⟩
  intro rs ros hk
  unfold qdF.k at hk
  split at hk
  ·first | (cases hk; exact ⟨rfl, rfl⟩) | (rw [← Option.some.inj hk]; exact ⟨rfl, rfl⟩)
  ·cases hk
 ·cases h
theorem qhN : SumDet qcO := zi fun _ _ _ _ => by
 unfold qcO
 simp only
 split
 ·first | rfl | (split <;> rfl)
 ·rfl
theorem qi4 : SumOk Tryz.prog 90 qcO := by
 have hE : EnvOk Tryz.prog qk9 := env_ok (l := [(66, ZY)]) th_ok qU ⟨⟨qbN, qa9⟩, trivial⟩ _
 refine sum_ok hE Tryz.func90 rfl (by kernel_rfl) qcO [.raw] qbz.k ?_
 intro R avs qj κ r h
 unfold qcO at h
 simp only at h
 split at h
 ·rename_i l a bad
  split at h
  case isFalse => cases h
  rename_i hl
  refine ⟨0, _, _, _, (qbz.eq (0) l a bad).trans (qbz.pure l a bad hl), ?_, h⟩
  intro rs ros hk
  unfold qbz.k at hk
  split at hk
  ·first | (cases hk; exact ⟨rfl, rfl⟩) | (rw [← Option.some.inj hk]; exact ⟨rfl, rfl⟩)
  ·cases hk
 ·cases h
theorem qfg : SumDet qbL := zi fun _ _ _ _ => by
 unfold qbL
 simp only
 split
 ·first | rfl | (split <;> rfl)
 ·rfl
theorem qf4 : SumOk Tryz.prog 68 qbL := by
 have hE : EnvOk Tryz.prog qla := env_ok (l := [(66, ZY), (90, qcO)]) th_ok qU ⟨⟨qbN, qa9⟩, ⟨qi4, qhN⟩, trivial⟩ _
 refine sum_ok hE Tryz.func68 rfl (by kernel_rfl) qbL [.raw] qbA.k ?_
 intro R avs qj κ r h
 unfold qbL at h
 simp only at h
 split at h
 ·rename_i l a bad
  split at h
  case isFalse => cases h
  rename_i hl
  refine ⟨0, _, _, _, (qbA.eq (0) l a bad).trans (qbA.pure l a bad hl), ?_, h⟩
  intro rs ros hk
  unfold qbA.k at hk
  split at hk
  ·first | (cases hk; exact ⟨rfl, rfl⟩) | (rw [← Option.some.inj hk]; exact ⟨rfl, rfl⟩)
  ·cases hk
 ·cases h
theorem qjN : SumOk Tryz.prog 67 qlE := by
 have hE : EnvOk Tryz.prog qnh := env_ok (l := [(24, qcM)]) th_ok qU ⟨⟨qei, qhK⟩, trivial⟩ _
 refine sum_ok hE Tryz.func67 rfl (by kernel_rfl) qlE [.dat tQr true] qc2.k ?_
 intro R avs qj κ r h
 unfold qlE at h
 simp only at h
 split at h
 ·rename_i l a bad
  split at h
  case isFalse => cases h
  rename_i hl
  refine ⟨0, _, _, _, (qc2.eq (0) l a bad).trans (qc2.pure l a bad hl), ?_, h⟩
  intro rs ros hk
  unfold qc2.k at hk
  split at hk
  ·first | (cases hk; exact ⟨rfl, rfl⟩) | (rw [← Option.some.inj hk]; exact ⟨rfl, rfl⟩)
  ·cases hk
 ·cases h
def QO : Den.Sum := ⟨[.raw, .raw], fun qA qj κ => match qA, qj with
 | [.ptr 0 0, .d (.int .i64) n], [.box [.d (.sl (.int .u8)) l, .d (.int .i64) a, .d .bool bad]] => if zk l a = true then (match veil (some (ql l n a bad)) with | none => none | some y => κ [.d (.int .i64) y.1] [.box [.d (.sl (.int .u8)) l, .d (.int .i64) y.2.1, .d .bool y.2.2]]) else none
 | _, _ => none⟩
def qeR : Den.Sum := ⟨[.raw], fun qA qj κ => match qA, qj with
 | [.fn (.func 24) [.ptr 0 0] []], [.box [.d (.sl (.int .u8)) l, .d (.int .i64) a, .d .bool bad]] => if zk l a = true then (match veil (some (Qx l a bad)) with | none => none | some y => κ [.agg [.d (.int .i64) y.1.1, .d (.int .i64) y.1.2.1, .d (.int .i64) y.1.2.2.1, .d (.int .i64) y.1.2.2.2.1.1, .d (.int .i64) y.1.2.2.2.1.2, .d .bool y.1.2.2.2.2.1, .d (.sl (.pair (.int .i64) (.sl (.int .u8)))) []]] [.box [.d (.sl (.int .u8)) l, .d (.int .i64) y.2.1, .d .bool y.2.2]]) else none
 | _, _ => none⟩
def qcf : Den.Sum := ⟨[.raw], fun qA qj κ => match qA, qj with
 | [.d (.int .i64) c], [] => match veil (some (zF z8 c)) with | none => none | some y => κ [.agg [.d (.int .i64) y.1, .d (.int .i64) y.2.1], .d .bool y.2.2] []
 | _, _ => none⟩
theorem ZX : SumDet QO := zi fun _ _ _ _ => by
 unfold QO
 simp only [veil_eq]
 split
 ·first | rfl | (split <;> rfl)
 ·rfl
theorem qai : SumOk Tryz.prog 24 QO := ⟨qei.1, fun avs qj κ r hr => qei.2 avs qj κ r (by
 unfold QO at hr
 simp only [veil_eq] at hr
 split at hr
 ·exact hr
 ·cases hr)⟩
theorem qlD : SumDet qeR := zi fun _ _ _ _ => by
 unfold qeR
 simp only [veil_eq]
 split
 ·first | rfl | (split <;> rfl)
 ·rfl
theorem qmB : SumOk Tryz.prog 67 qeR := ⟨qjN.1, fun avs qj κ r hr => qjN.2 avs qj κ r (by
 unfold qeR at hr
 simp only [veil_eq] at hr
 split at hr
 ·exact hr
 ·cases hr)⟩
theorem qe9 : SumDet qcf := zi fun _ _ _ _ => by
 unfold qcf
 simp only [veil_eq]
 split
 ·first | rfl | (split <;> rfl)
 ·rfl
theorem qf2 : SumOk Tryz.prog 65 qcf := ⟨qjL.1, fun avs qj κ r hr => qjL.2 avs qj κ r (by
 unfold qcf at hr
 simp only [veil_eq] at hr
 split at hr
 ·exact hr
 ·cases hr)⟩
def qgp : Env := ⟨th, gam [(23, Z1), (65, qcf), (67, qeR), (59, qb0), (24, QO), (66, ZY), (68, qbL)], fun i => if i = 13 then ⟨[2, 4, 5, 6, 8, 9, 10], [(1394, 115, tQr)], []⟩ else ⟨[], [], []⟩⟩
def zS.k (rs : List AV) (os : List Den.Obj) : Option (Int × Int × Int × Int × Int × Int × Int × Int × Int × Int × LR × Int) :=
 match rs, os with
 | [.agg [.d (.int .i64) r0, .d (.int .i64) r1, .d (.int .i64) r2, .d (.int .i64) r3, .d (.int .i64) r4, .d (.int .i64) r5, .d (.int .i64) r6, .d (.int .i64) r7, .d (.int .i64) r8, .d (.int .i64) r9, .d (.sl (.pair (.int .i64) (.pair (.int .i64) (.pair (.int .i64) (.pair (.pair (.int .i64) (.int .i64)) (.pair .bool (.sl (.pair (.int .i64) (.sl (.int .u8)))))))))) r10], .d (.int .i64) r11], [] => some (r0, r1, r2, r3, r4, r5, r6, r7, r8, r9, r10, r11)
 | _, _ => none
def zS.s13 (l : List Int) (x8 : Bool) (x9 x10 x11 : Int) (x12 : Bool) (x13 x14 x15 x16 x17 x18 x19 : Int) (x20 : LR) : St := ⟨[.dead, .dead, .ptr 64 0, .dead, .ptr 65 0, .fn (.func 24) [.ptr 65 0] [], .ptr 66 0, .dead, .d .bool x8, .d tQi x9, .d tQi x10, dD, dD, dD, dD, dD, dD, dD, dD, dD, dD, dD, dD, dD, dD, dD, dD, dD, dD, dD, dD, dD, dD, dD, dD, dD, dD, dD, dD, dD, dD, dD, dD, dD, dD, dD, dD, dD, dD, dD, dD, dD, dD, dD, dD, dD, dD, dD, dD, dD, dD, dD, dD, dD, dD, dD, dD, dD, dD, dD, .dead], ofL [(64, .box [.d tQi (0), .d tQi (0), .d tQi (0), .d tQi (0), .d tQi (0), .d tQi (0), .d tQi (0), .d tQi (0), .d tQi (0), .d tQi (0), .nilsl]), (65, .box [.d (.sl (.int .u8)) (l), .d tQi x11, .d .bool x12]), (66, .box [.d tQi x13, .d tQi x14, .d tQi x15, .d tQi x16, .d tQi x17, .d tQi x18, .d tQi x19, .d tQi (0), .d tQi (0), .d tQi (0), .row 67]), (67, .row 115 tQr x20 false)], 0⟩
def zS.p13 (qa : Nat) (l : List Int) (k : Nat) := fun x8 x9 x10 x11 x12 x13 x14 x15 x16 x17 x18 x19 x20 => lp qgp qa Tryz.f43 [.dat (.pair tQi (.pair tQi (.pair tQi (.pair (.pair tQi tQi) (.pair tQi (.pair tQi (.pair tQi (.pair tQi (.pair tQi (.sl tQr)))))))))) true, .raw] 0 zS.k 13 [] k (zS.s13 l x8 x9 x10 x11 x12 x13 x14 x15 x16 x17 x18 x19 x20)
def zS.b13 (l : List Int) (A13 : Bool → Int → Int → Int → Bool → Int → Int → Int → Int → Int → Int → Int → LR → Option (Int × Int × Int × Int × Int × Int × Int × Int × Int × Int × LR × Int)) (x8 : Bool) (x9 : Int) (x10 : Int) (x11 : Int) (x12 : Bool) (x13 : Int) (x14 : Int) (x15 : Int) (x16 : Int) (x17 : Int) (x18 : Int) (x19 : Int) (x20 : LR) : Option (Int × Int × Int × Int × Int × Int × Int × Int × Int × Int × LR × Int) :=
 (if (decide (x10 < x9)) then (if (!x12) then (if (zk l x11) then (match (veil (Option.some (Qx l x11 x12))) with | none => none | some y21 => (if ((((List.length x20) + (List.length ((y21.1.1, (y21.1.2.1, (y21.1.2.2.1, ((y21.1.2.2.2.1.1, y21.1.2.2.2.1.2), (y21.1.2.2.2.2.1, ([] : LF)))))) :: ([] : LR)))) * (72 : Nat)) ≤ lim) then A13 x8 x9 (IntKind.wrap .i64 (x10 + (1 : Int))) y21.2.1 y21.2.2 x13 x14 x15 x16 x17 x18 x19 (x20 ++ ((y21.1.1, (y21.1.2.1, (y21.1.2.2.1, ((y21.1.2.2.2.1.1, y21.1.2.2.2.1.2), (y21.1.2.2.2.2.1, ([] : LF)))))) :: ([] : LR))) else none)) else none) else (if (!x8) then some (0, 0, 0, 0, 0, 0, 0, 0, 0, 0, ([] : LR), (4 : Int)) else (if (zk l x11) then (if (!((!x12) && ((Zm l x11 x12) == (0 : Int)))) then some (0, 0, 0, 0, 0, 0, 0, 0, 0, 0, ([] : LR), (4 : Int)) else (if (za x20) then (if (!(qak x13 x14 x15 x16 x17 x18 x19 0 0 0 x20)) then some (0, 0, 0, 0, 0, 0, 0, 0, 0, 0, ([] : LR), (4 : Int)) else some (x13, x14, x15, x16, x17, x18, x19, 0, 0, 0, x20, (0 : Int))) else none)) else none))) else (if (!x8) then some (0, 0, 0, 0, 0, 0, 0, 0, 0, 0, ([] : LR), (4 : Int)) else (if (zk l x11) then (if (!((!x12) && ((Zm l x11 x12) == (0 : Int)))) then some (0, 0, 0, 0, 0, 0, 0, 0, 0, 0, ([] : LR), (4 : Int)) else (if (za x20) then (if (!(qak x13 x14 x15 x16 x17 x18 x19 0 0 0 x20)) then some (0, 0, 0, 0, 0, 0, 0, 0, 0, 0, ([] : LR), (4 : Int)) else some (x13, x14, x15, x16, x17, x18, x19, 0, 0, 0, x20, (0 : Int))) else none)) else none)))
def zS.l13 (qa : Nat) (l : List Int) : Nat → Bool → Int → Int → Int → Bool → Int → Int → Int → Int → Int → Int → Int → LR → Option (Int × Int × Int × Int × Int × Int × Int × Int × Int × Int × LR × Int)
 | 0, _, _, _, _, _, _, _, _, _, _, _, _, _ => none
 | k + 1, x8, x9, x10, x11, x12, x13, x14, x15, x16, x17, x18, x19, x20 => zS.b13 l (zS.l13 qa l k) x8 x9 x10 x11 x12 x13 x14 x15 x16 x17 x18 x19 x20
def zS.b (l : List Int) (E13 : Bool → Int → Int → Int → Bool → Int → Int → Int → Int → Int → Int → Int → LR → Option (Int × Int × Int × Int × Int × Int × Int × Int × Int × Int × LR × Int)) : Option (Int × Int × Int × Int × Int × Int × Int × Int × Int × Int × LR × Int) :=
 (if (inB l) then (if (zk l 0) then (match (veil (Option.some (ql l (1 : Int) 0 false))) with | none => none | some y0 => (if (zk l y0.2.1) then (match (veil (Option.some (ql l (2 : Int) y0.2.1 y0.2.2))) with | none => none | some y1 => (if (zk l y1.2.1) then (match (veil (Option.some (ql l (6 : Int) y1.2.1 y1.2.2))) with | none => none | some y2 => (if (zk l y2.2.1) then (match (veil (Option.some (ql l (1 : Int) y2.2.1 y2.2.2))) with | none => none | some y3 => (match (veil (Option.some (zF z8 y3.1))) with | none => none | some y4 => (if (zk l y3.2.1) then (match (veil (Option.some (ql l (2 : Int) y3.2.1 y3.2.2))) with | none => none | some y5 => (if (zk l y5.2.1) then (match (veil (Option.some (ql l (2 : Int) y5.2.1 y5.2.2))) with | none => none | some y6 => (if (zk l y6.2.1) then (match (veil (Option.some (ql l (1 : Int) y6.2.1 y6.2.2))) with | none => none | some y7 => E13 y4.2.2 y7.1 (0 : Int) y7.2.1 y7.2.2 y0.1 y1.1 y2.1 y4.1 y4.2.1 y5.1 y6.1 ([] : LR)) else none)) else none)) else none))) else none)) else none)) else none)) else none) else none)
def zS.f (qa : Nat) (l : List Int) : Option (Int × Int × Int × Int × Int × Int × Int × Int × Int × Int × LR × Int) := zS.b l (zS.l13 qa l qa)
theorem zS.l13_eq (qa : Nat) (l : List Int) : ∀ k : Nat, zS.p13 qa l k = zS.l13 qa l k
 | 0 => by kernel_rfl
 | k + 1 => by
  refine Eq.trans (b := zS.b13 l (zS.p13 qa l k)) (by kernel_rfl) ?_
  rw [zS.l13_eq qa l k]
  kernel_rfl
theorem zS.eq (qa : Nat) (l : List Int) : (denF qgp loopN qa Tryz.f43 [.dat (.pair tQi (.pair tQi (.pair tQi (.pair (.pair tQi tQi) (.pair tQi (.pair tQi (.pair tQi (.pair tQi (.pair tQi (.sl tQr)))))))))) true, .raw] [.d (.sl (.int .u8)) l] [] zS.k) = zS.f qa l := by
 refine Eq.trans (b := zS.b l (zS.p13 qa l qa)) (by kernel_rfl) ?_
 rw [zS.l13_eq qa l qa]
 kernel_rfl
def Zc (l : List Int) : Nat → Int → Bool → LR × Int × Bool
 | 0, a, bad => ([], a, bad)
 | k + 1, a, bad => if bad then ([], a, bad) else ((Qx l a bad).1 :: (Zc l k (Qx l a bad).2.1 (Qx l a bad).2.2).1, (Zc l k (Qx l a bad).2.1 (Qx l a bad).2.2).2)
def qhn (ok : Bool) (l : List Int) (a : Int) (bad : Bool) (qh qv inc lo hi seq qk : Int) (qg : LR) : Int × Int × Int × Int × Int × Int × Int × LR × Int :=
 if ok && ((!bad && (Zm l a bad == 0)) && qak qh qv inc lo hi seq qk 0 0 0 qg) then (qh, qv, inc, lo, hi, seq, qk, qg, 0) else (0, 0, 0, 0, 0, 0, 0, [], 4)
def Qc (l : List Int) : Int × Int × Int × Int × Int × Int × Int × LR × Int :=
 let r1 := ql l 1 0 false
 let r2 := ql l 2 r1.2.1 r1.2.2
 let r3 := ql l 6 r2.2.1 r2.2.2
 let r4 := ql l 1 r3.2.1 r3.2.2
 let s := zF z8 r4.1
 let r5 := ql l 2 r4.2.1 r4.2.2
 let r6 := ql l 2 r5.2.1 r5.2.2
 let r7 := ql l 1 r6.2.1 r6.2.2
 let d := Zc l r7.1.toNat r7.2.1 r7.2.2
 qhn s.2.2 l d.2.1 d.2.2 r1.1 r2.1 r3.1 s.1 s.2.1 r5.1 r6.1 d.1
theorem qkT (l : List Int) (a : Int) (bad : Bool) (hl : zk l a = true) : zk l (Qx l a bad).2.1 = true := by
 unfold Qx
 exact Qk l 1 _ _ (Qk l 2 _ _ (Qk l 2 a bad hl))
theorem qji (l : List Int) : ∀ (k : Nat) (a : Int) (bad : Bool), (Zc l k a bad).1.length ≤ k
 | 0, a, bad => by simp [Zc]
 | k + 1, a, bad => by
  unfold Zc
  split
  ·simp
  ·have := qji l k (Qx l a bad).2.1 (Qx l a bad).2.2
   simp; omega
theorem qih (l : List Int) : ∀ (k : Nat) (a : Int) (bad : Bool), ∀ r ∈ (Zc l k a bad).1, r.2.2.2.2.2 = []
 | 0, a, bad, r, hr => by simp [Zc] at hr
 | k + 1, a, bad, r, hr => by
  unfold Zc at hr
  split at hr
  ·simp at hr
  ·rcases List.mem_cons.1 hr with rfl | hr
   ·rfl
   ·exact qih l k _ _ r hr
theorem zS.loop (qa : Nat) (l : List Int) (ok : Bool) (n : Int) (hn : n ≤ 255) (qh qv inc lo hi seq qk : Int) : ∀ (k j : Nat) (i a : Int) (bad : Bool) (acc : LR), j < k → 0 ≤ i → i + (j : Int) = n → zk l a = true → (acc.length : Int) ≤ i → (∀ r ∈ acc, r.2.2.2.2.2 = []) →
  zS.l13 qa l k ok n i a bad qh qv inc lo hi seq qk acc = some (let e := qhn ok l (Zc l j a bad).2.1 (Zc l j a bad).2.2 qh qv inc lo hi seq qk (acc ++ (Zc l j a bad).1); (e.1, e.2.1, e.2.2.1, e.2.2.2.1, e.2.2.2.2.1, e.2.2.2.2.2.1, e.2.2.2.2.2.2.1, 0, 0, 0, e.2.2.2.2.2.2.2.1, e.2.2.2.2.2.2.2.2)) := by
 have fin : ∀ (a : Int) (bad : Bool) (acc : LR), zk l a = true → acc.length ≤ 300 → (∀ r ∈ acc, r.2.2.2.2.2 = []) →
   (if (!ok) = true then some ((0 : Int), (0 : Int), (0 : Int), (0 : Int), (0 : Int), (0 : Int), (0 : Int), (0 : Int), (0 : Int), (0 : Int), ([] : LR), (4 : Int)) else (if zk l a = true then (if (!((!bad) && ((Zm l a bad) == (0 : Int)))) = true then some (0, 0, 0, 0, 0, 0, 0, 0, 0, 0, [], (4 : Int)) else (if za acc = true then (if (!(qak qh qv inc lo hi seq qk 0 0 0 acc)) = true then some (0, 0, 0, 0, 0, 0, 0, 0, 0, 0, [], (4 : Int)) else some (qh, qv, inc, lo, hi, seq, qk, 0, 0, 0, acc, (0 : Int))) else none)) else none)) =
   some (let e := qhn ok l a bad qh qv inc lo hi seq qk acc; (e.1, e.2.1, e.2.2.1, e.2.2.2.1, e.2.2.2.2.1, e.2.2.2.2.2.1, e.2.2.2.2.2.2.1, 0, 0, 0, e.2.2.2.2.2.2.2.1, e.2.2.2.2.2.2.2.2)) := by
  intro a bad acc hl hlen hb
  have hs : za acc = true := (Zk acc).2 ⟨by omega, fun r hr => by rw [hb r hr]; rfl⟩
  unfold qhn
  rw [hl, hs]
  cases ok
  ·rfl
  ·cases (!bad && (Zm l a bad == 0))
   ·rfl
   ·cases qak qh qv inc lo hi seq qk 0 0 0 acc <;> rfl
 intro k
 induction k with
 | zero => intro j i a bad acc h1; omega
 | succ k ih =>
  intro j i a bad acc h1 h2 h3 h4 h5 h6
  rw [zS.l13]
  unfold zS.b13
  cases j with
  | zero =>
   rw [if_neg (by simp; omega)]
   have := fin a bad acc h4 (by omega) h6
   unfold Zc
   rw [List.append_nil]
   exact this
  | succ j =>
   rw [if_pos (by simp; omega)]
   cases bad with
   | true =>
    rw [if_neg (by simp)]
    have := fin a true acc h4 (by omega) h6
    unfold Zc
    rw [if_pos rfl, List.append_nil]
    exact this
   | false =>
    rw [if_pos (show (!false) = true from rfl), if_pos h4, veil_eq]
    dsimp only
    rw [if_pos (by simp [lim]; omega), qK (i + 1) (by omega) (by omega)]
    have hr : ((Qx l a false).1.1, ((Qx l a false).1.2.1, ((Qx l a false).1.2.2.1, (((Qx l a false).1.2.2.2.1.1, (Qx l a false).1.2.2.2.1.2), ((Qx l a false).1.2.2.2.2.1, ([] : LF)))))) = (Qx l a false).1 := rfl
    rw [hr, ih j (i + 1) (Qx l a false).2.1 (Qx l a false).2.2 (acc ++ [(Qx l a false).1]) (by omega) (by omega) (by omega) (qkT l a false h4) (by simp; omega) (fun r hr => by
     rcases List.mem_append.1 hr with hr | hr
     ·exact h6 r hr
     ·simp at hr; subst hr; rfl)]
    conv => rhs; rw [Zc]
    rw [if_neg (by simp), List.append_assoc, List.singleton_append]
theorem zS.pure (l : List Int) (hl : inB l = true) : zS.f 300 l = some (let e := Qc l; (e.1, e.2.1, e.2.2.1, e.2.2.2.1, e.2.2.2.2.1, e.2.2.2.2.2.1, e.2.2.2.2.2.2.1, 0, 0, 0, e.2.2.2.2.2.2.2.1, e.2.2.2.2.2.2.2.2)) := by
 have h0 : zk l 0 = true := (zA l 0).2 ⟨hl, by omega, by omega⟩
 unfold zS.f zS.b
 have h1 := Qk l 1 0 false h0
 have h2 := Qk l 2 _ (ql l 1 0 false).2.2 h1
 have h3 := Qk l 6 _ (ql l 2 (ql l 1 0 false).2.1 (ql l 1 0 false).2.2).2.2 h2
 simp only [veil_eq]
 rw [if_pos hl, if_pos h0, if_pos h1, if_pos h2, if_pos h3]
 generalize hr1 : ql l 1 0 false = r1 at *
 generalize hr2 : ql l 2 r1.2.1 r1.2.2 = r2 at *
 generalize hr3 : ql l 6 r2.2.1 r2.2.2 = r3 at *
 have h4 := Qk l 1 _ r3.2.2 h3
 rw [if_pos h4]
 generalize hr4 : ql l 1 r3.2.1 r3.2.2 = r4 at *
 have h5 := Qk l 2 _ r4.2.2 h4
 rw [if_pos h5]
 generalize hr5 : ql l 2 r4.2.1 r4.2.2 = r5 at *
 have h6 := Qk l 2 _ r5.2.2 h5
 rw [if_pos h6]
 generalize hr6 : ql l 2 r5.2.1 r5.2.2 = r6 at *
 have h7 := Qk l 1 _ r6.2.2 h6
 have hb := qdN l _ r6.2.2 h6
 have hd : Qc l = qhn (zF z8 r4.1).2.2 l (Zc l (ql l 1 r6.2.1 r6.2.2).1.toNat (ql l 1 r6.2.1 r6.2.2).2.1 (ql l 1 r6.2.1 r6.2.2).2.2).2.1 (Zc l (ql l 1 r6.2.1 r6.2.2).1.toNat (ql l 1 r6.2.1 r6.2.2).2.1 (ql l 1 r6.2.1 r6.2.2).2.2).2.2 r1.1 r2.1 r3.1 (zF z8 r4.1).1 (zF z8 r4.1).2.1 r5.1 r6.1 (Zc l (ql l 1 r6.2.1 r6.2.2).1.toNat (ql l 1 r6.2.1 r6.2.2).2.1 (ql l 1 r6.2.1 r6.2.2).2.2).1 := by
  unfold Qc
  simp only [hr1, hr2, hr3, hr4, hr5, hr6]
 rw [hd]
 have := zS.loop 300 l (zF z8 r4.1).2.2 (ql l 1 r6.2.1 r6.2.2).1 hb.2 r1.1 r2.1 r3.1 (zF z8 r4.1).1 (zF z8 r4.1).2.1 r5.1 r6.1 300 (ql l 1 r6.2.1 r6.2.2).1.toNat 0 (ql l 1 r6.2.1 r6.2.2).2.1 (ql l 1 r6.2.1 r6.2.2).2.2 [] (by omega) (by omega) (by omega) h7 (by simp) (by simp)
 rw [List.nil_append] at this
 exact this
def qlL : Den.Sum := ⟨[.dat (.sl (.int .u8)) false], fun qA qj κ => match qA, qj with
 | [.d (.sl (.int .u8)) l], [] => if inB l = true then κ [.agg [.d (.int .i64) (Qc l).1, .d (.int .i64) (Qc l).2.1, .d (.int .i64) (Qc l).2.2.1, .d (.int .i64) (Qc l).2.2.2.1, .d (.int .i64) (Qc l).2.2.2.2.1, .d (.int .i64) (Qc l).2.2.2.2.2.1, .d (.int .i64) (Qc l).2.2.2.2.2.2.1, .d (.int .i64) 0, .d (.int .i64) 0, .d (.int .i64) 0, .d (.sl (.pair (.int .i64) (.pair (.int .i64) (.pair (.int .i64) (.pair (.pair (.int .i64) (.int .i64)) (.pair .bool (.sl (.pair (.int .i64) (.sl (.int .u8)))))))))) ((Qc l).2.2.2.2.2.2.2.1)], .d (.int .i64) ((Qc l).2.2.2.2.2.2.2.2)] [] else none
 | _, _ => none⟩
def qeV : Den.Sum := ⟨[.dat (.sl (.int .u8)) false], fun qA qj κ => match qA, qj with
 | [.d (.sl (.int .u8)) l], [] => if inB l = true then (match veil (some (Qc l)) with | none => none | some y => κ [.agg [.d (.int .i64) y.1, .d (.int .i64) y.2.1, .d (.int .i64) y.2.2.1, .d (.int .i64) y.2.2.2.1, .d (.int .i64) y.2.2.2.2.1, .d (.int .i64) y.2.2.2.2.2.1, .d (.int .i64) y.2.2.2.2.2.2.1, .d (.int .i64) 0, .d (.int .i64) 0, .d (.int .i64) 0, .d (.sl (.pair (.int .i64) (.pair (.int .i64) (.pair (.int .i64) (.pair (.pair (.int .i64) (.int .i64)) (.pair .bool (.sl (.pair (.int .i64) (.sl (.int .u8)))))))))) (y.2.2.2.2.2.2.2.1)], .d (.int .i64) (y.2.2.2.2.2.2.2.2)] []) else none
 | _, _ => none⟩
theorem qjQ : SumOk Tryz.prog 43 qlL := by
 have hE : EnvOk Tryz.prog qgp := env_ok (l := [(23, Z1), (65, qcf), (67, qeR), (59, qb0), (24, QO), (66, ZY), (68, qbL)]) th_ok qU ⟨⟨qcx, qbW⟩, ⟨qf2, qe9⟩, ⟨qmB, qlD⟩, ⟨qhU, qgQ⟩, ⟨qai, ZX⟩, ⟨qbN, qa9⟩, ⟨qf4, qfg⟩, trivial⟩ _
 refine sum_ok hE Tryz.func43 rfl (by kernel_rfl) qlL [.dat (.pair tQi (.pair tQi (.pair tQi (.pair (.pair tQi tQi) (.pair tQi (.pair tQi (.pair tQi (.pair tQi (.pair tQi (.sl tQr)))))))))) true, .raw] zS.k ?_
 intro R avs qj κ r h
 unfold qlL at h
 simp only at h
 split at h
 ·rename_i l
  split at h
  case isFalse => cases h
  rename_i hl
  refine ⟨300, _, _, _, (zS.eq (300) l).trans (zS.pure l hl), ?_, h⟩
  intro rs ros hk
  unfold zS.k at hk
  split at hk
  ·first | (cases hk; exact ⟨rfl, rfl⟩) | (rw [← Option.some.inj hk]; exact ⟨rfl, rfl⟩)
  ·cases hk
 ·cases h
theorem qlJ : SumDet qeV := zi fun _ _ _ _ => by
 unfold qeV
 simp only [veil_eq]
 split
 ·first | rfl | (split <;> rfl)
 ·rfl
theorem qmF : SumOk Tryz.prog 43 qeV := ⟨qjQ.1, fun avs qj κ r hr => qjQ.2 avs qj κ r (by
 unfold qeV at hr
 simp only [veil_eq] at hr
 split at hr
 ·exact hr
 ·cases hr)⟩
theorem qk5 : ∀ (p : List Int) (n : Nat) (v : Int), (∀ c ∈ p, 0 ≤ c ∧ c ≤ 255) → be (n + p.length) (p.foldl (fun v c => v * 256 + c) v) = be n v ++ p
 | [], n, v, _ => by simp
 | c :: p, n, v, h => by
  have hc := h c (by simp)
  have ih := qk5 p (n + 1) (v * 256 + c) (fun x hx => h x (by simp [hx]))
  rw [List.length_cons, List.foldl_cons, show n + (p.length + 1) = n + 1 + p.length from by omega, ih]
  show (be n ((v * 256 + c) / 256) ++ [(v * 256 + c) % 256]) ++ p = _
  rw [show (v * 256 + c) / 256 = v from by omega, show (v * 256 + c) % 256 = c from by omega]
  simp
theorem qk4 (p : List Int) (h : ∀ c ∈ p, 0 ≤ c ∧ c ≤ 255) : be p.length (QL p) = p := by
 have := qk5 p 0 0 h
 rw [Nat.zero_add] at this
 exact this
theorem qbu (l : List Int) (n a : Int) (bad : Bool) (hl : zk l a = true) (h1 : 1 ≤ n) (h7 : n ≤ 7) (h : (ql l n a bad).2.2 = false) :
  bad = false ∧ (ql l n a bad).2.1 = a + n ∧ l.drop a.toNat = be n.toNat (ql l n a bad).1 ++ l.drop (a + n).toNat ∧ zk l (a + n) = true := by
 obtain ⟨k1, k2, k3⟩ := (zA l a).1 hl
 obtain ⟨k4, k5⟩ := (Qy l).1 k1
 have hn : (if (decide (n < 1) || decide (n > 7)) = true then (-1 : Int) else n) = n := if_neg (by simp; omega)
 unfold ql at h ⊢
 dsimp only at h ⊢
 rw [hn] at h ⊢
 cases bad with
 | true => simp [qY] at h
 | false =>
  unfold qY at h ⊢
  rw [if_neg (by simp)] at h ⊢
  by_cases hc : (decide (n < 0) || decide (n > (l.length : Int) - a)) = true
  ·rw [if_pos hc] at h
   cases h
  ·rw [if_neg hc]
   simp only [Bool.or_eq_true, decide_eq_true_eq, not_or] at hc
   refine ⟨rfl, rfl, ?_, (zA l _).2 ⟨k1, by omega, by omega⟩⟩
   dsimp only
   rw [if_pos rfl]
   have hb : be n.toNat (QL (seg l a n)) = seg l a n := by
    have := qk4 (seg l a n) (fun c hc => k5 c (qiu hc))
    rwa [qdL l a n k2 (by omega) (by omega)] at this
   rw [hb]
   unfold seg
   rw [List.drop_take, show (a + n).toNat = a.toNat + n.toNat from by omega, Nat.add_sub_cancel_left, ← List.drop_drop, List.take_append_drop]
theorem qoq (l : List Int) (a : Int) (bad : Bool) (hl : zk l a = true) (h : (Qx l a bad).2.2 = false) :
  bad = false ∧ (Qx l a bad).2.1 = a + 5 ∧ zk l (a + 5) = true ∧ (zu (Qx l a bad).1 = true → l.drop a.toNat = qct (Qx l a bad).1 ++ l.drop (a + 5).toNat) := by
 have e2 := Qk l 2 a bad hl
 have f := fun hh => qbu l 2 a bad hl (by omega) (by omega) hh
 unfold Qx at h ⊢
 dsimp only at h ⊢
 generalize ql l 2 a bad = r1 at *
 have e3 := Qk l 2 _ r1.2.2 e2
 have d := fun hh => qbu l 2 r1.2.1 r1.2.2 e2 (by omega) (by omega) hh
 generalize ql l 2 r1.2.1 r1.2.2 = r2 at *
 have hb := qdN l _ r2.2.2 e3
 have c := fun hh => qbu l 1 r2.2.1 r2.2.2 e3 (by omega) (by omega) hh
 generalize ql l 1 r2.2.1 r2.2.2 = r3 at *
 obtain ⟨c1, c2, c3, c4⟩ := c h
 obtain ⟨d1, d2, d3, d4⟩ := d c1
 obtain ⟨f1, f2, f3, f4⟩ := f d1
 have e5 : r2.2.1 + 1 = a + 5 := by omega
 refine ⟨f1, by omega, by rw [← e5]; exact c4, fun hr => ?_⟩
 obtain ⟨q1, _⟩ := zy hr
 dsimp only at q1
 have hv : ¬ (r3.1 > 127) := by
  intro hc
  rw [if_pos (by simpa using hc)] at q1
  omega
 rw [if_neg (by simpa using hv)]
 rw [f3, ← f2, d3, ← d2, c3, e5]
 have hs : qce (r1.1, r2.1, r3.1 % 4, (r3.1 / 4 % 4, r3.1 / 16 % 4), r3.1 / 64 % 2 == 1, ([] : LF)) = r3.1 := by
  unfold qce
  dsimp only
  by_cases h6 : r3.1 / 64 % 2 = 1
  ·rw [if_pos (by simpa using h6)]; omega
  ·rw [if_neg (by simpa using h6)]; omega
 unfold qct
 rw [hs]
 simp [n1, n2]
theorem qm5 (l : List Int) : ∀ (k : Nat) (a : Int) (bad : Bool), zk l a = true → (Zc l k a bad).2.2 = false → (∀ r ∈ (Zc l k a bad).1, zu r = true) →
  bad = false ∧ (Zc l k a bad).1.length = k ∧ zk l (Zc l k a bad).2.1 = true ∧ l.drop a.toNat = (Zc l k a bad).1.flatMap qct ++ l.drop (Zc l k a bad).2.1.toNat
 | 0, a, bad, hl, h, hr => ⟨h, rfl, hl, by simp [Zc]⟩
 | k + 1, a, bad, hl, h, hr => by
  unfold Zc at h hr ⊢
  cases bad with
  | true => simp at h
  | false =>
   rw [if_neg (by simp)] at h hr ⊢
   dsimp only at h hr ⊢
   have hat := qkT l a false hl
   obtain ⟨i1, i2, i3, i4⟩ := qm5 l k _ _ hat h (fun r hr' => hr r (by simp [hr']))
   obtain ⟨j1, j2, j3, j4⟩ := qoq l a false hl i1
   refine ⟨rfl, by simp [i2], i3, ?_⟩
   rw [j4 (hr _ (by simp)), List.flatMap_cons, List.append_assoc, ← i4, j2]
theorem qjb {c : Int} (h : (zF z8 c).2.2 = true) : z6 (zF z8 c).1 (zF z8 c).2.1 = c := by
 unfold z8 zF zF zF zF zF zF zF at h ⊢
 split
 ·rename_i hc; simpa using hc
 split
 ·rename_i hc; simpa using hc
 split
 ·rename_i hc; simpa using hc
 split
 ·rename_i hc; simpa using hc
 split
 ·rename_i hc; simpa using hc
 split
 ·rename_i hc; simpa using hc
 rename_i c1 c2 c3 c4 c5 c6
 rw [if_neg c1, if_neg c2, if_neg c3, if_neg c4, if_neg c5, if_neg c6] at h
 cases h
theorem qoG (l : List Int) (hl : inB l = true) (h : (Qc l).2.2.2.2.2.2.2.2 = 0) :
  qak (Qc l).1 (Qc l).2.1 (Qc l).2.2.1 (Qc l).2.2.2.1 (Qc l).2.2.2.2.1 (Qc l).2.2.2.2.2.1 (Qc l).2.2.2.2.2.2.1 0 0 0 (Qc l).2.2.2.2.2.2.2.1 = true ∧
  qbw (Qc l).1 (Qc l).2.1 (Qc l).2.2.1 (Qc l).2.2.2.1 (Qc l).2.2.2.2.1 (Qc l).2.2.2.2.2.1 (Qc l).2.2.2.2.2.2.1 (Qc l).2.2.2.2.2.2.2.1 = l ∧ za (Qc l).2.2.2.2.2.2.2.1 = true := by
 have h0 : zk l 0 = true := (zA l 0).2 ⟨hl, by omega, by omega⟩
 have h1 := Qk l 1 0 false h0
 have h2 := Qk l 2 _ (ql l 1 0 false).2.2 h1
 have h3 := Qk l 6 _ (ql l 2 (ql l 1 0 false).2.1 (ql l 1 0 false).2.2).2.2 h2
 unfold Qc at h ⊢
 dsimp only at h ⊢
 have q1 := fun hh => qbu l 1 0 false h0 (by omega) (by omega) hh
 generalize hr1 : ql l 1 0 false = r1 at *
 have q2 := fun hh => qbu l 2 r1.2.1 r1.2.2 h1 (by omega) (by omega) hh
 generalize hr2 : ql l 2 r1.2.1 r1.2.2 = r2 at *
 have q3 := fun hh => qbu l 6 r2.2.1 r2.2.2 h2 (by omega) (by omega) hh
 generalize hr3 : ql l 6 r2.2.1 r2.2.2 = r3 at *
 have h4 := Qk l 1 _ r3.2.2 h3
 have q4 := fun hh => qbu l 1 r3.2.1 r3.2.2 h3 (by omega) (by omega) hh
 generalize hr4 : ql l 1 r3.2.1 r3.2.2 = r4 at *
 have h5 := Qk l 2 _ r4.2.2 h4
 have q5 := fun hh => qbu l 2 r4.2.1 r4.2.2 h4 (by omega) (by omega) hh
 generalize hr5 : ql l 2 r4.2.1 r4.2.2 = r5 at *
 have h6 := Qk l 2 _ r5.2.2 h5
 have q6 := fun hh => qbu l 2 r5.2.1 r5.2.2 h5 (by omega) (by omega) hh
 generalize hr6 : ql l 2 r5.2.1 r5.2.2 = r6 at *
 have h7 := Qk l 1 _ r6.2.2 h6
 have q7 := fun hh => qbu l 1 r6.2.1 r6.2.2 h6 (by omega) (by omega) hh
 have hby := qdN l _ r6.2.2 h6
 generalize hr7 : ql l 1 r6.2.1 r6.2.2 = r7 at *
 have hbare := qih l r7.1.toNat r7.2.1 r7.2.2
 have hdl := qji l r7.1.toNat r7.2.1 r7.2.2
 have q8 := fun hh1 hh2 => qm5 l r7.1.toNat r7.2.1 r7.2.2 h7 hh1 hh2
 generalize hd : Zc l r7.1.toNat r7.2.1 r7.2.2 = d at *
 unfold qhn at h ⊢
 by_cases hc : ((zF z8 r4.1).2.2 && ((!d.2.2 && (Zm l d.2.1 d.2.2 == 0)) && qak r1.1 r2.1 r3.1 (zF z8 r4.1).1 (zF z8 r4.1).2.1 r5.1 r6.1 0 0 0 d.1)) = true
 ·rw [if_pos hc]
  dsimp only
  simp only [Bool.and_eq_true, Bool.not_eq_true', beq_iff_eq] at hc
  obtain ⟨c1, ⟨c2, c3⟩, c4⟩ := hc
  have hf := c4
  rw [qdB] at hf
  obtain ⟨v, hx⟩ := qdO hf
  obtain ⟨_, _, _, _, _, _, v7, _, _, _, _, _, v12, v13⟩ := Ql v
  obtain ⟨s1, s2, s3, s4⟩ := q8 c2 v13
  obtain ⟨t1, t2, t3, t4⟩ := q7 s1
  obtain ⟨u1, u2, u3, u4⟩ := q6 t1
  obtain ⟨w1, w2, w3, w4⟩ := q5 u1
  obtain ⟨x1, x2, x3, x4⟩ := q4 w1
  obtain ⟨y1, y2, y3, y4⟩ := q3 x1
  obtain ⟨z1, z2, z3, z4⟩ := q2 y1
  obtain ⟨p1, p2, p3, p4⟩ := q1 z1
  refine ⟨c4, ?_, (Zk _).2 ⟨by omega, fun r hr => by rw [hbare r hr]; rfl⟩⟩
  have hcode : (zF z8 r4.1).1 * 16 + (zF z8 r4.1).2.1 = r4.1 := by
   rw [← qdl v7]; exact qjb c1
  have hlen : (d.1.length : Int) = r7.1 := by omega
  have hleft : d.2.1.toNat = l.length := by
   rw [c2] at c3
   unfold Zm at c3
   simp at c3
   have := (zA l _).1 s3
   omega
  unfold qbw qfo
  rw [hcode, hlen]
  rw [hleft, List.drop_length, List.append_nil] at s4
  have e0 : l.drop (0 : Int).toNat = l := rfl
  rw [e0] at p3
  rw [p3, ← p2, z3, ← z2, y3, ← y2, x3, ← x2, w3, ← w2, u3, ← u2, t3, ← t2, s4]
  simp [n1, n2, n6, List.append_assoc]
 ·rw [if_neg hc] at h
  cases h
def qdj : List Int → List Int → Int
 | [], [] => 0
 | [], _ :: _ => -1
 | _ :: _, [] => 1
 | x :: l, y :: m => if decide (x < y) then -1 else if decide (x > y) then 1 else qdj l m
def qcI (t1 : Int) (d1 : List Int) (t2 : Int) (d2 : List Int) : Int := if t1 != t2 then (if decide (t1 < t2) then -1 else 1) else qdj d1 d2
def Zf : LF → LF → Int
 | [], [] => 0
 | [], _ :: _ => -1
 | _ :: _, [] => 1
 | x :: l, y :: m => if qcI x.1 x.2 y.1 y.2 != 0 then qcI x.1 x.2 y.1 y.2 else Zf l m
def qaO (l : List Int) : Bool := decide (l.length < 281474976710656)
def qdi : Den.Sum := ⟨[.raw], fun qA qj κ => match qA, qj with
 | [.d (.int .u8) x], [] => κ [.d .bool false] []
 | _, _ => none⟩
def qd7 : Den.Sum := ⟨[.raw, .raw], fun qA qj κ => match qA, qj with
 | [.d (.int .u8) x, .d (.int .u8) y], [] => κ [.d (.int .i64) (if decide (x < y) then -1 else if decide (x > y) then 1 else 0)] []
 | _, _ => none⟩
def qde : Den.Sum := ⟨[.dat (.sl (.int .u8)) false, .dat (.sl (.int .u8)) false], fun qA qj κ => match qA, qj with
 | [.d (.sl (.int .u8)) l, .d (.sl (.int .u8)) m], [] => if (qaO l && qaO m) = true then κ [.d (.int .i64) (qdj l m)] [] else none
 | _, _ => none⟩
def qdZ : Den.Sum := ⟨[.dat (.pair tQi (.sl (.int .u8))) true, .dat (.pair tQi (.sl (.int .u8))) true], fun qA qj κ => match qA, qj with
 | [.agg [.d (.int .i64) t1, .d (.sl (.int .u8)) d1], .agg [.d (.int .i64) t2, .d (.sl (.int .u8)) d2]], [] => if (qaO d1 && qaO d2) = true then κ [.d (.int .i64) (qcI t1 d1 t2 d2)] [] else none
 | _, _ => none⟩
def qd8 : Den.Sum := ⟨[.dat (.sl (.pair tQi (.sl (.int .u8)))) false, .dat (.sl (.pair tQi (.sl (.int .u8)))) false], fun qA qj κ => match qA, qj with
 | [.d (.sl (.pair (.int .i64) (.sl (.int .u8)))) a, .d (.sl (.pair (.int .i64) (.sl (.int .u8)))) b], [] => if (zn a && zn b) = true then κ [.d (.int .i64) (Zf a b)] [] else none
 | _, _ => none⟩
def qb2 : Den.Sum := ⟨[.dat (.sl (.pair tQi (.sl (.int .u8)))) false, .dat (.sl (.pair tQi (.sl (.int .u8)))) false], fun qA qj κ => match qA, qj with
 | [.d (.sl (.pair (.int .i64) (.sl (.int .u8)))) a, .d (.sl (.pair (.int .i64) (.sl (.int .u8)))) b], [] => if (zn a && zn b) = true then κ [.d .bool (Zf a b == 0)] [] else none
 | _, _ => none⟩
def qle : Env := ⟨th, gam [], fun i => ⟨[], [], []⟩⟩
def qbE.k (rs : List AV) (os : List Den.Obj) : Option Bool :=
 match rs, os with
 | [.d .bool r0], [] => some r0
 | _, _ => none
def qbE.b (x : Int) : Option Bool :=
 some ((x != x))
def qbE.f (qa : Nat) (x : Int) : Option Bool := qbE.b x
theorem qbE.eq (qa : Nat) (x : Int) : (denF qle loopN qa Tryz.f118 [.raw] [.d (.int .u8) x] [] qbE.k) = qbE.f qa x := by
 kernel_rfl
def qnj : Env := ⟨th, gam [(118, qdi)], fun i => ⟨[], [], []⟩⟩
def qc5.k (rs : List AV) (os : List Den.Obj) : Option Int :=
 match rs, os with
 | [.d (.int .i64) r0], [] => some r0
 | _, _ => none
def qc5.b (x y : Int) : Option Int :=
 (if (decide (x < y)) then some ((-(1 : Int))) else (if (decide (x > y)) then some ((1 : Int)) else some ((0 : Int))))
def qc5.f (qa : Nat) (x y : Int) : Option Int := qc5.b x y
theorem qc5.eq (qa : Nat) (x y : Int) : (denF qnj loopN qa Tryz.f117 [.raw] [.d (.int .u8) x, .d (.int .u8) y] [] qc5.k) = qc5.f qa x y := by
 kernel_rfl
def qiP : Env := ⟨th, gam [(117, qd7)], fun i => if i = 2 then ⟨[0, 1, 9, 10, 11], [], []⟩ else ⟨[], [], []⟩⟩
def Qt.k (rs : List AV) (os : List Den.Obj) : Option Int :=
 match rs, os with
 | [.d (.int .i64) r0], [] => some r0
 | _, _ => none
def Qt.s2 (l m : List Int) (x0 x1 : Int) : St := ⟨[.d (.sl (.int .u8)) (l), .d (.sl (.int .u8)) (m), dD, dD, dD, dD, dD, dD, dD, .d (.sl (.int .u8)) (l), .d tQi x0, .d tQi x1, dD, dD, dD, dD, dD, dD, dD, dD, dD, dD, dD, dD, dD, dD, dD, dD, dD, dD, dD, dD, dD, dD, dD, .dead], ofL [], 0⟩
def Qt.p2 (qa : Nat) (l m : List Int) (k : Nat) := fun x0 x1 => lp qiP qa Tryz.f116 [.raw] 0 Qt.k 2 [] k (Qt.s2 l m x0 x1)
def Qt.b2 (l m : List Int) (A2 : Int → Int → Option Int) (x0 x1 : Int) : Option Int :=
 (if (decide (x1 < x0)) then (match (idx l x1) with | none => none | some y2 => (if (decide (x1 ≥ ((((List.length m)) : Nat) : Int))) then some ((1 : Int)) else (match (idx m x1) with | none => none | some y3 => (if ((if (decide (y2 < y3)) then (-1) else (if (decide (y2 > y3)) then 1 else 0)) != (0 : Int)) then some ((if (decide (y2 < y3)) then (-1) else (if (decide (y2 > y3)) then 1 else 0))) else A2 x0 (IntKind.wrap .i64 (x1 + (1 : Int))))))) else (if (decide (((((List.length l)) : Nat) : Int) < ((((List.length m)) : Nat) : Int))) then some ((-(1 : Int))) else some ((0 : Int))))
def Qt.l2 (qa : Nat) (l m : List Int) : Nat → Int → Int → Option Int
 | 0, _, _ => none
 | k + 1, x0, x1 => Qt.b2 l m (Qt.l2 qa l m k) x0 x1
def Qt.b (l m : List Int) (E2 : Int → Int → Option Int) : Option Int :=
 E2 ((((List.length l)) : Nat) : Int) (0 : Int)
def Qt.f (qa : Nat) (l m : List Int) : Option Int := Qt.b l m (Qt.l2 qa l m qa)
theorem Qt.l2_eq (qa : Nat) (l m : List Int) : ∀ k : Nat, Qt.p2 qa l m k = Qt.l2 qa l m k
 | 0 => by kernel_rfl
 | k + 1 => by
  refine Eq.trans (b := Qt.b2 l m (Qt.p2 qa l m k)) (by kernel_rfl) ?_
  rw [Qt.l2_eq qa l m k]
  kernel_rfl
theorem Qt.eq (qa : Nat) (l m : List Int) : (denF qiP loopN qa Tryz.f116 [.raw] [.d (.sl (.int .u8)) l, .d (.sl (.int .u8)) m] [] Qt.k) = Qt.f qa l m := by
 refine Eq.trans (b := Qt.b l m (Qt.p2 qa l m qa)) (by kernel_rfl) ?_
 rw [Qt.l2_eq qa l m qa]
 kernel_rfl
def qlg : Env := ⟨th, gam [(116, qde)], fun i => ⟨[], [], []⟩⟩
def qbG.k (rs : List AV) (os : List Den.Obj) : Option Int :=
 match rs, os with
 | [.d (.int .i64) r0], [] => some r0
 | _, _ => none
def qbG.b (t1 : Int) (d1 : List Int) (t2 : Int) (d2 : List Int) : Option Int :=
 (if (t1 != t2) then (if (decide (t1 < t2)) then some ((-(1 : Int))) else some ((1 : Int))) else (if ((qaO d1) && (qaO d2)) then some ((qdj d1 d2)) else none))
def qbG.f (qa : Nat) (t1 : Int) (d1 : List Int) (t2 : Int) (d2 : List Int) : Option Int := qbG.b t1 d1 t2 d2
theorem qbG.eq (qa : Nat) (t1 : Int) (d1 : List Int) (t2 : Int) (d2 : List Int) : (denF qlg loopN qa Tryz.f114 [.raw] [.agg [.d tQi t1, .d (.sl (.int .u8)) d1], .agg [.d tQi t2, .d (.sl (.int .u8)) d2]] [] qbG.k) = qbG.f qa t1 d1 t2 d2 := by
 kernel_rfl
def qko : Env := ⟨th, gam [(114, qdZ)], fun i => if i = 2 then ⟨[0, 1, 5], [], []⟩ else ⟨[], [], []⟩⟩
def Q6.k (rs : List AV) (os : List Den.Obj) : Option Int :=
 match rs, os with
 | [.d (.int .i64) r0], [] => some r0
 | _, _ => none
def Q6.s2 (a b : LF) (x0 : Int) : St := ⟨[.d (.sl (.pair tQi (.sl (.int .u8)))) (a), .d (.sl (.pair tQi (.sl (.int .u8)))) (b), dD, dD, dD, .d tQi x0, dD, dD, dD, dD, dD, dD, dD, dD, dD, dD, dD, dD, dD, dD, dD, dD, dD, dD, dD, dD, dD, dD, dD, dD, dD, dD, dD, dD, dD, dD, dD, dD, dD, dD, dD, dD, .dead], ofL [], 0⟩
def Q6.p2 (qa : Nat) (a b : LF) (k : Nat) := fun x0 => lp qko qa Tryz.f112 [.raw] 0 Q6.k 2 [] k (Q6.s2 a b x0)
def Q6.b2 (a b : LF) (A2 : Int → Option Int) (x0 : Int) : Option Int :=
 (if (decide (x0 < ((((List.length a)) : Nat) : Int))) then (if (decide (x0 < ((((List.length b)) : Nat) : Int))) then (match (idx a x0) with | none => none | some y1 => (match (idx b x0) with | none => none | some y2 => (if ((qaO y1.2) && (qaO y2.2)) then (if ((qcI y1.1 y1.2 y2.1 y2.2) != (0 : Int)) then some ((qcI y1.1 y1.2 y2.1 y2.2)) else A2 (IntKind.wrap .i64 (x0 + (1 : Int)))) else none))) else (if (decide (((((List.length a)) : Nat) : Int) < ((((List.length b)) : Nat) : Int))) then some ((-(1 : Int))) else (if (decide (((((List.length a)) : Nat) : Int) > ((((List.length b)) : Nat) : Int))) then some ((1 : Int)) else some ((0 : Int))))) else (if (decide (((((List.length a)) : Nat) : Int) < ((((List.length b)) : Nat) : Int))) then some ((-(1 : Int))) else (if (decide (((((List.length a)) : Nat) : Int) > ((((List.length b)) : Nat) : Int))) then some ((1 : Int)) else some ((0 : Int)))))
def Q6.l2 (qa : Nat) (a b : LF) : Nat → Int → Option Int
 | 0, _ => none
 | k + 1, x0 => Q6.b2 a b (Q6.l2 qa a b k) x0
def Q6.b (a b : LF) (E2 : Int → Option Int) : Option Int :=
 E2 (0 : Int)
def Q6.f (qa : Nat) (a b : LF) : Option Int := Q6.b a b (Q6.l2 qa a b qa)
theorem Q6.l2_eq (qa : Nat) (a b : LF) : ∀ k : Nat, Q6.p2 qa a b k = Q6.l2 qa a b k
 | 0 => by kernel_rfl
 | k + 1 => by
  refine Eq.trans (b := Q6.b2 a b (Q6.p2 qa a b k)) (by kernel_rfl) ?_
  rw [Q6.l2_eq qa a b k]
  kernel_rfl
theorem Q6.eq (qa : Nat) (a b : LF) : (denF qko loopN qa Tryz.f112 [.raw] [.d (.sl (.pair tQi (.sl (.int .u8)))) a, .d (.sl (.pair tQi (.sl (.int .u8)))) b] [] Q6.k) = Q6.f qa a b := by
 refine Eq.trans (b := Q6.b a b (Q6.p2 qa a b qa)) (by kernel_rfl) ?_
 rw [Q6.l2_eq qa a b qa]
 kernel_rfl
def qlh : Env := ⟨th, gam [(112, qd8)], fun i => ⟨[], [], []⟩⟩
def qbH.k (rs : List AV) (os : List Den.Obj) : Option Bool :=
 match rs, os with
 | [.d .bool r0], [] => some r0
 | _, _ => none
def qbH.b (a b : LF) : Option Bool :=
 (if ((zn a) && (zn b)) then some (((Zf a b) == (0 : Int))) else none)
def qbH.f (qa : Nat) (a b : LF) : Option Bool := qbH.b a b
theorem qbH.eq (qa : Nat) (a b : LF) : (denF qlh loopN qa Tryz.f102 [.raw] [.d (.sl (.pair tQi (.sl (.int .u8)))) a, .d (.sl (.pair tQi (.sl (.int .u8)))) b] [] qbH.k) = qbH.f qa a b := by
 kernel_rfl
theorem qfX (l : List Int) : qaO l = true ↔ l.length < 281474976710656 := by unfold qaO; simp
theorem qbE.pure (x : Int) : qbE.f 0 x = some false := by
 unfold qbE.f qbE.b
 simp
theorem qc5.pure (x y : Int) : qc5.f 0 x y = some (if decide (x < y) then -1 else if decide (x > y) then 1 else 0) := by
 unfold qc5.f qc5.b
 split
 ·rfl
 ·split <;> rfl
theorem Qt.loop (qa : Nat) (l m : List Int) (h1 : l.length < 281474976710656) : ∀ (k i : Nat), i ≤ l.length → i ≤ m.length → l.length - i < k → Qt.l2 qa l m k (l.length : Int) (i : Int) = some (qdj (l.drop i) (m.drop i)) := by
 intro k
 induction k with
 | zero => intro i a b c; omega
 | succ k ih =>
  intro i a b c
  rw [Qt.l2]
  unfold Qt.b2
  by_cases hi : i < l.length
  ·rw [if_pos (by simp; omega), Qn, List.getElem?_eq_getElem hi, List.drop_eq_getElem_cons hi]
   dsimp only
   by_cases hm : i < m.length
   ·rw [if_neg (by simp; omega), Qn, List.getElem?_eq_getElem hm, List.drop_eq_getElem_cons hm]
    dsimp only
    unfold qdj
    by_cases c1 : l[i] < m[i]
    ·simp [c1]
    ·by_cases c2 : l[i] > m[i]
     ·simp [c1, c2]
     ·simp only [c1, c2, decide_false, Bool.false_eq_true, if_false, bne_self_eq_false]
      rw [qK _ (by omega) (by omega)]
      exact ih (i + 1) (by omega) (by omega) (by omega)
   ·rw [if_pos (by simp; omega), List.drop_of_length_le (by omega : m.length ≤ i)]
    rfl
  ·rw [if_neg (by simp; omega), List.drop_of_length_le (by omega : l.length ≤ i)]
   by_cases hm : i < m.length
   ·rw [if_pos (by simp; omega), List.drop_eq_getElem_cons hm]
    rfl
   ·rw [if_neg (by simp; omega), List.drop_of_length_le (by omega : m.length ≤ i)]
    rfl
theorem Qt.pure (l m : List Int) (hl : (qaO l && qaO m) = true) : Qt.f (l.length + 1) l m = some (qdj l m) := by
 rw [Bool.and_eq_true, qfX, qfX] at hl
 unfold Qt.f Qt.b
 exact Qt.loop _ l m hl.1 _ 0 (by omega) (by omega) (by omega)
theorem qbG.pure (t1 : Int) (d1 : List Int) (t2 : Int) (d2 : List Int) (hl : (qaO d1 && qaO d2) = true) : qbG.f 0 t1 d1 t2 d2 = some (qcI t1 d1 t2 d2) := by
 unfold qbG.f qbG.b qcI
 rw [hl]
 split
 ·split <;> rfl
 ·rfl
theorem qjH {b : LF} (h : zn b = true) (i : Nat) (hi : i < b.length) : qaO b[i].2 = true := (qfX _).2 (((qas b).1 h).2 _ (List.getElem_mem hi))
theorem Q6.loop (qa : Nat) (a b : LF) (ha : zn a = true) (hb : zn b = true) : ∀ (k i : Nat), i ≤ a.length → i ≤ b.length → a.length - i < k → Q6.l2 qa a b k (i : Int) = some (Zf (a.drop i) (b.drop i)) := by
 have hla := ((qas a).1 ha).1
 intro k
 induction k with
 | zero => intro i h1 h2 h3; omega
 | succ k ih =>
  intro i h1 h2 h3
  rw [Q6.l2]
  unfold Q6.b2
  by_cases hi : i < a.length
  ·rw [if_pos (by simp; omega)]
   by_cases hm : i < b.length
   ·rw [if_pos (by simp; omega), Qn, List.getElem?_eq_getElem hi, Qn, List.getElem?_eq_getElem hm, List.drop_eq_getElem_cons hi, List.drop_eq_getElem_cons hm]
    dsimp only
    rw [qjH ha i hi, qjH hb i hm, Bool.and_self, if_pos rfl, qK _ (by omega) (by omega)]
    unfold Zf
    split
    ·rfl
    ·exact ih (i + 1) (by omega) (by omega) (by omega)
   ·rw [if_neg (by simp; omega), List.drop_eq_getElem_cons hi, List.drop_of_length_le (by omega : b.length ≤ i), if_neg (by simp; omega), if_pos (by simp; omega)]
    rfl
  ·rw [if_neg (by simp; omega), List.drop_of_length_le (by omega : a.length ≤ i)]
   by_cases hm : i < b.length
   ·rw [if_pos (by simp; omega), List.drop_eq_getElem_cons hm]
    rfl
   ·rw [if_neg (by simp; omega), if_neg (by simp; omega), List.drop_of_length_le (by omega : b.length ≤ i)]
    rfl
theorem Q6.pure (a b : LF) (hl : (zn a && zn b) = true) : Q6.f (a.length + 1) a b = some (Zf a b) := by
 rw [Bool.and_eq_true] at hl
 unfold Q6.f Q6.b
 exact Q6.loop _ a b hl.1 hl.2 _ 0 (by omega) (by omega) (by omega)
theorem qbH.pure (a b : LF) (hl : (zn a && zn b) = true) : qbH.f 0 a b = some (Zf a b == 0) := by
 unfold qbH.f qbH.b
 rw [hl]; rfl
theorem qjc : ∀ (l : List Int), qdj l l = 0
 | [] => rfl
 | x :: l => by
  unfold qdj
  simp [qjc l]
theorem qfw : ∀ (l : LF), Zf l l = 0
 | [] => rfl
 | x :: l => by
  unfold Zf
  have : qcI x.1 x.2 x.1 x.2 = 0 := by unfold qcI; simp [qjc]
  rw [this]
  simp [qfw l]
theorem qkz : SumDet qdi := zi fun _ _ _ _ => by
 unfold qdi
 simp only
 split
 ·first | rfl | (split <;> rfl)
 ·rfl
theorem qlH : SumOk Tryz.prog 118 qdi := by
 have hE : EnvOk Tryz.prog qle := env_ok (l := []) th_ok qU trivial _
 refine sum_ok hE Tryz.func118 rfl (by kernel_rfl) qdi [.raw] qbE.k ?_
 intro R avs qj κ r h
 unfold qdi at h
 simp only at h
 split at h
 ·rename_i x
  refine ⟨0, _, _, _, (qbE.eq (0) x).trans (qbE.pure x), ?_, h⟩
  intro rs ros hk
  unfold qbE.k at hk
  split at hk
  ·first | (cases hk; exact ⟨rfl, rfl⟩) | (rw [← Option.some.inj hk]; exact ⟨rfl, rfl⟩)
  ·cases hk
 ·cases h
theorem qlM : SumDet qd7 := zi fun _ _ _ _ => by
 unfold qd7
 simp only
 split
 ·first | rfl | (split <;> rfl)
 ·rfl
theorem qmG : SumOk Tryz.prog 117 qd7 := by
 have hE : EnvOk Tryz.prog qnj := env_ok (l := [(118, qdi)]) th_ok qU ⟨⟨qlH, qkz⟩, trivial⟩ _
 refine sum_ok hE Tryz.func117 rfl (by kernel_rfl) qd7 [.raw] qc5.k ?_
 intro R avs qj κ r h
 unfold qd7 at h
 simp only at h
 split at h
 ·rename_i x y
  refine ⟨0, _, _, _, (qc5.eq (0) x y).trans (qc5.pure x y), ?_, h⟩
  intro rs ros hk
  unfold qc5.k at hk
  split at hk
  ·first | (cases hk; exact ⟨rfl, rfl⟩) | (rw [← Option.some.inj hk]; exact ⟨rfl, rfl⟩)
  ·cases hk
 ·cases h
theorem qkv : SumDet qde := zi fun _ _ _ _ => by
 unfold qde
 simp only
 split
 ·first | rfl | (split <;> rfl)
 ·rfl
theorem qlx : SumOk Tryz.prog 116 qde := by
 have hE : EnvOk Tryz.prog qiP := env_ok (l := [(117, qd7)]) th_ok qU ⟨⟨qmG, qlM⟩, trivial⟩ _
 refine sum_ok hE Tryz.func116 rfl (by kernel_rfl) qde [.raw] Qt.k ?_
 intro R avs qj κ r h
 unfold qde at h
 simp only at h
 split at h
 ·rename_i l m
  split at h
  case isFalse => cases h
  rename_i hl
  refine ⟨l.length + 1, _, _, _, (Qt.eq (l.length + 1) l m).trans (Qt.pure l m hl), ?_, h⟩
  intro rs ros hk
  unfold Qt.k at hk
  split at hk
  ·first | (cases hk; exact ⟨rfl, rfl⟩) | (rw [← Option.some.inj hk]; exact ⟨rfl, rfl⟩)
  ·cases hk
 ·cases h
theorem qlz : SumDet qdZ := zi fun _ _ _ _ => by
 unfold qdZ
 simp only
 split
 ·first | rfl | (split <;> rfl)
 ·rfl
theorem qmy : SumOk Tryz.prog 114 qdZ := by
 have hE : EnvOk Tryz.prog qlg := env_ok (l := [(116, qde)]) th_ok qU ⟨⟨qlx, qkv⟩, trivial⟩ _
 refine sum_ok hE Tryz.func114 rfl (by kernel_rfl) qdZ [.raw] qbG.k ?_
 intro R avs qj κ r h
 unfold qdZ at h
 simp only at h
 split at h
 ·rename_i t1 d1 t2 d2
  split at h
  case isFalse => cases h
  rename_i hl
  refine ⟨0, _, _, _, (qbG.eq (0) t1 d1 t2 d2).trans (qbG.pure t1 d1 t2 d2 hl), ?_, h⟩
  intro rs ros hk
  unfold qbG.k at hk
  split at hk
  ·first | (cases hk; exact ⟨rfl, rfl⟩) | (rw [← Option.some.inj hk]; exact ⟨rfl, rfl⟩)
  ·cases hk
 ·cases h
theorem qlN : SumDet qd8 := zi fun _ _ _ _ => by
 unfold qd8
 simp only
 split
 ·first | rfl | (split <;> rfl)
 ·rfl
theorem qmH : SumOk Tryz.prog 112 qd8 := by
 have hE : EnvOk Tryz.prog qko := env_ok (l := [(114, qdZ)]) th_ok qU ⟨⟨qmy, qlz⟩, trivial⟩ _
 refine sum_ok hE Tryz.func112 rfl (by kernel_rfl) qd8 [.raw] Q6.k ?_
 intro R avs qj κ r h
 unfold qd8 at h
 simp only at h
 split at h
 ·rename_i a b
  split at h
  case isFalse => cases h
  rename_i hl
  refine ⟨a.length + 1, _, _, _, (Q6.eq (a.length + 1) a b).trans (Q6.pure a b hl), ?_, h⟩
  intro rs ros hk
  unfold Q6.k at hk
  split at hk
  ·first | (cases hk; exact ⟨rfl, rfl⟩) | (rw [← Option.some.inj hk]; exact ⟨rfl, rfl⟩)
  ·cases hk
 ·cases h
theorem qgS : SumDet qb2 := zi fun _ _ _ _ => by
 unfold qb2
 simp only
 split
 ·first | rfl | (split <;> rfl)
 ·rfl
theorem qhV : SumOk Tryz.prog 102 qb2 := by
 have hE : EnvOk Tryz.prog qlh := env_ok (l := [(112, qd8)]) th_ok qU ⟨⟨qmH, qlN⟩, trivial⟩ _
 refine sum_ok hE Tryz.func102 rfl (by kernel_rfl) qb2 [.raw] qbH.k ?_
 intro R avs qj κ r h
 unfold qb2 at h
 simp only at h
 split at h
 ·rename_i a b
  split at h
  case isFalse => cases h
  rename_i hl
  refine ⟨0, _, _, _, (qbH.eq (0) a b).trans (qbH.pure a b hl), ?_, h⟩
  intro rs ros hk
  unfold qbH.k at hk
  split at hk
  ·first | (cases hk; exact ⟨rfl, rfl⟩) | (rw [← Option.some.inj hk]; exact ⟨rfl, rfl⟩)
  ·cases hk
 ·cases h
theorem qiI : ∀ (n : Nat) (v : Int), 0 ≤ v → v < 256 ^ n → QL (be n v) = v
 | 0, v, h0, h1 => by simp at h1; simp [be, QL]; omega
 | n + 1, v, h0, h1 => by
  have hp : v / 256 < 256 ^ n := by
   rw [Int.pow_succ] at h1
   generalize (256 : Int) ^ n = M at h1 ⊢
   omega
  have ih := qiI n (v / 256) (by omega) hp
  show QL (be n (v / 256) ++ [v % 256]) = v
  unfold QL at ih ⊢
  rw [List.foldl_append, ih]
  simp
  omega
theorem qij : ∀ (n : Nat) (v c : Int), c ∈ be n v → 0 ≤ c ∧ c ≤ 255
 | 0, v, c, h => by simp [be] at h
 | n + 1, v, c, h => by
  have h' : c ∈ be n (v / 256) ++ [v % 256] := h
  rcases List.mem_append.1 h' with h | h
  ·exact qij n _ c h
  ·simp at h; omega
theorem qaK (l : List Int) (n a : Int) (v : Int) (rest : List Int) (hl : zk l a = true) (h1 : 1 ≤ n) (h7 : n ≤ 7) (h0 : 0 ≤ v) (hv : v < 256 ^ n.toNat) (h : l.drop a.toNat = be n.toNat v ++ rest) :
  ql l n a false = (v, a + n, false) ∧ l.drop (a + n).toNat = rest ∧ zk l (a + n) = true := by
 obtain ⟨k1, k2, k3⟩ := (zA l a).1 hl
 have hlen : l.length - a.toNat = n.toNat + rest.length := by
  have := congrArg List.length h
  simpa [zw] using this
 have hn : (if (decide (n < 1) || decide (n > 7)) = true then (-1 : Int) else n) = n := if_neg (by simp; omega)
 have hseg : seg l a n = be n.toNat v := by
  unfold seg
  rw [List.drop_take, show (a + n).toNat = a.toNat + n.toNat from by omega, Nat.add_sub_cancel_left, h]
  exact List.take_left' (zw _ _)
 refine ⟨?_, ?_, (zA l _).2 ⟨k1, by omega, by omega⟩⟩
 ·unfold ql
  dsimp only
  rw [hn]
  have hst : qY l n a false = (seg l a n, true, a + n, false) := by
   unfold qY
   rw [if_neg (by simp), if_neg (by simp; omega)]
  rw [hst]
  dsimp only
  rw [if_pos rfl, hseg, qiI _ v h0 hv]
 ·rw [show (a + n).toNat = a.toNat + n.toNat from by omega, ← List.drop_drop, h]
  exact List.drop_left' (zw _ _)
theorem qor (l : List Int) (a : Int) (r : Int × Int × Int × (Int × Int) × Bool × LF) (rest : List Int) (hl : zk l a = true) (hr : zu r = true) (hi : r.2.1 ≤ 65535) (hb : r.2.2.2.2.2 = []) (h : l.drop a.toNat = qct r ++ rest) :
  Qx l a false = (r, a + 5, false) ∧ l.drop (a + 5).toNat = rest ∧ zk l (a + 5) = true := by
 obtain ⟨id, inc, st, ⟨lo, hi'⟩, cut, bag⟩ := r
 obtain ⟨f1, f2, f3, f4, f5, f6, f7, _, _⟩ := zy hr
 obtain ⟨_, s1, s2⟩ := qjG hr
 have f8 := (ZP _ _).1 f7
 dsimp only at f1 f2 f3 f5 f6 f7 f8 hi hb
 subst hb
 unfold qct at h
 dsimp only at h
 rw [List.append_assoc] at h
 obtain ⟨a1, a2, a3⟩ := qaK l 2 a id _ hl (by omega) (by omega) f1 (by simp; omega) h
 rw [List.append_assoc] at a2
 obtain ⟨b1, b2, b3⟩ := qaK l 2 (a + 2) inc _ a3 (by omega) (by omega) f3 (by simp; omega) a2
 obtain ⟨c1, c2, c3⟩ := qaK l 1 (a + 2 + 2) _ rest b3 (by omega) (by omega) s1 (by simpa using s2) b2
 have e5 : a + 2 + 2 + 1 = a + 5 := by omega
 rw [e5] at c1 c2 c3
 refine ⟨?_, c2, c3⟩
 unfold Qx
 dsimp only
 rw [a1]
 dsimp only
 rw [b1]
 dsimp only
 rw [c1]
 dsimp only
 have hs : qce (id, inc, st, (lo, hi'), cut, ([] : LF)) = (if cut then st + 4 * lo + 16 * hi' + 64 else st + 4 * lo + 16 * hi') := rfl
 rw [hs]
 cases cut
 ·simp only [Bool.false_eq_true, if_false]
  rw [if_neg (by simp; omega)]
  have e1 : (st + 4 * lo + 16 * hi') % 4 = st := by omega
  have e2 : (st + 4 * lo + 16 * hi') / 4 % 4 = lo := by omega
  have e3 : (st + 4 * lo + 16 * hi') / 16 % 4 = hi' := by omega
  have e4 : ((st + 4 * lo + 16 * hi') / 64 % 2 == 1) = false := by simp; omega
  rw [e1, e2, e3, e4]
 ·simp only [if_true]
  rw [if_neg (by simp; omega)]
  have e1 : (st + 4 * lo + 16 * hi' + 64) % 4 = st := by omega
  have e2 : (st + 4 * lo + 16 * hi' + 64) / 4 % 4 = lo := by omega
  have e3 : (st + 4 * lo + 16 * hi' + 64) / 16 % 4 = hi' := by omega
  have e4 : ((st + 4 * lo + 16 * hi' + 64) / 64 % 2 == 1) = true := by simp; omega
  rw [e1, e2, e3, e4]
theorem qm6 (l : List Int) : ∀ (qg : LR) (a : Int) (rest : List Int), zk l a = true → (∀ r ∈ qg, zu r = true ∧ r.2.1 ≤ 65535 ∧ r.2.2.2.2.2 = []) → l.drop a.toNat = qg.flatMap qct ++ rest →
  ∃ a', Zc l qg.length a false = (qg, a', false) ∧ l.drop a'.toNat = rest ∧ zk l a' = true
 | [], a, rest, hl, _, h => ⟨a, rfl, by simpa using h, hl⟩
 | r :: qg, a, rest, hl, hr, h => by
  obtain ⟨r1, r2, r3⟩ := hr r (by simp)
  rw [List.flatMap_cons, List.append_assoc] at h
  obtain ⟨o1, o2, o3⟩ := qor l a r _ hl r1 r2 r3 h
  obtain ⟨a', d1, d2, d3⟩ := qm6 l qg (a + 5) rest o3 (fun x hx => hr x (by simp [hx])) o2
  refine ⟨a', ?_, d2, d3⟩
  rw [List.length_cons, Zc, if_neg (by simp), o1]
  dsimp only
  rw [d1]
theorem qod {lo hi : Int} (h : okS lo hi = true) : zF z8 (lo * 16 + hi) = (lo, hi, true) := by
 have := (ZP lo hi).1 h
 have h1 : lo = 1 ∨ lo = 2 ∨ lo = 3 := by omega
 have h2 : hi = 1 ∨ hi = 2 ∨ hi = 3 := by omega
 rcases h1 with rfl | rfl | rfl <;> rcases h2 with rfl | rfl | rfl <;> first | omega | rfl
theorem qii (qh qv inc lo hi seq qk : Int) (qg : LR) (hlen : qg.length ≤ 255) : inB (qbw qh qv inc lo hi seq qk qg) = true := by
 have hm : ∀ (l : LR), (l.flatMap qct).length = 5 * l.length := by
  intro l
  induction l with
  | nil => rfl
  | cons x l ih => rw [List.flatMap_cons, List.length_append, ih, qgV, List.length_cons]; omega
 refine (Qy _).2 ⟨?_, fun c hc => ?_⟩
 ·unfold qbw qfo
  simp only [List.length_append, zw, hm]
  omega
 ·unfold qbw qfo at hc
  simp only [List.mem_append, List.mem_flatMap] at hc
  rcases hc with (hc | hc | hc | hc | hc | hc | hc) | ⟨r, _, hc⟩
  all_goals first | exact qij _ _ c hc | skip
  unfold qct at hc
  simp only [List.mem_append] at hc
  rcases hc with hc | hc | hc <;> exact qij _ _ c hc
theorem qoV (qh qv inc lo hi seq qk : Int) (qg : LR) (h : qak qh qv inc lo hi seq qk 0 0 0 qg = true) :
  Qc (qbw qh qv inc lo hi seq qk qg) = (qh, qv, inc, lo, hi, seq, qk, qg, 0) := by
 have hf := h
 rw [qdB] at hf
 obtain ⟨hv, hx⟩ := qdO hf
 obtain ⟨v1, v2, v3, v4, v5, v6, v7, v8, v9, v10, v11, _, v12, v13⟩ := Ql hv
 have v14 := (ZP _ _).1 v7
 have hb := qii qh qv inc lo hi seq qk qg v12
 have h0 : zk (qbw qh qv inc lo hi seq qk qg) 0 = true := (zA _ 0).2 ⟨hb, by omega, by omega⟩
 generalize hl : qbw qh qv inc lo hi seq qk qg = l at *
 have e0 : l.drop (0 : Int).toNat = be (Int.toNat 1) qh ++ (be 2 qv ++ (be 6 inc ++ (be 1 (lo * 16 + hi) ++ (be 2 seq ++ (be 2 qk ++ (be 1 (qg.length : Int) ++ (qg.flatMap qct ++ []))))))) := by
  rw [← hl]
  simp [qbw, qfo, n1]
 obtain ⟨a1, a2, a3⟩ := qaK l 1 0 qh _ h0 (by omega) (by omega) (by omega) (by simp; omega) e0
 obtain ⟨b1, b2, b3⟩ := qaK l 2 _ qv _ a3 (by omega) (by omega) v3 (by simp; omega) a2
 obtain ⟨c1, c2, c3⟩ := qaK l 6 _ inc _ b3 (by omega) (by omega) v5 (by simp; omega) b2
 obtain ⟨d1, d2, d3⟩ := qaK l 1 _ (lo * 16 + hi) _ c3 (by omega) (by omega) (by omega) (by simp; omega) c2
 obtain ⟨f1, f2, f3⟩ := qaK l 2 _ seq _ d3 (by omega) (by omega) v8 (by simp; omega) d2
 obtain ⟨g1, g2, g3⟩ := qaK l 2 _ qk _ f3 (by omega) (by omega) v10 (by simp; omega) f2
 obtain ⟨i1, i2, i3⟩ := qaK l 1 _ (qg.length : Int) _ g3 (by omega) (by omega) (by omega) (by simp; omega) g2
 obtain ⟨a', j1, j2, j3⟩ := qm6 l qg _ [] i3 (fun r hr => ⟨v13 r hr, hx r hr⟩) i2
 unfold Qc
 dsimp only
 rw [a1]
 dsimp only
 rw [b1]
 dsimp only
 rw [c1]
 dsimp only
 rw [d1]
 dsimp only
 rw [f1]
 dsimp only
 rw [g1]
 dsimp only
 rw [i1]
 dsimp only
 rw [Int.toNat_natCast, j1, qod v7]
 dsimp only
 have hleft : Zm l a' false = 0 := by
  unfold Zm
  have := (zA l a').1 j3
  have hz := congrArg List.length j2
  simp at hz
  simp
  omega
 unfold qhn
 rw [hleft, h]
 rfl
theorem ql7 {qh qv inc lo hi seq qk qQ qB qc : Int} {qg : LR} (h : qgz qh qv inc lo hi seq qk qQ qB qc qg = true) : qQ = 0 ∧ qB = 0 ∧ qc = 0 := by
 unfold qgz at h
 split at h
 ·cases h
 ·rename_i hc
  simp only [Bool.or_eq_true, not_or, bne_iff_ne, ne_eq, Decidable.not_not] at hc
  exact ⟨hc.2.2.1, hc.2.2.2.1, hc.2.2.2.2⟩
theorem be1 (v : Int) (h0 : 0 ≤ v) (h1 : v < 256) : be 1 v = [v] := by
 show be 0 (v / 256) ++ [v % 256] = [v]
 rw [show v % 256 = v from by omega]
 rfl
theorem qj7 : ∀ (l : LR), (l.flatMap qct).length = 5 * l.length
 | [] => rfl
 | x :: l => by rw [List.flatMap_cons, List.length_append, qj7 l, qgV, List.length_cons]; omega
theorem qnS (qh qv inc lo hi seq qk : Int) (qg : LR) : (qbw qh qv inc lo hi seq qk qg).length = 15 + 5 * qg.length := by
 unfold qbw qfo
 simp only [List.length_append, zw, qj7]
def Zn (b : LF) : Int := ((b.map fun x => 3 + x.2.length).sum : Nat)
def qci (r : (Int × Int × Int × (Int × Int) × Bool × LF)) : Int := 23 + Zn r.2.2.2.2.2
def qaJ : LR → Int
 | [] => 0
 | r :: l => qci r + qaJ l
def qdK (qh qv inc lo hi seq qk qQ qB qc : Int) (qg : LR) : Int :=
 if !qR qh qv inc lo hi seq qk qQ qB qc qg then 0 else 22 + (if qt qh 0 then 5 else 0) + (if qt qh 1 then 5 else 0) + qaJ qg
def qbS : LR → Bool
 | [] => true
 | r :: l => if decide (r.2.1 > 4294967295) then false else qbS l
def qaH (qh qv inc lo hi seq qk qQ qB qc : Int) (qg : LR) : Bool :=
 if !qR qh qv inc lo hi seq qk qQ qB qc qg || (qh == 9 || (qB != 0 || decide (qdK qh qv inc lo hi seq qk qQ qB qc qg > 65499))) then false else qbS qg
def qe0 (b : LF) : Bool := qbo b && zn b
def qln (t : Int) : Bool := decide (0 ≤ t) && decide (t ≤ 255)
def qd0 : Den.Sum := ⟨[.dat tQr true], fun qA qj κ => match qA, qj with
 | [.agg [.d (.int .i64) rid, .d (.int .i64) zq, .d (.int .i64) rst, .d (.int .i64) rlo, .d (.int .i64) rhi, .d .bool zr, .d (.sl (.pair (.int .i64) (.sl (.int .u8)))) zm]], [] => if qe0 zm = true then κ [.d (.int .i64) (qci (rid, zq, rst, (rlo, rhi), zr, zm))] [] else none
 | _, _ => none⟩
def qdf : Den.Sum := ⟨[.dat (.pair tQi (.pair tQi (.pair tQi (.pair (.pair tQi tQi) (.pair tQi (.pair tQi (.pair tQi (.pair tQi (.pair tQi (.sl tQr)))))))))) true], fun qA qj κ => match qA, qj with
 | [.agg [.d (.int .i64) qw, .d (.int .i64) qm, .d (.int .i64) qE, .d (.int .i64) mlo, .d (.int .i64) mhi, .d (.int .i64) qJ, .d (.int .i64) qi, .d (.int .i64) qz, .d (.int .i64) qo, .d (.int .i64) qy, .d (.sl (.pair (.int .i64) (.pair (.int .i64) (.pair (.int .i64) (.pair (.pair (.int .i64) (.int .i64)) (.pair .bool (.sl (.pair (.int .i64) (.sl (.int .u8)))))))))) qn]], [] => if za qn = true then κ [.d (.int .i64) (qdK qw qm qE mlo mhi qJ qi qz qo qy qn)] [] else none
 | _, _ => none⟩
def qbZ : Den.Sum := ⟨[.dat (.pair tQi (.pair tQi (.pair tQi (.pair (.pair tQi tQi) (.pair tQi (.pair tQi (.pair tQi (.pair tQi (.pair tQi (.sl tQr)))))))))) true], fun qA qj κ => match qA, qj with
 | [.agg [.d (.int .i64) qw, .d (.int .i64) qm, .d (.int .i64) qE, .d (.int .i64) mlo, .d (.int .i64) mhi, .d (.int .i64) qJ, .d (.int .i64) qi, .d (.int .i64) qz, .d (.int .i64) qo, .d (.int .i64) qy, .d (.sl (.pair (.int .i64) (.pair (.int .i64) (.pair (.int .i64) (.pair (.pair (.int .i64) (.int .i64)) (.pair .bool (.sl (.pair (.int .i64) (.sl (.int .u8)))))))))) qn]], [] => if za qn = true then κ [.d .bool (qaH qw qm qE mlo mhi qJ qi qz qo qy qn)] [] else none
 | _, _ => none⟩
def qcK : Den.Sum := ⟨[.raw, .raw, .raw], fun qA qj κ => match qA, qj with
 | [.d (.int .i64) t, .d (.int .i64) n, .d (.int .i64) v], [] => if zN n v = true then κ [.agg [.d (.int .i64) t, .d (.sl (.int .u8)) (be n.toNat v)]] [] else none
 | _, _ => none⟩
def qhs : Env := ⟨th, gam [], fun i => if i = 3 then ⟨[3, 7, 8, 9], [], []⟩ else ⟨[], [], []⟩⟩
def z7.k (rs : List AV) (os : List Den.Obj) : Option Int :=
 match rs, os with
 | [.d (.int .i64) r0], [] => some r0
 | _, _ => none
def z7.s3 (rid zq rst rlo rhi : Int) (zr : Bool) (zm : LF) (x0 x1 x2 : Int) : St := ⟨[dD, dD, dD, .d tQi x0, dD, dD, dD, .d (.sl (.pair tQi (.sl (.int .u8)))) (zm), .d tQi x1, .d tQi x2, dD, dD, dD, dD, dD, dD, dD, dD, dD, dD, .dead], ofL [], 0⟩
def z7.p3 (qa : Nat) (rid zq rst rlo rhi : Int) (zr : Bool) (zm : LF) (k : Nat) := fun x0 x1 x2 => lp qhs qa Tryz.f104 [.raw] 0 z7.k 3 [] k (z7.s3 rid zq rst rlo rhi zr zm x0 x1 x2)
def z7.b3 (rid zq rst rlo rhi : Int) (zr : Bool) (zm : LF) (A3 : Int → Int → Int → Option Int) (x0 x1 x2 : Int) : Option Int :=
 (if (decide (x2 < x1)) then (match (idx zm x2) with | none => none | some y3 => A3 (IntKind.wrap .i64 (x0 + (IntKind.wrap .i64 ((3 : Int) + ((((List.length y3.2)) : Nat) : Int))))) x1 (IntKind.wrap .i64 (x2 + (1 : Int)))) else some (x0))
def z7.l3 (qa : Nat) (rid zq rst rlo rhi : Int) (zr : Bool) (zm : LF) : Nat → Int → Int → Int → Option Int
 | 0, _, _, _ => none
 | k + 1, x0, x1, x2 => z7.b3 rid zq rst rlo rhi zr zm (z7.l3 qa rid zq rst rlo rhi zr zm k) x0 x1 x2
def z7.b (rid zq rst rlo rhi : Int) (zr : Bool) (zm : LF) (E3 : Int → Int → Int → Option Int) : Option Int :=
 E3 (23 : Int) ((((List.length zm)) : Nat) : Int) (0 : Int)
def z7.f (qa : Nat) (rid zq rst rlo rhi : Int) (zr : Bool) (zm : LF) : Option Int := z7.b rid zq rst rlo rhi zr zm (z7.l3 qa rid zq rst rlo rhi zr zm qa)
theorem z7.l3_eq (qa : Nat) (rid zq rst rlo rhi : Int) (zr : Bool) (zm : LF) : ∀ k : Nat, z7.p3 qa rid zq rst rlo rhi zr zm k = z7.l3 qa rid zq rst rlo rhi zr zm k
 | 0 => by kernel_rfl
 | k + 1 => by
  refine Eq.trans (b := z7.b3 rid zq rst rlo rhi zr zm (z7.p3 qa rid zq rst rlo rhi zr zm k)) (by kernel_rfl) ?_
  rw [z7.l3_eq qa rid zq rst rlo rhi zr zm k]
  kernel_rfl
theorem z7.eq (qa : Nat) (rid zq rst rlo rhi : Int) (zr : Bool) (zm : LF) : (denF qhs loopN qa Tryz.f104 [.raw] [.agg [.d tQi rid, .d tQi zq, .d tQi rst, .d tQi rlo, .d tQi rhi, .d .bool zr, .d (.sl (.pair tQi (.sl (.int .u8)))) zm]] [] z7.k) = z7.f qa rid zq rst rlo rhi zr zm := by
 refine Eq.trans (b := z7.b rid zq rst rlo rhi zr zm (z7.p3 qa rid zq rst rlo rhi zr zm qa)) (by kernel_rfl) ?_
 rw [z7.l3_eq qa rid zq rst rlo rhi zr zm qa]
 kernel_rfl
def qiQ : Env := ⟨th, gam [(58, QI), (71, ZI), (104, qd0)], fun i => if i = 9 then ⟨[3, 20, 21, 22], [], []⟩ else ⟨[], [], []⟩⟩
def Qu.k (rs : List AV) (os : List Den.Obj) : Option Int :=
 match rs, os with
 | [.d (.int .i64) r0], [] => some r0
 | _, _ => none
def Qu.s9 (qw qm qE mlo mhi qJ qi qz qo qy : Int) (qn : LR) (x0 x1 x2 : Int) : St := ⟨[dD, dD, dD, .d tQi x0, dD, dD, dD, dD, dD, dD, dD, dD, dD, dD, dD, dD, dD, dD, dD, dD, .d (.sl tQr) (qn), .d tQi x1, .d tQi x2, dD, dD, dD, dD, dD, dD, dD, dD, .dead], ofL [], 0⟩
def Qu.p9 (qa : Nat) (qw qm qE mlo mhi qJ qi qz qo qy : Int) (qn : LR) (k : Nat) := fun x0 x1 x2 => lp qiQ qa Tryz.f91 [.raw] 0 Qu.k 9 [] k (Qu.s9 qw qm qE mlo mhi qJ qi qz qo qy qn x0 x1 x2)
def Qu.b9 (qw qm qE mlo mhi qJ qi qz qo qy : Int) (qn : LR) (A9 : Int → Int → Int → Option Int) (x0 x1 x2 : Int) : Option Int :=
 (if (decide (x2 < x1)) then (match (idx qn x2) with | none => none | some y3 => (if (qe0 y3.2.2.2.2.2) then A9 (IntKind.wrap .i64 (x0 + (qci (y3.1, (y3.2.1, (y3.2.2.1, ((y3.2.2.2.1.1, y3.2.2.2.1.2), (y3.2.2.2.2.1, y3.2.2.2.2.2)))))))) x1 (IntKind.wrap .i64 (x2 + (1 : Int))) else none)) else some (x0))
def Qu.l9 (qa : Nat) (qw qm qE mlo mhi qJ qi qz qo qy : Int) (qn : LR) : Nat → Int → Int → Int → Option Int
 | 0, _, _, _ => none
 | k + 1, x0, x1, x2 => Qu.b9 qw qm qE mlo mhi qJ qi qz qo qy qn (Qu.l9 qa qw qm qE mlo mhi qJ qi qz qo qy qn k) x0 x1 x2
def Qu.b (qw qm qE mlo mhi qJ qi qz qo qy : Int) (qn : LR) (E9 : Int → Int → Int → Option Int) : Option Int :=
 (if (za qn) then (if (!(qR qw qm qE mlo mhi qJ qi qz qo qy qn)) then some ((0 : Int)) else (if (qt qw (0 : Int)) then (if (qt qw (1 : Int)) then E9 (IntKind.wrap .i64 ((IntKind.wrap .i64 ((22 : Int) + (5 : Int))) + (5 : Int))) ((((List.length qn)) : Nat) : Int) (0 : Int) else E9 (IntKind.wrap .i64 ((22 : Int) + (5 : Int))) ((((List.length qn)) : Nat) : Int) (0 : Int)) else (if (qt qw (1 : Int)) then E9 (IntKind.wrap .i64 ((22 : Int) + (5 : Int))) ((((List.length qn)) : Nat) : Int) (0 : Int) else E9 (22 : Int) ((((List.length qn)) : Nat) : Int) (0 : Int)))) else none)
def Qu.f (qa : Nat) (qw qm qE mlo mhi qJ qi qz qo qy : Int) (qn : LR) : Option Int := Qu.b qw qm qE mlo mhi qJ qi qz qo qy qn (Qu.l9 qa qw qm qE mlo mhi qJ qi qz qo qy qn qa)
theorem Qu.l9_eq (qa : Nat) (qw qm qE mlo mhi qJ qi qz qo qy : Int) (qn : LR) : ∀ k : Nat, Qu.p9 qa qw qm qE mlo mhi qJ qi qz qo qy qn k = Qu.l9 qa qw qm qE mlo mhi qJ qi qz qo qy qn k
 | 0 => by kernel_rfl
 | k + 1 => by
  refine Eq.trans (b := Qu.b9 qw qm qE mlo mhi qJ qi qz qo qy qn (Qu.p9 qa qw qm qE mlo mhi qJ qi qz qo qy qn k)) (by kernel_rfl) ?_
  rw [Qu.l9_eq qa qw qm qE mlo mhi qJ qi qz qo qy qn k]
  kernel_rfl
theorem Qu.eq (qa : Nat) (qw qm qE mlo mhi qJ qi qz qo qy : Int) (qn : LR) : (denF qiQ loopN qa Tryz.f91 [.raw] [.agg [.d tQi qw, .d tQi qm, .d tQi qE, .d tQi mlo, .d tQi mhi, .d tQi qJ, .d tQi qi, .d tQi qz, .d tQi qo, .d tQi qy, .d (.sl tQr) qn]] [] Qu.k) = Qu.f qa qw qm qE mlo mhi qJ qi qz qo qy qn := by
 refine Eq.trans (b := Qu.b qw qm qE mlo mhi qJ qi qz qo qy qn (Qu.p9 qa qw qm qE mlo mhi qJ qi qz qo qy qn qa)) (by kernel_rfl) ?_
 rw [Qu.l9_eq qa qw qm qE mlo mhi qJ qi qz qo qy qn qa]
 kernel_rfl
def qiR : Env := ⟨th, gam [(58, QI), (91, qdf)], fun i => if i = 4 then ⟨[24, 25, 26], [], []⟩ else ⟨[], [], []⟩⟩
def Qv.k (rs : List AV) (os : List Den.Obj) : Option Bool :=
 match rs, os with
 | [.d .bool r0], [] => some r0
 | _, _ => none
def Qv.s4 (qw qm qE mlo mhi qJ qi qz qo qy : Int) (qn : LR) (x0 x1 : Int) : St := ⟨[dD, dD, dD, dD, dD, dD, dD, dD, dD, dD, dD, dD, dD, dD, dD, dD, dD, dD, dD, dD, dD, dD, dD, dD, .d (.sl tQr) (qn), .d tQi x0, .d tQi x1, dD, dD, dD, dD, dD, dD, .dead], ofL [], 0⟩
def Qv.p4 (qa : Nat) (qw qm qE mlo mhi qJ qi qz qo qy : Int) (qn : LR) (k : Nat) := fun x0 x1 => lp qiR qa Tryz.f69 [.raw] 0 Qv.k 4 [] k (Qv.s4 qw qm qE mlo mhi qJ qi qz qo qy qn x0 x1)
def Qv.b4 (qw qm qE mlo mhi qJ qi qz qo qy : Int) (qn : LR) (A4 : Int → Int → Option Bool) (x0 x1 : Int) : Option Bool :=
 (if (decide (x1 < x0)) then (match (idx qn x1) with | none => none | some y2 => (if (decide (y2.2.1 > (veil (4294967295 : Int)))) then some (false) else A4 x0 (IntKind.wrap .i64 (x1 + (1 : Int))))) else some (true))
def Qv.l4 (qa : Nat) (qw qm qE mlo mhi qJ qi qz qo qy : Int) (qn : LR) : Nat → Int → Int → Option Bool
 | 0, _, _ => none
 | k + 1, x0, x1 => Qv.b4 qw qm qE mlo mhi qJ qi qz qo qy qn (Qv.l4 qa qw qm qE mlo mhi qJ qi qz qo qy qn k) x0 x1
def Qv.b (qw qm qE mlo mhi qJ qi qz qo qy : Int) (qn : LR) (E4 : Int → Int → Option Bool) : Option Bool :=
 (if (za qn) then (if (!(qR qw qm qE mlo mhi qJ qi qz qo qy qn)) then some (false) else (if (qw == (9 : Int)) then some (false) else (if (qo != (0 : Int)) then some (false) else (if (za qn) then (if (decide ((qdK qw qm qE mlo mhi qJ qi qz qo qy qn) > (65499 : Int))) then some (false) else E4 ((((List.length qn)) : Nat) : Int) (0 : Int)) else none)))) else none)
def Qv.f (qa : Nat) (qw qm qE mlo mhi qJ qi qz qo qy : Int) (qn : LR) : Option Bool := Qv.b qw qm qE mlo mhi qJ qi qz qo qy qn (Qv.l4 qa qw qm qE mlo mhi qJ qi qz qo qy qn qa)
theorem Qv.l4_eq (qa : Nat) (qw qm qE mlo mhi qJ qi qz qo qy : Int) (qn : LR) : ∀ k : Nat, Qv.p4 qa qw qm qE mlo mhi qJ qi qz qo qy qn k = Qv.l4 qa qw qm qE mlo mhi qJ qi qz qo qy qn k
 | 0 => by kernel_rfl
 | k + 1 => by
  refine Eq.trans (b := Qv.b4 qw qm qE mlo mhi qJ qi qz qo qy qn (Qv.p4 qa qw qm qE mlo mhi qJ qi qz qo qy qn k)) (by kernel_rfl) ?_
  rw [Qv.l4_eq qa qw qm qE mlo mhi qJ qi qz qo qy qn k]
  kernel_rfl
theorem Qv.eq (qa : Nat) (qw qm qE mlo mhi qJ qi qz qo qy : Int) (qn : LR) : (denF qiR loopN qa Tryz.f69 [.raw] [.agg [.d tQi qw, .d tQi qm, .d tQi qE, .d tQi mlo, .d tQi mhi, .d tQi qJ, .d tQi qi, .d tQi qz, .d tQi qo, .d tQi qy, .d (.sl tQr) qn]] [] Qv.k) = Qv.f qa qw qm qE mlo mhi qJ qi qz qo qy qn := by
 refine Eq.trans (b := Qv.b qw qm qE mlo mhi qJ qi qz qo qy qn (Qv.p4 qa qw qm qE mlo mhi qJ qi qz qo qy qn qa)) (by kernel_rfl) ?_
 rw [Qv.l4_eq qa qw qm qE mlo mhi qJ qi qz qo qy qn qa]
 kernel_rfl
def qnd : Env := ⟨th, gam [(60, qa5), (61, qbY), (64, qa7)], fun i => ⟨[], [], []⟩⟩
def qcZ.k (rs : List AV) (os : List Den.Obj) : Option (Int × (List Int)) :=
 match rs, os with
 | [.agg [.d (.int .i64) r0, .d (.sl (.int .u8)) r1]], [] => some (r0, r1)
 | _, _ => none
def qcZ.b (t n v : Int) : Option (Int × (List Int)) :=
 (if (zN n v) then (if (QQ (be (Int.toNat n) v)) then some (t, (be (Int.toNat n) v)) else none) else none)
def qcZ.f (qa : Nat) (t n v : Int) : Option (Int × (List Int)) := qcZ.b t n v
theorem qcZ.eq (qa : Nat) (t n v : Int) : (denF qnd loopN qa Tryz.f70 [.dat (.pair tQi (.sl (.int .u8))) true] [.d tQi t, .d tQi n, .d tQi v] [] qcZ.k) = qcZ.f qa t n v := by
 kernel_rfl
theorem qeG (x : Int × List Int) (b : LF) : Zn (x :: b) = 3 + (x.2.length : Int) + Zn b := by
 unfold Zn; simp
theorem qfM (b : LF) : 0 ≤ Zn b := by unfold Zn; omega
theorem qjl : ∀ (l : LF) (qe size : Int), size ≤ 4096 → qen l qe size = true → size + Zn l ≤ 4096 + 3 * (l.length : Int)
 | [], qe, size, h0, h => by simp [Zn]; omega
 | x :: l, qe, size, h0, h => by
  unfold qen at h
  split at h
  ·cases h
  ·split at h
   ·cases h
   ·rename_i h1 h2
    simp at h2
    have ih := qjl l x.1 (size + (x.2.length : Int)) h2 h
    rw [qeG]
    simp
    omega
theorem Zv {b : LF} (h : qbo b = true) : b.length ≤ 32 ∧ 0 ≤ Zn b ∧ Zn b ≤ 4192 := by
 unfold qbo at h
 split at h
 ·cases h
 ·rename_i h1
  simp at h1
  have := qjl b 32 0 (by omega) h
  have := qfM b
  omega
theorem qik (b : LF) : qe0 b = true ↔ qbo b = true ∧ zn b = true := by unfold qe0; simp
theorem z7.loop (qa : Nat) (id inc st lo hi : Int) (cut : Bool) (bag : LF) (hb : bag.length ≤ 32) : ∀ (k i : Nat) (n : Int), i ≤ bag.length → bag.length - i < k → 0 ≤ n → n + Zn (bag.drop i) < 1000000 →
  z7.l3 qa id inc st lo hi cut bag k n (bag.length : Int) (i : Int) = some (n + Zn (bag.drop i)) := by
 intro k
 induction k with
 | zero => intro i n h1 h2; omega
 | succ k ih =>
  intro i n h1 h2 h3 h4
  rw [z7.l3]
  unfold z7.b3
  by_cases hi' : i < bag.length
  ·rw [if_pos (by simp; omega), Qn, List.getElem?_eq_getElem hi']
   dsimp only
   rw [List.drop_eq_getElem_cons hi', qeG] at h4 ⊢
   have hn := qfM (bag.drop (i + 1))
   rw [qK (3 + _) (by omega) (by omega), qK (n + _) (by omega) (by omega), qK ((i : Int) + 1) (by omega) (by omega)]
   have := ih (i + 1) (n + (3 + (bag[i].2.length : Int))) (by omega) (by omega) (by omega) (by omega)
   rw [show ((i + 1 : Nat) : Int) = (i : Int) + 1 from by omega] at this
   rw [this]
   congr 1
   omega
  ·rw [if_neg (by simp; omega), List.drop_of_length_le (by omega)]
   simp [Zn]
theorem z7.pure (id inc st lo hi : Int) (cut : Bool) (bag : LF) (hl : qe0 bag = true) :
  z7.f (bag.length + 1) id inc st lo hi cut bag = some (qci (id, inc, st, (lo, hi), cut, bag)) := by
 obtain ⟨h1, h2⟩ := (qik bag).1 hl
 obtain ⟨b1, b2, b3⟩ := Zv h1
 unfold z7.f z7.b
 have := z7.loop (bag.length + 1) id inc st lo hi cut bag b1 (bag.length + 1) 0 23 (by omega) (by omega) (by omega) (by rw [List.drop_zero]; omega)
 rw [List.drop_zero] at this
 exact this
theorem qiF (r : Int × Int × Int × (Int × Int) × Bool × LF) : (r.1, r.2.1, r.2.2.1, (r.2.2.2.1.1, r.2.2.2.1.2), r.2.2.2.2.1, r.2.2.2.2.2) = r := rfl
theorem qi8 {r : Int × Int × Int × (Int × Int) × Bool × LF} (h : zu r = true) : 23 ≤ qci r ∧ qci r ≤ 4215 := by
 obtain ⟨_, _, _, _, _, _, _, f8, _⟩ := zy h
 have := Zv f8
 unfold qci
 omega
theorem qfj : ∀ (l : LR), (∀ r ∈ l, zu r = true) → 0 ≤ qaJ l ∧ qaJ l ≤ 4215 * (l.length : Int)
 | [], h => by simp [qaJ]
 | r :: l, h => by
  have h1 := qi8 (h r (by simp))
  have h2 := qfj l (fun r hr => h r (by simp [hr]))
  simp [qaJ]
  omega
theorem Qu.loop (qa : Nat) (qh qv inc lo hi seq qk qQ qB qc : Int) (qg : LR) (hr : ∀ r ∈ qg, zu r = true ∧ zn r.2.2.2.2.2 = true) (hlen : qg.length ≤ 255) : ∀ (k i : Nat) (n : Int), i ≤ qg.length → qg.length - i < k → 0 ≤ n → n + qaJ (qg.drop i) < 2000000 →
  Qu.l9 qa qh qv inc lo hi seq qk qQ qB qc qg k n (qg.length : Int) (i : Int) = some (n + qaJ (qg.drop i)) := by
 intro k
 induction k with
 | zero => intro i n h1 h2; omega
 | succ k ih =>
  intro i n h1 h2 h3 h4
  rw [Qu.l9]
  unfold Qu.b9
  by_cases hi' : i < qg.length
  ·rw [if_pos (by simp; omega), Qn, List.getElem?_eq_getElem hi']
   dsimp only
   rw [List.drop_eq_getElem_cons hi'] at h4 ⊢
   have hn := qfj (qg.drop (i + 1)) (fun r hm => (hr r (List.mem_of_mem_drop hm)).1)
   obtain ⟨hok, hs⟩ := hr qg[i] (List.getElem_mem hi')
   have hfit : qe0 qg[i].2.2.2.2.2 = true := (qik _).2 ⟨(zy hok).2.2.2.2.2.2.2.1, hs⟩
   have hq := qi8 hok
   simp only [qaJ] at h4 ⊢
   rw [qiF, if_pos hfit, qK (n + _) (by omega) (by omega), qK ((i : Int) + 1) (by omega) (by omega)]
   have := ih (i + 1) (n + qci qg[i]) (by omega) (by omega) (by omega) (by omega)
   rw [show ((i + 1 : Nat) : Int) = (i : Int) + 1 from by omega] at this
   rw [this]
   congr 1
   omega
  ·rw [if_neg (by simp; omega), List.drop_of_length_le (by omega)]
   simp [qaJ]
theorem Qu.pure (qh qv inc lo hi seq qk qQ qB qc : Int) (qg : LR) (hl : za qg = true) :
  Qu.f (qg.length + 1) qh qv inc lo hi seq qk qQ qB qc qg = some (qdK qh qv inc lo hi seq qk qQ qB qc qg) := by
 unfold Qu.f Qu.b qdK
 rw [if_pos hl]
 cases hv : qR qh qv inc lo hi seq qk qQ qB qc qg
 ·rfl
 obtain ⟨v1, v2, v3, v4, v5, v6, v7, v8, v9, v10, v11, _, v12, v13⟩ := Ql hv
 have hs := ((Zk qg).1 hl).2
 have hn := qfj qg v13
 have hlp := fun n h0 h1 => Qu.loop (qg.length + 1) qh qv inc lo hi seq qk qQ qB qc qg (fun r hr => ⟨v13 r hr, hs r hr⟩) v12 (qg.length + 1) 0 n (by omega) (by omega) h0 h1
 simp only [List.drop_zero] at hlp
 have w1 : IntKind.wrap .i64 (22 + 5) = 27 := rfl
 have w2 : IntKind.wrap .i64 (27 + 5) = 32 := rfl
 have hz : ((0 : Nat) : Int) = 0 := rfl
 rw [hz] at hlp
 simp only [w1, w2, hlp 22 (by omega) (by omega), hlp 27 (by omega) (by omega), hlp 32 (by omega) (by omega)]
 cases qt qh 0 <;> cases qt qh 1 <;> simp
theorem Qv.loop (qa : Nat) (qh qv inc lo hi seq qk qQ qB qc : Int) (qg : LR) (hlen : qg.length < 281474976710656) : ∀ (k i : Nat), i ≤ qg.length → qg.length - i < k →
  Qv.l4 qa qh qv inc lo hi seq qk qQ qB qc qg k (qg.length : Int) (i : Int) = some (qbS (qg.drop i)) := by
 intro k
 induction k with
 | zero => intro i h1 h2; omega
 | succ k ih =>
  intro i h1 h2
  rw [Qv.l4]
  unfold Qv.b4
  by_cases hi' : i < qg.length
  ·rw [if_pos (by simp; omega), Qn, List.getElem?_eq_getElem hi', veil_eq]
   dsimp only
   rw [List.drop_eq_getElem_cons hi', qbS]
   have := ih (i + 1) (by omega) (by omega)
   rw [show ((i + 1 : Nat) : Int) = (i : Int) + 1 from by omega] at this
   rw [qK ((i : Int) + 1) (by omega) (by omega), this]
   split <;> rfl
  ·rw [if_neg (by simp; omega), List.drop_of_length_le (by omega)]
   rfl
theorem Qv.pure (qh qv inc lo hi seq qk qQ qB qc : Int) (qg : LR) (hl : za qg = true) :
  Qv.f (qg.length + 1) qh qv inc lo hi seq qk qQ qB qc qg = some (qaH qh qv inc lo hi seq qk qQ qB qc qg) := by
 unfold Qv.f Qv.b qaH
 have := Qv.loop (qg.length + 1) qh qv inc lo hi seq qk qQ qB qc qg ((Zk qg).1 hl).1 (qg.length + 1) 0 (by omega) (by omega)
 rw [show ((0 : Nat) : Int) = 0 from rfl, List.drop_zero] at this
 rw [if_pos hl, this]
 cases qR qh qv inc lo hi seq qk qQ qB qc qg <;> cases (qh == 9) <;> cases (qB != 0) <;> cases (decide (qdK qh qv inc lo hi seq qk qQ qB qc qg > 65499)) <;> simp [hl]
theorem qmm (t : Int) : qln t = true ↔ 0 ≤ t ∧ t ≤ 255 := by unfold qln; simp
theorem qcZ.pure (t n v : Int) (hf : zN n v = true) : qcZ.f 0 t n v = some (t, be n.toNat v) := by
 unfold qcZ.f qcZ.b
 have hr : QQ (be n.toNat v) = true := qaB (by rw [zw]; have := (qaS n v).1 hf; omega)
 rw [if_pos hf, if_pos hr]
theorem qlA : SumDet qd0 := zi fun _ _ _ _ => by
 unfold qd0
 simp only
 split
 ·first | rfl | (split <;> rfl)
 ·rfl
theorem qmz : SumOk Tryz.prog 104 qd0 := by
 have hE : EnvOk Tryz.prog qhs := env_ok (l := []) th_ok qU trivial _
 refine sum_ok hE Tryz.func104 rfl (by kernel_rfl) qd0 [.raw] z7.k ?_
 intro R avs qj κ r h
 unfold qd0 at h
 simp only at h
 split at h
 ·rename_i rid zq rst rlo rhi zr zm
  split at h
  case isFalse => cases h
  rename_i hl
  refine ⟨zm.length + 1, _, _, _, (z7.eq (zm.length + 1) rid zq rst rlo rhi zr zm).trans (z7.pure rid zq rst rlo rhi zr zm hl), ?_, h⟩
  intro rs ros hk
  unfold z7.k at hk
  split at hk
  ·first | (cases hk; exact ⟨rfl, rfl⟩) | (rw [← Option.some.inj hk]; exact ⟨rfl, rfl⟩)
  ·cases hk
 ·cases h
theorem qkw : SumDet qdf := zi fun _ _ _ _ => by
 unfold qdf
 simp only
 split
 ·first | rfl | (split <;> rfl)
 ·rfl
theorem qly : SumOk Tryz.prog 91 qdf := by
 have hE : EnvOk Tryz.prog qiQ := env_ok (l := [(58, QI), (71, ZI), (104, qd0)]) th_ok qU ⟨⟨qah, ZW⟩, ⟨qbe, qaP⟩, ⟨qmz, qlA⟩, trivial⟩ _
 refine sum_ok hE Tryz.func91 rfl (by kernel_rfl) qdf [.raw] Qu.k ?_
 intro R avs qj κ r h
 unfold qdf at h
 simp only at h
 split at h
 ·rename_i qw qm qE mlo mhi qJ qi qz qo qy qn
  split at h
  case isFalse => cases h
  rename_i hl
  refine ⟨qn.length + 1, _, _, _, (Qu.eq (qn.length + 1) qw qm qE mlo mhi qJ qi qz qo qy qn).trans (Qu.pure qw qm qE mlo mhi qJ qi qz qo qy qn hl), ?_, h⟩
  intro rs ros hk
  unfold Qu.k at hk
  split at hk
  ·first | (cases hk; exact ⟨rfl, rfl⟩) | (rw [← Option.some.inj hk]; exact ⟨rfl, rfl⟩)
  ·cases hk
 ·cases h
theorem qgP : SumDet qbZ := zi fun _ _ _ _ => by
 unfold qbZ
 simp only
 split
 ·first | rfl | (split <;> rfl)
 ·rfl
theorem qhT : SumOk Tryz.prog 69 qbZ := by
 have hE : EnvOk Tryz.prog qiR := env_ok (l := [(58, QI), (91, qdf)]) th_ok qU ⟨⟨qah, ZW⟩, ⟨qly, qkw⟩, trivial⟩ _
 refine sum_ok hE Tryz.func69 rfl (by kernel_rfl) qbZ [.raw] Qv.k ?_
 intro R avs qj κ r h
 unfold qbZ at h
 simp only at h
 split at h
 ·rename_i qw qm qE mlo mhi qJ qi qz qo qy qn
  split at h
  case isFalse => cases h
  rename_i hl
  refine ⟨qn.length + 1, _, _, _, (Qv.eq (qn.length + 1) qw qm qE mlo mhi qJ qi qz qo qy qn).trans (Qv.pure qw qm qE mlo mhi qJ qi qz qo qy qn hl), ?_, h⟩
  intro rs ros hk
  unfold Qv.k at hk
  split at hk
  ·first | (cases hk; exact ⟨rfl, rfl⟩) | (rw [← Option.some.inj hk]; exact ⟨rfl, rfl⟩)
  ·cases hk
 ·cases h
theorem qhH : SumDet qcK := zi fun _ _ _ _ => by
 unfold qcK
 simp only
 split
 ·first | rfl | (split <;> rfl)
 ·rfl
theorem qi0 : SumOk Tryz.prog 70 qcK := by
 have hE : EnvOk Tryz.prog qnd := env_ok (l := [(60, qa5), (61, qbY), (64, qa7)]) th_ok qU ⟨⟨qe5, qeq⟩, ⟨qfc, qej⟩, ⟨qfh, qex⟩, trivial⟩ _
 refine sum_ok hE Tryz.func70 rfl (by kernel_rfl) qcK [.dat (.pair tQi (.sl (.int .u8))) true] qcZ.k ?_
 intro R avs qj κ r h
 unfold qcK at h
 simp only at h
 split at h
 ·rename_i t n v
  split at h
  case isFalse => cases h
  rename_i hl
  refine ⟨0, _, _, _, (qcZ.eq (0) t n v).trans (qcZ.pure t n v hl), ?_, h⟩
  intro rs ros hk
  unfold qcZ.k at hk
  split at hk
  ·first | (cases hk; exact ⟨rfl, rfl⟩) | (rw [← Option.some.inj hk]; exact ⟨rfl, rfl⟩)
  ·cases hk
 ·cases h
def zX (x : (Int × List Int)) : List Int := x.1 :: ((x.2.length / 256 : Nat) : Int) :: ((x.2.length % 256 : Nat) : Int) :: x.2
def itB (t n v : Int) : List Int := t :: 0 :: n :: be n.toNat v
def qcW (r : (Int × Int × Int × (Int × Int) × Bool × LF)) : Int := if r.2.2.2.2.1 then r.2.2.1 + 128 else r.2.2.1
def QM (r : (Int × Int × Int × (Int × Int) × Bool × LF)) : List Int := itB 1 2 r.1 ++ (itB 2 4 r.2.1 ++ (itB 3 1 (qcW r) ++ (itB 4 1 (r.2.2.2.1.1 * 16 + r.2.2.2.1.2) ++ r.2.2.2.2.2.flatMap zX)))
def qdq (r : (Int × Int × Int × (Int × Int) × Bool × LF)) : List Int := zX (7, QM r)
def ZQ (qh qv inc lo hi seq qk : Int) (qg : LR) : List Int :=
 itB 1 1 qh ++ (itB 2 2 qv ++ (itB 3 6 inc ++ (itB 4 1 (lo * 16 + hi) ++ ((if qt qh 0 then itB 5 2 seq else []) ++ ((if qt qh 1 then itB 6 2 qk else []) ++ qg.flatMap qdq)))))
def qh1 (r : (Int × Int × Int × (Int × Int) × Bool × LF)) : Bool := zu r && zn r.2.2.2.2.2
def qdS (r : (Int × Int × Int × (Int × Int) × Bool × LF)) : Bool := qh1 r && decide (r.2.1 ≤ 4294967295)
def qaq (r : (Int × Int × Int × (Int × Int) × Bool × LF)) : LF := [(1, be 2 r.1), (2, be 4 r.2.1), (3, be 1 (qcW r)), (4, be 1 (r.2.2.2.1.1 * 16 + r.2.2.2.1.2))] ++ r.2.2.2.2.2
def qif (qh qv inc lo hi seq qk qQ qB qc : Int) (qg : LR) : Bool :=
 if !qR qh qv inc lo hi seq qk qQ qB qc qg || (qh == 9 || (qQ != 0 || (qB != 0 || qc != 0))) then false else if !qbS qg then false else decide (((ZQ qh qv inc lo hi seq qk qg).length : Int) ≤ 65499)
def qeb (l : LF) : Bool := decide (l.length ≤ 300) && l.all fun x => qln x.1 && decide (x.2.length ≤ 65535)
def qcV (qh qv inc lo hi seq qk qQ qB qc : Int) (qg : LR) : List Int × Int :=
 if !qR qh qv inc lo hi seq qk qQ qB qc qg then ([], 1) else if !qaH qh qv inc lo hi seq qk qQ qB qc qg then ([], 14) else (ZQ qh qv inc lo hi seq qk qg, 0)
def qbI : Den.Sum := ⟨[.dat tQr true], fun qA qj κ => match qA, qj with
 | [.agg [.d (.int .i64) rid, .d (.int .i64) zq, .d (.int .i64) rst, .d (.int .i64) rlo, .d (.int .i64) rhi, .d .bool zr, .d (.sl (.pair (.int .i64) (.sl (.int .u8)))) zm]], [] => if qdS (rid, zq, rst, (rlo, rhi), zr, zm) = true then κ [.d (.sl (.pair (.int .i64) (.sl (.int .u8)))) (qaq (rid, zq, rst, (rlo, rhi), zr, zm))] [] else none
 | _, _ => none⟩
def qd4 : Den.Sum := ⟨[.dat (.sl (.pair tQi (.sl (.int .u8)))) false], fun qA qj κ => match qA, qj with
 | [.d (.sl (.pair (.int .i64) (.sl (.int .u8)))) l], [] => if qeb l = true then κ [.d (.sl (.int .u8)) (l.flatMap zX), .d (.int .i64) 0] [] else none
 | _, _ => none⟩
def qd6 : Den.Sum := ⟨[.dat (.pair tQi (.pair tQi (.pair tQi (.pair (.pair tQi tQi) (.pair tQi (.pair tQi (.pair tQi (.pair tQi (.pair tQi (.sl tQr)))))))))) true], fun qA qj κ => match qA, qj with
 | [.agg [.d (.int .i64) qw, .d (.int .i64) qm, .d (.int .i64) qE, .d (.int .i64) mlo, .d (.int .i64) mhi, .d (.int .i64) qJ, .d (.int .i64) qi, .d (.int .i64) qz, .d (.int .i64) qo, .d (.int .i64) qy, .d (.sl (.pair (.int .i64) (.pair (.int .i64) (.pair (.int .i64) (.pair (.pair (.int .i64) (.int .i64)) (.pair .bool (.sl (.pair (.int .i64) (.sl (.int .u8)))))))))) qn]], [] => if za qn = true then κ [.d (.sl (.int .u8)) (qcV qw qm qE mlo mhi qJ qi qz qo qy qn).1, .d (.int .i64) (qcV qw qm qE mlo mhi qJ qi qz qo qy qn).2] [] else none
 | _, _ => none⟩
def qjm : Env := ⟨th, gam [(70, qcK), (62, Z2)], fun i => ⟨[], [], []⟩⟩
def Z8.k (rs : List AV) (os : List Den.Obj) : Option LF :=
 match rs, os with
 | [.d (.sl (.pair (.int .i64) (.sl (.int .u8)))) r0], [] => some r0
 | _, _ => none
def Z8.b (rid zq rst rlo rhi : Int) (zr : Bool) (zm : LF) : Option LF :=
 (if zr then (if (zN (2 : Int) rid) then (if (zN (4 : Int) zq) then (if (zN (1 : Int) (IntKind.wrap .i64 (rst + (128 : Int)))) then (if (zN (1 : Int) (z6 rlo rhi)) then (if ((((List.length (((1 : Int), (be (Int.toNat (2 : Int)) rid)) :: (((2 : Int), (be (Int.toNat (4 : Int)) zq)) :: (((3 : Int), (be (Int.toNat (1 : Int)) (IntKind.wrap .i64 (rst + (128 : Int))))) :: (((4 : Int), (be (Int.toNat (1 : Int)) (z6 rlo rhi))) :: ([] : LF)))))) + (List.length zm)) * (32 : Nat)) ≤ lim) then some (((((1 : Int), (be (Int.toNat (2 : Int)) rid)) :: (((2 : Int), (be (Int.toNat (4 : Int)) zq)) :: (((3 : Int), (be (Int.toNat (1 : Int)) (IntKind.wrap .i64 (rst + (128 : Int))))) :: (((4 : Int), (be (Int.toNat (1 : Int)) (z6 rlo rhi))) :: ([] : LF))))) ++ zm)) else none) else none) else none) else none) else none) else (if (zN (2 : Int) rid) then (if (zN (4 : Int) zq) then (if (zN (1 : Int) rst) then (if (zN (1 : Int) (z6 rlo rhi)) then (if ((((List.length (((1 : Int), (be (Int.toNat (2 : Int)) rid)) :: (((2 : Int), (be (Int.toNat (4 : Int)) zq)) :: (((3 : Int), (be (Int.toNat (1 : Int)) rst)) :: (((4 : Int), (be (Int.toNat (1 : Int)) (z6 rlo rhi))) :: ([] : LF)))))) + (List.length zm)) * (32 : Nat)) ≤ lim) then some (((((1 : Int), (be (Int.toNat (2 : Int)) rid)) :: (((2 : Int), (be (Int.toNat (4 : Int)) zq)) :: (((3 : Int), (be (Int.toNat (1 : Int)) rst)) :: (((4 : Int), (be (Int.toNat (1 : Int)) (z6 rlo rhi))) :: ([] : LF))))) ++ zm)) else none) else none) else none) else none) else none))
def Z8.f (qa : Nat) (rid zq rst rlo rhi : Int) (zr : Bool) (zm : LF) : Option LF := Z8.b rid zq rst rlo rhi zr zm
theorem Z8.eq (qa : Nat) (rid zq rst rlo rhi : Int) (zr : Bool) (zm : LF) : (denF qjm loopN qa Tryz.f73 [.dat (.sl (.pair tQi (.sl (.int .u8)))) false] [.agg [.d tQi rid, .d tQi zq, .d tQi rst, .d tQi rlo, .d tQi rhi, .d .bool zr, .d (.sl (.pair tQi (.sl (.int .u8)))) zm]] [] Z8.k) = Z8.f qa rid zq rst rlo rhi zr zm := by
 kernel_rfl
def qir : Env := ⟨th, gam [], fun i => if i = 3 then ⟨[4, 8, 9, 10], [(4, 5, (.int .u8))], []⟩ else if i = 11 then ⟨[4, 6, 8, 9, 10, 32], [], []⟩ else ⟨[], [], []⟩⟩
def zL.k (rs : List AV) (os : List Den.Obj) : Option ((List Int) × Int) :=
 match rs, os with
 | [.d (.sl (.int .u8)) r0, .d (.int .i64) r1], [] => some (r0, r1)
 | _, _ => none
def zL.s11 (l : LF) (x4 x5 x6 : Int) (x7 : (List Int)) (x8 : Int) (x9 : (List Int)) : St := ⟨[dD, dD, dD, dD, .row 64, .dead, .ptr 65 0, .dead, .d (.sl (.pair tQi (.sl (.int .u8)))) (l), .d tQi x4, .d tQi x5, dD, dD, dD, dD, dD, dD, dD, dD, dD, dD, dD, dD, dD, dD, dD, dD, dD, dD, dD, dD, dD, .d tQi x6, dD, dD, dD, dD, dD, dD, dD, dD, dD, dD, dD, dD, dD, dD, dD, dD, dD, dD, dD, .dead], ofL [(64, .row 5 (.int .u8) x7 false), (65, .box [.d tQi x8, .d (.sl (.int .u8)) x9])], 0⟩
def zL.p11 (qa : Nat) (l : LF) (k3 k : Nat) := fun x4 x5 x6 x7 x8 x9 => lp qir qa Tryz.f72 [.dat (.sl (.int .u8)) false, .raw] 0 zL.k 11 [k3] k (zL.s11 l x4 x5 x6 x7 x8 x9)
def zL.b11 (l : LF) (A3 : Int → Int → (List Int) → Option ((List Int) × Int)) (A11 : Int → Int → Int → (List Int) → Int → (List Int) → Option ((List Int) × Int)) (x4 : Int) (x5 : Int) (x6 : Int) (x7 : (List Int)) (x8 : Int) (x9 : (List Int)) : Option ((List Int) × Int) :=
 (if (decide (x6 < (2 : Int))) then (if ((IntKind.wrap .i64 ((8 : Int) - (IntKind.wrap .i64 ((8 : Int) * x6)))) < (0 : Int)) then none else (if ((((List.length x7) + (List.length ((IntKind.wrap .u8 (Int.fdiv ((((List.length x9)) : Nat) : Int) ((2 : Int) ^ (Min.min (Int.toNat (IntKind.wrap .i64 ((8 : Int) - (IntKind.wrap .i64 ((8 : Int) * x6))))) (IntKind.bits .i64))))) :: ([] : List Int)))) * (1 : Nat)) ≤ lim) then A11 x4 x5 (IntKind.wrap .i64 (x6 + (1 : Int))) (x7 ++ ((IntKind.wrap .u8 (Int.fdiv ((((List.length x9)) : Nat) : Int) ((2 : Int) ^ (Min.min (Int.toNat (IntKind.wrap .i64 ((8 : Int) - (IntKind.wrap .i64 ((8 : Int) * x6))))) (IntKind.bits .i64))))) :: ([] : List Int))) x8 x9 else none)) else (if ((((List.length x7) + (List.length x9)) * (1 : Nat)) ≤ lim) then A3 x4 (IntKind.wrap .i64 (x5 + (1 : Int))) (x7 ++ x9) else none))
def zL.l11 (qa : Nat) (l : LF) (A3 : Int → Int → (List Int) → Option ((List Int) × Int)) : Nat → Int → Int → Int → (List Int) → Int → (List Int) → Option ((List Int) × Int)
 | 0, _, _, _, _, _, _ => none
 | k + 1, x4, x5, x6, x7, x8, x9 => zL.b11 l A3 (zL.l11 qa l A3 k) x4 x5 x6 x7 x8 x9
def zL.s3 (l : LF) (x0 x1 : Int) (x2 : (List Int)) : St := ⟨[dD, dD, dD, dD, .row 64, dD, dD, dD, .d (.sl (.pair tQi (.sl (.int .u8)))) (l), .d tQi x0, .d tQi x1, dD, dD, dD, dD, dD, dD, dD, dD, dD, dD, dD, dD, dD, dD, dD, dD, dD, dD, dD, dD, dD, dD, dD, dD, dD, dD, dD, dD, dD, dD, dD, dD, dD, dD, dD, dD, dD, dD, dD, dD, dD, .dead], ofL [(64, .row 5 (.int .u8) x2 false)], 0⟩
def zL.p3 (qa : Nat) (l : LF) (k : Nat) := fun x0 x1 x2 => lp qir qa Tryz.f72 [.dat (.sl (.int .u8)) false, .raw] 0 zL.k 3 [] k (zL.s3 l x0 x1 x2)
def zL.b3 (l : LF) (A3 : Int → Int → (List Int) → Option ((List Int) × Int)) (E11 : Int → Int → Int → (List Int) → Int → (List Int) → Option ((List Int) × Int)) (x0 : Int) (x1 : Int) (x2 : (List Int)) : Option ((List Int) × Int) :=
 (if (decide (x1 < x0)) then (match (idx l x1) with | none => none | some y3 => (if (decide (y3.1 < (0 : Int))) then some (([] : List Int), (5 : Int)) else (if (decide (y3.1 > (255 : Int))) then some (([] : List Int), (5 : Int)) else (if (decide (((((List.length y3.2)) : Nat) : Int) > (65535 : Int))) then some (([] : List Int), (3 : Int)) else (if ((((List.length x2) + (List.length ((IntKind.wrap .u8 y3.1) :: ([] : List Int)))) * (1 : Nat)) ≤ lim) then E11 x0 x1 (0 : Int) (x2 ++ ((IntKind.wrap .u8 y3.1) :: ([] : List Int))) y3.1 y3.2 else none))))) else some (x2, (0 : Int)))
def zL.l3 (qa : Nat) (l : LF) : Nat → Int → Int → (List Int) → Option ((List Int) × Int)
 | 0, _, _, _ => none
 | k + 1, x0, x1, x2 => zL.b3 l (zL.l3 qa l k) (zL.l11 qa l (zL.l3 qa l k) qa) x0 x1 x2
def zL.b (l : LF) (E3 : Int → Int → (List Int) → Option ((List Int) × Int)) : Option ((List Int) × Int) :=
 E3 ((((List.length l)) : Nat) : Int) (0 : Int) ([] : List Int)
def zL.f (qa : Nat) (l : LF) : Option ((List Int) × Int) := zL.b l (zL.l3 qa l qa)
theorem zL.l11_eq (qa : Nat) (l : LF) (k3 : Nat) : ∀ k : Nat, zL.p11 qa l k3 k = zL.l11 qa l (zL.p3 qa l k3) k
 | 0 => by kernel_rfl
 | k + 1 => by
  refine Eq.trans (b := zL.b11 l (zL.p3 qa l k3) (zL.p11 qa l k3 k)) (by kernel_rfl) ?_
  rw [zL.l11_eq qa l k3 k]
  kernel_rfl
theorem zL.l3_eq (qa : Nat) (l : LF) : ∀ k : Nat, zL.p3 qa l k = zL.l3 qa l k
 | 0 => by kernel_rfl
 | k + 1 => by
  refine Eq.trans (b := zL.b3 l (zL.p3 qa l k) (zL.p11 qa l k qa)) (by kernel_rfl) ?_
  rw [zL.l3_eq qa l k, zL.l11_eq qa l k qa, zL.l3_eq qa l k]
  kernel_rfl
theorem zL.eq (qa : Nat) (l : LF) : (denF qir loopN qa Tryz.f72 [.dat (.sl (.int .u8)) false, .raw] [.d (.sl (.pair tQi (.sl (.int .u8)))) l] [] zL.k) = zL.f qa l := by
 refine Eq.trans (b := zL.b l (zL.p3 qa l qa)) (by kernel_rfl) ?_
 rw [zL.l3_eq qa l qa]
 kernel_rfl
def qgm : Env := ⟨th, gam [(58, QI), (69, qbZ), (70, qcK), (62, Z2), (71, ZI), (73, qbI), (72, qd4)], fun i => if i = 11 then ⟨[4, 48, 49, 50], [], []⟩ else ⟨[], [], []⟩⟩
def zQ.k (rs : List AV) (os : List Den.Obj) : Option ((List Int) × Int) :=
 match rs, os with
 | [.d (.sl (.int .u8)) r0, .d (.int .i64) r1], [] => some (r0, r1)
 | _, _ => none
def zQ.s11 (qw qm qE mlo mhi qJ qi qz qo qy : Int) (qn : LR) (x0 x1 : Int) (x2 : LF) : St := ⟨[dD, dD, dD, dD, .row 64, dD, dD, dD, dD, dD, dD, dD, dD, dD, dD, dD, dD, dD, dD, dD, dD, dD, dD, dD, dD, dD, dD, dD, dD, dD, dD, dD, dD, dD, dD, dD, dD, dD, dD, dD, dD, dD, dD, dD, dD, dD, dD, dD, .d (.sl tQr) (qn), .d tQi x0, .d tQi x1, dD, dD, dD, dD, dD, dD, dD, dD, dD, dD, dD, dD, dD, dD, dD, dD, dD, dD, .dead], ofL [(64, .row 122 (.pair tQi (.sl (.int .u8))) x2 false)], 0⟩
def zQ.p11 (qa : Nat) (qw qm qE mlo mhi qJ qi qz qo qy : Int) (qn : LR) (k : Nat) := fun x0 x1 x2 => lp qgm qa Tryz.f45 [.dat (.sl (.int .u8)) false, .raw] 0 zQ.k 11 [] k (zQ.s11 qw qm qE mlo mhi qJ qi qz qo qy qn x0 x1 x2)
def zQ.b11 (qw qm qE mlo mhi qJ qi qz qo qy : Int) (qn : LR) (A11 : Int → Int → LF → Option ((List Int) × Int)) (x0 : Int) (x1 : Int) (x2 : LF) : Option ((List Int) × Int) :=
 (if (decide (x1 < x0)) then (match (idx qn x1) with | none => none | some y3 => (if (qdS (y3.1, (y3.2.1, (y3.2.2.1, ((y3.2.2.2.1.1, y3.2.2.2.1.2), (y3.2.2.2.2.1, y3.2.2.2.2.2)))))) then (if (qeb (qaq (y3.1, (y3.2.1, (y3.2.2.1, ((y3.2.2.2.1.1, y3.2.2.2.1.2), (y3.2.2.2.2.1, y3.2.2.2.2.2))))))) then (if ((((List.length x2) + (List.length (((7 : Int), (List.flatMap zX (qaq (y3.1, (y3.2.1, (y3.2.2.1, ((y3.2.2.2.1.1, y3.2.2.2.1.2), (y3.2.2.2.2.1, y3.2.2.2.2.2)))))))) :: ([] : LF)))) * (32 : Nat)) ≤ lim) then A11 x0 (IntKind.wrap .i64 (x1 + (1 : Int))) (x2 ++ (((7 : Int), (List.flatMap zX (qaq (y3.1, (y3.2.1, (y3.2.2.1, ((y3.2.2.2.1.1, y3.2.2.2.1.2), (y3.2.2.2.2.1, y3.2.2.2.2.2)))))))) :: ([] : LF))) else none) else none) else none)) else (if (qeb x2) then some ((List.flatMap zX x2), 0) else none))
def zQ.l11 (qa : Nat) (qw qm qE mlo mhi qJ qi qz qo qy : Int) (qn : LR) : Nat → Int → Int → LF → Option ((List Int) × Int)
 | 0, _, _, _ => none
 | k + 1, x0, x1, x2 => zQ.b11 qw qm qE mlo mhi qJ qi qz qo qy qn (zQ.l11 qa qw qm qE mlo mhi qJ qi qz qo qy qn k) x0 x1 x2
def zQ.b (qw qm qE mlo mhi qJ qi qz qo qy : Int) (qn : LR) (E11 : Int → Int → LF → Option ((List Int) × Int)) : Option ((List Int) × Int) :=
 (if (za qn) then (if (!(qR qw qm qE mlo mhi qJ qi qz qo qy qn)) then some (([] : List Int), (1 : Int)) else (if (za qn) then (if (!(qaH qw qm qE mlo mhi qJ qi qz qo qy qn)) then some (([] : List Int), (14 : Int)) else (if (zN (1 : Int) qw) then (if (zN (2 : Int) qm) then (if (zN (6 : Int) qE) then (if (zN (1 : Int) (z6 mlo mhi)) then (if (qt qw (0 : Int)) then (if (zN (2 : Int) qJ) then (if (qt qw (1 : Int)) then (if (zN (2 : Int) qi) then E11 ((((List.length qn)) : Nat) : Int) (0 : Int) (((((1 : Int), (be (Int.toNat (1 : Int)) qw)) :: (((2 : Int), (be (Int.toNat (2 : Int)) qm)) :: (((3 : Int), (be (Int.toNat (6 : Int)) qE)) :: (((4 : Int), (be (Int.toNat (1 : Int)) (z6 mlo mhi))) :: ([] : LF))))) ++ (((5 : Int), (be (Int.toNat (2 : Int)) qJ)) :: ([] : LF))) ++ (((6 : Int), (be (Int.toNat (2 : Int)) qi)) :: ([] : LF))) else none) else E11 ((((List.length qn)) : Nat) : Int) (0 : Int) ((((1 : Int), (be (Int.toNat (1 : Int)) qw)) :: (((2 : Int), (be (Int.toNat (2 : Int)) qm)) :: (((3 : Int), (be (Int.toNat (6 : Int)) qE)) :: (((4 : Int), (be (Int.toNat (1 : Int)) (z6 mlo mhi))) :: ([] : LF))))) ++ (((5 : Int), (be (Int.toNat (2 : Int)) qJ)) :: ([] : LF)))) else none) else (if (qt qw (1 : Int)) then (if (zN (2 : Int) qi) then E11 ((((List.length qn)) : Nat) : Int) (0 : Int) ((((1 : Int), (be (Int.toNat (1 : Int)) qw)) :: (((2 : Int), (be (Int.toNat (2 : Int)) qm)) :: (((3 : Int), (be (Int.toNat (6 : Int)) qE)) :: (((4 : Int), (be (Int.toNat (1 : Int)) (z6 mlo mhi))) :: ([] : LF))))) ++ (((6 : Int), (be (Int.toNat (2 : Int)) qi)) :: ([] : LF))) else none) else E11 ((((List.length qn)) : Nat) : Int) (0 : Int) (((1 : Int), (be (Int.toNat (1 : Int)) qw)) :: (((2 : Int), (be (Int.toNat (2 : Int)) qm)) :: (((3 : Int), (be (Int.toNat (6 : Int)) qE)) :: (((4 : Int), (be (Int.toNat (1 : Int)) (z6 mlo mhi))) :: ([] : LF))))))) else none) else none) else none) else none)) else none)) else none)
def zQ.f (qa : Nat) (qw qm qE mlo mhi qJ qi qz qo qy : Int) (qn : LR) : Option ((List Int) × Int) := zQ.b qw qm qE mlo mhi qJ qi qz qo qy qn (zQ.l11 qa qw qm qE mlo mhi qJ qi qz qo qy qn qa)
theorem zQ.l11_eq (qa : Nat) (qw qm qE mlo mhi qJ qi qz qo qy : Int) (qn : LR) : ∀ k : Nat, zQ.p11 qa qw qm qE mlo mhi qJ qi qz qo qy qn k = zQ.l11 qa qw qm qE mlo mhi qJ qi qz qo qy qn k
 | 0 => by kernel_rfl
 | k + 1 => by
  refine Eq.trans (b := zQ.b11 qw qm qE mlo mhi qJ qi qz qo qy qn (zQ.p11 qa qw qm qE mlo mhi qJ qi qz qo qy qn k)) (by kernel_rfl) ?_
  rw [zQ.l11_eq qa qw qm qE mlo mhi qJ qi qz qo qy qn k]
  kernel_rfl
theorem zQ.eq (qa : Nat) (qw qm qE mlo mhi qJ qi qz qo qy : Int) (qn : LR) : (denF qgm loopN qa Tryz.f45 [.dat (.sl (.int .u8)) false, .raw] [.agg [.d tQi qw, .d tQi qm, .d tQi qE, .d tQi mlo, .d tQi mhi, .d tQi qJ, .d tQi qi, .d tQi qz, .d tQi qo, .d tQi qy, .d (.sl tQr) qn]] [] zQ.k) = zQ.f qa qw qm qE mlo mhi qJ qi qz qo qy qn := by
 refine Eq.trans (b := zQ.b qw qm qE mlo mhi qJ qi qz qo qy qn (zQ.p11 qa qw qm qE mlo mhi qJ qi qz qo qy qn qa)) (by kernel_rfl) ?_
 rw [zQ.l11_eq qa qw qm qE mlo mhi qJ qi qz qo qy qn qa]
 kernel_rfl
theorem qoR {t : Int} (h : 0 ≤ t ∧ t ≤ 255) : IntKind.wrap .u8 t = t := by rw [qjw]; omega
theorem qfu (x : Int × List Int) : (zX x).length = 3 + x.2.length := by unfold zX; simp; omega
theorem qgf : ∀ (l : LF), (((l.flatMap zX).length : Nat) : Int) = Zn l
 | [] => by simp [Zn]
 | x :: l => by
  rw [List.flatMap_cons, List.length_append, qeG, ← qgf l, qfu]
  omega
theorem qiJ (t n v : Int) : (itB t n v).length = 3 + n.toNat := by unfold itB; simp [zw]; omega
theorem qjd (r : Int × Int × Int × (Int × Int) × Bool × LF) : ((QM r).length : Int) = 20 + Zn r.2.2.2.2.2 := by
 unfold QM
 simp only [List.length_append, qiJ]
 have := qgf r.2.2.2.2.2
 omega
theorem qjk : ∀ (l : LF) (qe size : Int), qen l qe size = true → 0 ≤ size → ∀ x ∈ l, qe ≤ x.1 ∧ x.1 ≤ 255 ∧ x.2.length ≤ 4096
 | [], _, _, _, _, x, hx => by simp at hx
 | y :: l, qe, size, h, h0, x, hx => by
  unfold qen at h
  split at h
  ·cases h
  ·split at h
   ·cases h
   ·rename_i h1 h2
    simp at h1 h2
    rcases List.mem_cons.1 hx with rfl | hx
    ·omega
    ·have := qjk l y.1 _ h (by omega) x hx
     omega
theorem qbn {b : LF} (h : qbo b = true) : ∀ x ∈ b, 32 ≤ x.1 ∧ x.1 ≤ 255 ∧ x.2.length ≤ 4096 := by
 unfold qbo at h
 split at h
 ·cases h
 ·exact qjk b 32 0 h (by omega)
theorem qfk (r : Int × Int × Int × (Int × Int) × Bool × LF) : qh1 r = true ↔ zu r = true ∧ zn r.2.2.2.2.2 = true := by unfold qh1; simp
theorem qnG {r : Int × Int × Int × (Int × Int) × Bool × LF} (h : zu r = true) : (QM r).length ≤ 4212 := by
 have := qjd r
 have := Zv (zy h).2.2.2.2.2.2.2.1
 omega
theorem qmN (r : Int × Int × Int × (Int × Int) × Bool × LF) : ((qdq r).length : Int) = qci r := by
 unfold qdq qci
 rw [qfu]
 have := qjd r
 dsimp only
 omega
theorem qjg {v : Int} (h0 : 0 ≤ v) (h1 : v ≤ 4294967295) : zN 4 v = true := (qaS 4 v).2 ⟨by omega, by omega, h0, by simp; omega⟩
theorem qey (r : Int × Int × Int × (Int × Int) × Bool × LF) : qdS r = true ↔ qh1 r = true ∧ r.2.1 ≤ 4294967295 := by unfold qdS; simp
theorem Z8.pure (id inc st lo hi : Int) (cut : Bool) (bag : LF) (hl : qdS (id, inc, st, (lo, hi), cut, bag) = true) :
  Z8.f 0 id inc st lo hi cut bag = some (qaq (id, inc, st, (lo, hi), cut, bag)) := by
 obtain ⟨hf, hi4⟩ := (qey _).1 hl
 obtain ⟨hok, hs⟩ := (qfk _).1 hf
 obtain ⟨f1, f2, f3, f4, f5, f6, f7, f8, _⟩ := zy hok
 have f9 := (ZP _ _).1 f7
 dsimp only at f1 f2 f3 f4 f5 f6 f7 f8 f9 hi4
 obtain ⟨b1, b2, b3⟩ := Zv f8
 unfold Z8.f Z8.b
 rw [qdl f7]
 cases cut
 ·rw [if_neg (by simp), if_pos (qa1 f1 (by omega)), if_pos (qjg f3 hi4), if_pos (qap f5 (by omega)), if_pos (qap (by omega) (by omega)), if_pos (by simp [lim]; omega)]
  rfl
 ·have e' : IntKind.wrap .i64 (st + 128) = st + 128 := qK _ (by omega) (by omega)
  rw [if_pos rfl, e', if_pos (qa1 f1 (by omega)), if_pos (qjg f3 hi4), if_pos (qap (by omega) (by omega)), if_pos (qap (by omega) (by omega)), if_pos (by simp [lim]; omega)]
  rfl
theorem qfn (l : LF) : qeb l = true ↔ l.length ≤ 300 ∧ ∀ x ∈ l, (0 ≤ x.1 ∧ x.1 ≤ 255) ∧ x.2.length ≤ 65535 := by
 unfold qeb
 simp only [Bool.and_eq_true, decide_eq_true_eq, List.all_eq_true, qmm]
theorem sw8 : IntKind.wrap .i64 ((8 : Int) - IntKind.wrap .i64 ((8 : Int) * 0)) = 8 := rfl
theorem sw0 : IntKind.wrap .i64 ((8 : Int) - IntKind.wrap .i64 ((8 : Int) * 1)) = 0 := rfl
theorem wi1 : IntKind.wrap .i64 ((0 : Int) + 1) = 1 := rfl
theorem wi2 : IntKind.wrap .i64 ((1 : Int) + 1) = 2 := rfl
theorem sb8 (n : Nat) (h : n ≤ 65535) : IntKind.wrap .u8 (Int.fdiv (n : Int) ((2 : Int) ^ 8)) = ((n / 256 : Nat) : Int) := by
 rw [qjw, Int.fdiv_eq_ediv_of_nonneg _ (by decide), show (2 : Int) ^ 8 = 256 from rfl]; omega
theorem sb0 (n : Nat) : IntKind.wrap .u8 (Int.fdiv (n : Int) ((2 : Int) ^ 0)) = ((n % 256 : Nat) : Int) := by
 rw [qjw, Int.fdiv_eq_ediv_of_nonneg _ (by decide), show (2 : Int) ^ 0 = 1 from rfl]; omega
theorem zL.step (qa : Nat) (l : LF) (A3 : Int → Int → List Int → Option (List Int × Int)) (m : Nat) (x4 x5 : Int) (acc : List Int) (t : Int) (d : List Int) (hd : d.length ≤ 65535) (ha : acc.length < 100000000) :
  zL.l11 qa l A3 (m + 3) x4 x5 0 acc t d = A3 x4 (IntKind.wrap .i64 (x5 + 1)) (((acc ++ [((d.length / 256 : Nat) : Int)]) ++ [((d.length % 256 : Nat) : Int)]) ++ d) := by
 rw [zL.l11]; unfold zL.b11
 rw [if_pos (by decide), sw8, if_neg (by decide), show Min.min (Int.toNat 8) (IntKind.bits .i64) = 8 from rfl, sb8 d.length hd, if_pos (by simp [lim]; omega), wi1]
 rw [zL.l11]; unfold zL.b11
 rw [if_pos (by decide), sw0, if_neg (by decide), show Min.min (Int.toNat 0) (IntKind.bits .i64) = 0 from rfl, sb0 d.length, if_pos (by simp [lim]; omega), wi2]
 rw [zL.l11]; unfold zL.b11
 rw [if_neg (by decide), if_pos (by simp [lim]; omega)]
theorem zL.loop (m : Nat) (l : LF) (hb : l.length ≤ 300) (ht : ∀ x ∈ l, (0 ≤ x.1 ∧ x.1 ≤ 255) ∧ x.2.length ≤ 65535) : ∀ (k i : Nat) (acc : List Int), i ≤ l.length → l.length - i < k → acc.length + 70000 * (l.length - i) < 50000000 →
  zL.l3 (m + 3) l k (l.length : Int) (i : Int) acc = some (acc ++ (l.drop i).flatMap zX, 0) := by
 intro k
 induction k with
 | zero => intro i acc h1 h2; omega
 | succ k ih =>
  intro i acc h1 h2 h3
  rw [zL.l3]
  unfold zL.b3
  by_cases hi' : i < l.length
  ·rw [if_pos (by simp; omega), Qn, List.getElem?_eq_getElem hi']
   dsimp only
   have hx := ht l[i] (List.getElem_mem hi')
   rw [List.drop_eq_getElem_cons hi', List.flatMap_cons]
   generalize l[i] = x at hx ⊢
   rw [if_neg (by simp; omega), if_neg (by simp; omega), if_neg (by simp; omega), if_pos (by simp [lim]; omega), qoR hx.1, zL.step (m + 3) l _ m _ _ _ _ _ hx.2 (by simp; omega), qK ((i : Int) + 1) (by omega) (by omega)]
   have := ih (i + 1) ((((acc ++ [x.1]) ++ [((x.2.length / 256 : Nat) : Int)]) ++ [((x.2.length % 256 : Nat) : Int)]) ++ x.2) (by omega) (by omega) (by simp; omega)
   rw [show ((i + 1 : Nat) : Int) = (i : Int) + 1 from by omega] at this
   rw [this]
   simp [zX]
  ·rw [if_neg (by simp; omega), List.drop_of_length_le (by omega)]
   simp
theorem zL.pure (l : LF) (hl : qeb l = true) : zL.f (l.length + 3) l = some (l.flatMap zX, 0) := by
 obtain ⟨h1, h2⟩ := (qfn l).1 hl
 unfold zL.f zL.b
 have := zL.loop l.length l h1 h2 (l.length + 3) 0 [] (by omega) (by omega) (by simp; omega)
 rw [show ((0 : Nat) : Int) = 0 from rfl] at this
 rw [this]
 simp
theorem qkp {r : Int × Int × Int × (Int × Int) × Bool × LF} (h : zu r = true) : qeb (qaq r) = true := by
 have f8 := (zy h).2.2.2.2.2.2.2.1
 have b1 := (Zv f8).1
 refine (qfn _).2 ⟨by unfold qaq; simp; omega, ?_⟩
 intro x hx
 unfold qaq at hx
 rcases List.mem_append.1 hx with hx | hx
 ·simp at hx
  rcases hx with rfl | rfl | rfl | rfl <;> simp [zw]
 ·have := qbn f8 x hx
  omega
theorem qkq (r : Int × Int × Int × (Int × Int) × Bool × LF) : (qaq r).flatMap zX = QM r := by
 unfold qaq QM
 simp [zX, itB, zw]
theorem qhl : ∀ (l : LR), qbS l = true → ∀ r ∈ l, r.2.1 ≤ 4294967295
 | [], h, r, hr => by simp at hr
 | x :: l, h, r, hr => by
  unfold qbS at h
  split at h
  ·cases h
  ·rename_i hc
   rcases List.mem_cons.1 hr with rfl | hr
   ·simpa using hc
   ·exact qhl l h r hr
theorem qeC {qh qv inc lo hi seq qk qQ qB qc : Int} {qg : LR} (h : qaH qh qv inc lo hi seq qk qQ qB qc qg = true) :
  qR qh qv inc lo hi seq qk qQ qB qc qg = true ∧ qh ≠ 9 ∧ qB = 0 ∧ qdK qh qv inc lo hi seq qk qQ qB qc qg ≤ 65499 ∧ qbS qg = true := by
 unfold qaH at h
 split at h
 ·cases h
 ·rename_i hc
  simp at hc
  exact ⟨hc.1, hc.2.1, hc.2.2.1, hc.2.2.2, h⟩
theorem zQ.loop (qa : Nat) (qh qv inc lo hi seq qk qQ qB qc : Int) (qg : LR) (hr : ∀ r ∈ qg, qdS r = true) (hlen : qg.length ≤ 255) : ∀ (k i : Nat) (acc : LF), i ≤ qg.length → qg.length - i < k → acc.length + (qg.length - i) ≤ 300 → (∀ x ∈ acc, (0 ≤ x.1 ∧ x.1 ≤ 255) ∧ x.2.length ≤ 65535) →
  zQ.l11 qa qh qv inc lo hi seq qk qQ qB qc qg k (qg.length : Int) (i : Int) acc = some (acc.flatMap zX ++ (qg.drop i).flatMap qdq, 0) := by
 intro k
 induction k with
 | zero => intro i acc h1 h2; omega
 | succ k ih =>
  intro i acc h1 h2 h3 h4
  rw [zQ.l11]
  unfold zQ.b11
  by_cases hi' : i < qg.length
  ·rw [if_pos (by simp; omega), Qn, List.getElem?_eq_getElem hi']
   dsimp only
   have hf := hr qg[i] (List.getElem_mem hi')
   rw [List.drop_eq_getElem_cons hi', List.flatMap_cons]
   generalize qg[i] = r at hf ⊢
   have hok := ((qfk r).1 ((qey r).1 hf).1).1
   simp only [qiF]
   rw [if_pos hf, if_pos (qkp hok), qkq, if_pos (by simp [lim]; omega), qK ((i : Int) + 1) (by omega) (by omega)]
   have := ih (i + 1) (acc ++ [(7, QM r)]) (by omega) (by omega) (by simp; omega) (by
    intro x hx
    rcases List.mem_append.1 hx with hx | hx
    ·exact h4 x hx
    ·have hq := qnG hok
     simp at hx
     subst hx
     exact ⟨by simp, by simp; omega⟩)
   rw [show ((i + 1 : Nat) : Int) = (i : Int) + 1 from by omega] at this
   rw [this]
   simp [qdq]
  ·rw [if_neg (by simp; omega), List.drop_of_length_le (by omega), if_pos ((qfn acc).2 ⟨by omega, h4⟩)]
   simp
theorem zQ.pure (qh qv inc lo hi seq qk qQ qB qc : Int) (qg : LR) (hl : za qg = true) :
  zQ.f (qg.length + 1) qh qv inc lo hi seq qk qQ qB qc qg = some ((qcV qh qv inc lo hi seq qk qQ qB qc qg).1, (qcV qh qv inc lo hi seq qk qQ qB qc qg).2) := by
 unfold zQ.f zQ.b qcV
 rw [if_pos hl]
 cases hv0 : qR qh qv inc lo hi seq qk qQ qB qc qg
 ·rfl
 rw [if_neg (by simp), if_pos hl]
 cases hf : qaH qh qv inc lo hi seq qk qQ qB qc qg
 ·rfl
 obtain ⟨hv, w1, w2, w3, w4⟩ := qeC hf
 obtain ⟨v1, v2, v3, v4, v5, v6, v7, v8, v9, v10, v11, _, v12, v13⟩ := Ql hv
 have v14 := (ZP _ _).1 v7
 have hs := ((Zk qg).1 hl).2
 have h4 := qhl qg w4
 have hlp := fun acc ha hb => zQ.loop (qg.length + 1) qh qv inc lo hi seq qk qQ qB qc qg (fun r hr => (qey r).2 ⟨(qfk r).2 ⟨v13 r hr, hs r hr⟩, h4 r hr⟩) v12 (qg.length + 1) 0 acc (by omega) (by omega) ha hb
 rw [show ((0 : Nat) : Int) = 0 from rfl] at hlp
 simp only [List.drop_zero] at hlp
 have n5 : zN 2 seq = true := qa1 v8 (by omega)
 have n6 : zN 2 qk = true := qa1 v10 (by omega)
 rw [if_neg (by simp), qdl v7, if_pos (qap (by omega) (by omega)), if_pos (qa1 v3 (by omega)), if_pos (qj9 v5 (by omega)), if_pos (qap (by omega) (by omega))]
 cases h5 : qt qh 0 <;> cases h6 : qt qh 1
 ·rw [if_neg (by simp), if_neg (by simp), hlp _ (by simp; omega) (by simp [zw])]
  simp [ZQ, itB, zX, zw, h5, h6, List.append_assoc]
 ·rw [if_neg (by simp), if_pos rfl, if_pos n6, hlp _ (by simp; omega) (by simp [zw])]
  simp [ZQ, itB, zX, zw, h5, h6, List.append_assoc]
 ·rw [if_pos rfl, if_pos n5, if_neg (by simp), hlp _ (by simp; omega) (by simp [zw])]
  simp [ZQ, itB, zX, zw, h5, h6, List.append_assoc]
 ·rw [if_pos rfl, if_pos n5, if_pos rfl, if_pos n6, hlp _ (by simp; omega) (by simp [zw])]
  simp [ZQ, itB, zX, zw, h5, h6, List.append_assoc]
theorem qjo : SumDet qbI := zi fun _ _ _ _ => by
 unfold qbI
 simp only
 split
 ·first | rfl | (split <;> rfl)
 ·rfl
theorem qjJ : SumOk Tryz.prog 73 qbI := by
 have hE : EnvOk Tryz.prog qjm := env_ok (l := [(70, qcK), (62, Z2)]) th_ok qU ⟨⟨qi0, qhH⟩, ⟨qcA, qb1⟩, trivial⟩ _
 refine sum_ok hE Tryz.func73 rfl (by kernel_rfl) qbI [.dat (.sl (.pair tQi (.sl (.int .u8)))) false] Z8.k ?_
 intro R avs qj κ r h
 unfold qbI at h
 simp only at h
 split at h
 ·rename_i rid zq rst rlo rhi zr zm
  split at h
  case isFalse => cases h
  rename_i hl
  refine ⟨0, _, _, _, (Z8.eq (0) rid zq rst rlo rhi zr zm).trans (Z8.pure rid zq rst rlo rhi zr zm hl), ?_, h⟩
  intro rs ros hk
  unfold Z8.k at hk
  split at hk
  ·first | (cases hk; exact ⟨rfl, rfl⟩) | (rw [← Option.some.inj hk]; exact ⟨rfl, rfl⟩)
  ·cases hk
 ·cases h
theorem qlG : SumDet qd4 := zi fun _ _ _ _ => by
 unfold qd4
 simp only
 split
 ·first | rfl | (split <;> rfl)
 ·rfl
end
end Go.Proofs.YtgaakgeemnkeeaaGreatDoor
