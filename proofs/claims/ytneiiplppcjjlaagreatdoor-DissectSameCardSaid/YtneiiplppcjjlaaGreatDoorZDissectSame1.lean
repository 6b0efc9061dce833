/- DissectSame, part 1: what the row leans on. -/
import Derived.Test.YtneiiplppcjjlaaGreatDoorEw3
import Derived.Test.YtneiiplppcjjlaaGreatDoorRows
import Derived.Test.YtneiiplppcjjlaaGreatDoorTie
import Derived.Test.YtneiiplppcjjlaaGreatDoorCards
import Derived.Test.YtneiiplppcjjlaaGreatDoorTw
import Derived.Laws.BitsLemmas
import Derived.KernelRfl
import Derived.ProofKit
import Derived.LaidMore
import Derived.OpenShut
import Derived.Stop.Joined
import Derived.Lib.LaidTab
import Derived.SevenTiedAt
import Derived.Test.YtneiiplppcjjlaaGreatDoorJw
import Derived.Shelf.Lays
import Derived.Laws.Bits64
import Derived.Test.YtneiiplppcjjlaaGreatDoorJx
set_option linter.unusedVariables false
set_option linter.unusedSimpArgs false
set_option maxRecDepth 100000
namespace Go.Proofs.YtneiiplppcjjlaaGreatDoor
open Go.Den
noncomputable section
abbrev dD : AV := AV.dead
abbrev LF := List (Int × List Int)
abbrev LR := List (Int × Int × Int × (Int × Int) × Bool × LF)
abbrev tQi : Ty := .int .i64
abbrev tQr : Ty := .pair (.int .i64) (.pair (.int .i64) (.pair (.int .i64) (.pair (.pair (.int .i64) (.int .i64)) (.pair .bool (.sl (.pair (.int .i64) (.sl (.int .u8))))))))
theorem zi {S : Den.Sum} (h : ∀ avs ql (R : Type) (κ : List AV × List Den.Obj → Option R), S.run avs ql (two κ) = (S.run avs ql (two some)).bind κ) : SumDet S := h
theorem sj {α : Type} {a b : α} (h : some a = some b) : a = b := Option.some.inj h
theorem qX : Tryz.prog.follows .mixedOrders = true := by kernel_rfl
theorem qV (n : Int) (h0 : -9223372036854775808 ≤ n) (h1 : n < 9223372036854775808) : IntKind.wrap .i64 n = n := by
 rw [IntKind.wrap_i64]; omega
theorem Qh {α : Type} (l : List α) (i : Nat) : idx l (i : Int) = l[i]? := by
 unfold idx
 rw [if_pos (by omega)]
 simp
theorem qq6 {α : Type} (l : List α) (d : α) (i : Nat) (h : i < l.length) : idx l (i : Int) = some (l.getD i d) := by
 rw [Qh, List.getElem?_eq_getElem h]; simp [List.getD, List.getElem?_eq_getElem h]
def okS (lo hi : Int) : Bool := decide (1 ≤ lo) && decide (lo ≤ hi) && decide (hi ≤ 3)
def Qk (a b : Int) : Int := if !okS a b then 0 else Den.bits .or .i64 (IntKind.wrap .i64 (a * 16)) b
def qjv : List (ByteArray × Int) := [(⟨#[]⟩, 0), (⟨#[104, 101, 108, 108, 111]⟩, 1), (⟨#[119, 101, 108, 99, 111, 109, 101]⟩, 1), (⟨#[114, 101, 106, 101, 99, 116]⟩, 2), (⟨#[112, 105, 110, 103]⟩, 17), (⟨#[97, 99, 107]⟩, 17), (⟨#[97, 115, 107]⟩, 19), (⟨#[112, 117, 115, 104]⟩, 28), (⟨#[112, 117, 108, 108]⟩, 20), (⟨#[114, 101, 115, 101, 116]⟩, 4)]
def ofF (k : Int) : ByteArray × Int := if decide (k < 1) || decide (k > 9) then (⟨#[]⟩, 0) else qjv.getD k.toNat (⟨#[]⟩, 0)
def zU (had : Bool) (v lo hi : Int) : Bool := if !had then v == 0 else (decide (v ≥ lo) && decide (v ≤ hi))
def qfS : LF → Int → Int → Bool
 | [], _, _ => true
 | x :: l, qe, size => if decide (x.1 < qe) || decide (x.1 > 255) then false else if decide (size + (x.2.length : Int) > 4096) then false else qfS l x.1 (size + (x.2.length : Int))
def qbQ (b : LF) : Bool := if decide ((b.length : Int) > 32) then false else qfS b 32 0
def qez (id inc st lo hi : Int) (cut : Bool) (bag : LF) : Bool :=
 if decide (id < 0) || decide (id > 4095) then false else if decide (inc < 0) || decide (inc > 281474976710655) then false else if decide (st < 0) || decide (st > 3) then false else
 if !okS lo hi || !qbQ bag then false else if cut && decide ((bag.length : Int) > 0) then false else true
def zo (b : LF) : Bool := decide (b.length < 281474976710656) && b.all fun x => decide (x.2.length < 281474976710656)
def qdm : Den.Sum := ⟨[.dat (.pair tQi tQi) true], fun qH ql κ => match qH, ql with
 | [.agg [.d (.int .i64) lo, .d (.int .i64) hi]], [] => κ [.d .bool (okS lo hi)] []
 | _, _ => none⟩
def qaD : Den.Sum := ⟨[.dat (.pair tQi tQi) true], fun qH ql κ => match qH, ql with
 | [.agg [.d (.int .i64) a, .d (.int .i64) b]], [] => κ [.d (.int .i64) (Qk a b)] []
 | _, _ => none⟩
def qej : Den.Sum := ⟨[], fun qH ql κ => match qH, ql with
 | [], [] => κ [.d (.arr 10 (.pair .str (.int .u8))) qjv] []
 | _, _ => none⟩
def qfs : Den.Sum := ⟨[.raw], fun qH ql κ => match qH, ql with
 | [.d (.int .i64) k], [] => κ [.agg [.d .str (ofF k).1, .d (.int .u8) (ofF k).2]] []
 | _, _ => none⟩
def qb3 : Den.Sum := ⟨[.raw, .raw, .raw, .raw], fun qH ql κ => match qH, ql with
 | [.d .bool had, .d (.int .i64) v, .d (.int .i64) lo, .d (.int .i64) hi], [] => κ [.d .bool (zU had v lo hi)] []
 | _, _ => none⟩
def qfA : Den.Sum := ⟨[.dat (.sl (.pair tQi (.sl (.int .u8)))) false], fun qH ql κ => match qH, ql with
 | [.d (.sl (.pair (.int .i64) (.sl (.int .u8)))) b], [] => if zo b = true then κ [.d .bool (qbQ b)] [] else none
 | _, _ => none⟩
def qfn : Den.Sum := ⟨[.dat tQr true], fun qH ql κ => match qH, ql with
 | [.agg [.d (.int .i64) rid, .d (.int .i64) zB, .d (.int .i64) rst, .d (.int .i64) rlo, .d (.int .i64) rhi, .d .bool zD, .d (.sl (.pair (.int .i64) (.sl (.int .u8)))) zu]], [] => if zo zu = true then κ [.d .bool (qez rid zB rst rlo rhi zD zu)] [] else none
 | _, _ => none⟩
def qiN : Env := ⟨th, gam [], fun i => ⟨[], [], []⟩⟩
def Z2.k (rs : List AV) (os : List Den.Obj) : Option Bool :=
 match rs, os with
 | [.d .bool r0], [] => some r0
 | _, _ => none
def Z2.b (lo hi : Int) : Option Bool :=
 (if (decide (lo ≥ (1 : Int))) then (if (decide (lo ≤ hi)) then some ((decide (hi ≤ (3 : Int)))) else some (false)) else some (false))
def Z2.f (qa : Nat) (lo hi : Int) : Option Bool := Z2.b lo hi
theorem Z2.eq (qa : Nat) (lo hi : Int) : (denF qiN loopN qa Tryz.f33 [.raw] [.agg [.d tQi lo, .d tQi hi]] [] Z2.k) = Z2.f qa lo hi := by
 kernel_rfl
def qkm : Env := ⟨th, gam [(33, qdm)], fun i => ⟨[], [], []⟩⟩
def qal.k (rs : List AV) (os : List Den.Obj) : Option Int :=
 match rs, os with
 | [.d (.int .i64) r0], [] => some r0
 | _, _ => none
def qal.b (a b : Int) : Option Int :=
 (if (!(okS a b)) then some ((0 : Int)) else some ((bits BinOp.or .i64 (IntKind.wrap .i64 (a * ((2 : Int) ^ (Min.min (Int.toNat (4 : Int)) (IntKind.bits .i64))))) b)))
def qal.f (qa : Nat) (a b : Int) : Option Int := qal.b a b
theorem qal.eq (qa : Nat) (a b : Int) : (denF qkm loopN qa Tryz.f80 [.raw] [.agg [.d tQi a, .d tQi b]] [] qal.k) = qal.f qa a b := by
 kernel_rfl
def qkq : Env := ⟨th, gam [], fun i => ⟨[], [], []⟩⟩
def qcg.k (rs : List AV) (os : List Den.Obj) : Option (List (ByteArray × Int)) :=
 match rs, os with
 | [.d (.arr 10 (.pair .str (.int .u8))) r0], [] => some r0
 | _, _ => none
def qcg.b (u : Unit) : Option (List (ByteArray × Int)) :=
 some ((((⟨([]).toArray⟩ : ByteArray), 0) :: (((⟨((104 :: (101 :: (108 :: (108 :: (111 :: [])))))).toArray⟩ : ByteArray), (1 : Int)) :: (((⟨((119 :: (101 :: (108 :: (99 :: (111 :: (109 :: (101 :: [])))))))).toArray⟩ : ByteArray), (1 : Int)) :: (((⟨((114 :: (101 :: (106 :: (101 :: (99 :: (116 :: []))))))).toArray⟩ : ByteArray), (2 : Int)) :: (((⟨((112 :: (105 :: (110 :: (103 :: []))))).toArray⟩ : ByteArray), (17 : Int)) :: (((⟨((97 :: (99 :: (107 :: [])))).toArray⟩ : ByteArray), (17 : Int)) :: (((⟨((97 :: (115 :: (107 :: [])))).toArray⟩ : ByteArray), (19 : Int)) :: (((⟨((112 :: (117 :: (115 :: (104 :: []))))).toArray⟩ : ByteArray), (28 : Int)) :: (((⟨((112 :: (117 :: (108 :: (108 :: []))))).toArray⟩ : ByteArray), (20 : Int)) :: (((⟨((114 :: (101 :: (115 :: (101 :: (116 :: [])))))).toArray⟩ : ByteArray), (4 : Int)) :: [])))))))))))
def qcg.f (qa : Nat) (u : Unit) : Option (List (ByteArray × Int)) := qcg.b u
theorem qcg.eq (qa : Nat) (u : Unit) : (denF qkq loopN qa Tryz.f100 [.raw] [] [] qcg.k) = qcg.f qa u := by
 kernel_rfl
def qny : Env := ⟨th, gam [(100, qej)], fun i => ⟨[], [], []⟩⟩
def qcu.k (rs : List AV) (os : List Den.Obj) : Option (ByteArray × Int) :=
 match rs, os with
 | [.agg [.d .str r0, .d (.int .u8) r1]], [] => some (r0, r1)
 | _, _ => none
def qcu.b (k : Int) : Option (ByteArray × Int) :=
 (if (decide (k < (1 : Int))) then some ((⟨([]).toArray⟩ : ByteArray), 0) else (if (decide (k > (9 : Int))) then some ((⟨([]).toArray⟩ : ByteArray), 0) else (match (idx qjv k) with | none => none | some y0 => some (y0.1, y0.2))))
def qcu.f (qa : Nat) (k : Int) : Option (ByteArray × Int) := qcu.b k
theorem qcu.eq (qa : Nat) (k : Int) : (denF qny loopN qa Tryz.f66 [.dat (.pair .str (.int .u8)) true] [.d tQi k] [] qcu.k) = qcu.f qa k := by
 kernel_rfl
def qiO : Env := ⟨th, gam [], fun i => ⟨[], [], []⟩⟩
def Z3.k (rs : List AV) (os : List Den.Obj) : Option Bool :=
 match rs, os with
 | [.d .bool r0], [] => some r0
 | _, _ => none
def Z3.b (had : Bool) (v lo hi : Int) : Option Bool :=
 (if (!had) then some ((v == (0 : Int))) else (if (decide (v ≥ lo)) then some ((decide (v ≤ hi))) else some (false)))
def Z3.f (qa : Nat) (had : Bool) (v lo hi : Int) : Option Bool := Z3.b had v lo hi
theorem Z3.eq (qa : Nat) (had : Bool) (v lo hi : Int) : (denF qiO loopN qa Tryz.f109 [.raw] [.d .bool had, .d tQi v, .d tQi lo, .d tQi hi] [] Z3.k) = Z3.f qa had v lo hi := by
 kernel_rfl
def qhb : Env := ⟨th, gam [], fun i => if i = 5 then ⟨[3, 4, 10, 11, 12], [], []⟩ else ⟨[], [], []⟩⟩
def zH.k (rs : List AV) (os : List Den.Obj) : Option Bool :=
 match rs, os with
 | [.d .bool r0], [] => some r0
 | _, _ => none
def zH.s5 (b : LF) (x0 x1 x2 x3 : Int) : St := ⟨[dD, dD, dD, .d tQi x0, .d tQi x1, dD, dD, dD, dD, dD, .d (.sl (.pair tQi (.sl (.int .u8)))) (b), .d tQi x2, .d tQi x3, dD, dD, dD, dD, dD, dD, dD, dD, dD, dD, dD, dD, dD, dD, dD, dD, dD, dD, dD, dD, dD, .dead], ofL [], 0⟩
def zH.p5 (qa : Nat) (b : LF) (k : Nat) := fun x0 x1 x2 x3 => lp qhb qa Tryz.f129 [.raw] 0 zH.k 5 [] k (zH.s5 b x0 x1 x2 x3)
def zH.b5 (b : LF) (A5 : Int → Int → Int → Int → Option Bool) (x0 x1 x2 x3 : Int) : Option Bool :=
 (if (decide (x3 < x2)) then (match (idx b x3) with | none => none | some y4 => (if (decide (y4.1 < x0)) then some (false) else (if (decide (y4.1 > (255 : Int))) then some (false) else (if (decide ((IntKind.wrap .i64 (x1 + ((((List.length y4.2)) : Nat) : Int))) > (4096 : Int))) then some (false) else A5 y4.1 (IntKind.wrap .i64 (x1 + ((((List.length y4.2)) : Nat) : Int))) x2 (IntKind.wrap .i64 (x3 + (1 : Int))))))) else some (true))
def zH.l5 (qa : Nat) (b : LF) : Nat → Int → Int → Int → Int → Option Bool
 | 0, _, _, _, _ => none
 | k + 1, x0, x1, x2, x3 => zH.b5 b (zH.l5 qa b k) x0 x1 x2 x3
def zH.b (b : LF) (E5 : Int → Int → Int → Int → Option Bool) : Option Bool :=
 (if (decide (((((List.length b)) : Nat) : Int) > (32 : Int))) then some (false) else E5 (32 : Int) (0 : Int) ((((List.length b)) : Nat) : Int) (0 : Int))
def zH.f (qa : Nat) (b : LF) : Option Bool := zH.b b (zH.l5 qa b qa)
theorem zH.l5_eq (qa : Nat) (b : LF) : ∀ k : Nat, zH.p5 qa b k = zH.l5 qa b k
 | 0 => by kernel_rfl
 | k + 1 => by
  refine Eq.trans (b := zH.b5 b (zH.p5 qa b k)) (by kernel_rfl) ?_
  rw [zH.l5_eq qa b k]
  kernel_rfl
theorem zH.eq (qa : Nat) (b : LF) : (denF qhb loopN qa Tryz.f129 [.raw] [.d (.sl (.pair tQi (.sl (.int .u8)))) b] [] zH.k) = zH.f qa b := by
 refine Eq.trans (b := zH.b b (zH.p5 qa b qa)) (by kernel_rfl) ?_
 rw [zH.l5_eq qa b qa]
 kernel_rfl
def qko : Env := ⟨th, gam [(33, qdm), (129, qfA)], fun i => ⟨[], [], []⟩⟩
def qam.k (rs : List AV) (os : List Den.Obj) : Option Bool :=
 match rs, os with
 | [.d .bool r0], [] => some r0
 | _, _ => none
def qam.b (rid zB rst rlo rhi : Int) (zD : Bool) (zu : LF) : Option Bool :=
 (if (decide (rid < (0 : Int))) then some (false) else (if (decide (rid > (4095 : Int))) then some (false) else (if (decide (zB < (0 : Int))) then some (false) else (if (decide (zB > (veil (281474976710655 : Int)))) then some (false) else (if (decide (rst < (0 : Int))) then some (false) else (if (decide (rst > (3 : Int))) then some (false) else (if (!(okS rlo rhi)) then some (false) else (if (zo zu) then (if (!(qbQ zu)) then some (false) else (if zD then (if (decide (((((List.length zu)) : Nat) : Int) > (0 : Int))) then some (false) else some (true)) else some (true))) else none))))))))
def qam.f (qa : Nat) (rid zB rst rlo rhi : Int) (zD : Bool) (zu : LF) : Option Bool := qam.b rid zB rst rlo rhi zD zu
theorem qam.eq (qa : Nat) (rid zB rst rlo rhi : Int) (zD : Bool) (zu : LF) : (denF qko loopN qa Tryz.f118 [.raw] [.agg [.d tQi rid, .d tQi zB, .d tQi rst, .d tQi rlo, .d tQi rhi, .d .bool zD, .d (.sl (.pair tQi (.sl (.int .u8)))) zu]] [] qam.k) = qam.f qa rid zB rst rlo rhi zD zu := by
 kernel_rfl
def qlz : Env := ⟨th, gam [], fun i => ⟨[], [], []⟩⟩
def qaM.k (rs : List AV) (os : List Den.Obj) : Option Bool :=
 match rs, os with
 | [.d .bool r0], [] => some r0
 | _, _ => none
def qaM.b (n v : Int) : Option Bool :=
 (if (decide (n ≥ (1 : Int))) then (if (decide (n ≤ (7 : Int))) then (if (decide (v ≥ (0 : Int))) then (if ((IntKind.wrap .i64 ((8 : Int) * n)) < (0 : Int)) then none else some (((Int.fdiv v ((2 : Int) ^ (Min.min (Int.toNat (IntKind.wrap .i64 ((8 : Int) * n))) (IntKind.bits .i64)))) == (0 : Int)))) else some (false)) else some (false)) else some (false))
def qaM.f (qa : Nat) (n v : Int) : Option Bool := qaM.b n v
theorem qaM.eq (qa : Nat) (n v : Int) : (denF qlz loopN qa Tryz.f111 [.raw] [.d tQi n, .d tQi v] [] qaM.k) = qaM.f qa n v := by
 kernel_rfl
def qmz : Env := ⟨th, gam [(66, qfs)], fun i => ⟨[], [], []⟩⟩
def qbE.k (rs : List AV) (os : List Den.Obj) : Option Bool :=
 match rs, os with
 | [.d .bool r0], [] => some r0
 | _, _ => none
def qbE.b (k p : Int) : Option Bool :=
 (if (decide (p ≥ (0 : Int))) then (if (decide (p ≤ (4 : Int))) then (if (p < (0 : Int)) then none else some (((bits BinOp.and .u8 (Int.fdiv (ofF k).2 ((2 : Int) ^ (Min.min (Int.toNat p) (IntKind.bits .u8)))) (1 : Int)) == (1 : Int)))) else some (false)) else some (false))
def qbE.f (qa : Nat) (k p : Int) : Option Bool := qbE.b k p
theorem qbE.eq (qa : Nat) (k p : Int) : (denF qmz loopN qa Tryz.f41 [.raw] [.d tQi k, .d tQi p] [] qbE.k) = qbE.f qa k p := by
 kernel_rfl
theorem qag (a b : Int) : okS a b = true ↔ 1 ≤ a ∧ a ≤ b ∧ b ≤ 3 := by
 unfold okS
 simp only [Bool.and_eq_true, decide_eq_true_eq]
 omega
theorem Z2.pure (lo hi : Int) : Z2.f 0 lo hi = some (okS lo hi) := by
 unfold Z2.f Z2.b okS
 by_cases h1 : 1 ≤ lo
 ·by_cases h2 : lo ≤ hi <;> simp [h1, h2]
 ·simp [h1]
theorem qal.pure (a b : Int) : qal.f 0 a b = some (Qk a b) := by
 unfold qal.f qal.b Qk
 cases okS a b <;> rfl
theorem qcu.pure (k : Int) : qcu.f 0 k = some ((ofF k).1, (ofF k).2) := by
 unfold qcu.f qcu.b ofF
 by_cases h1 : k < 1
 ·simp [h1]
 ·by_cases h2 : k > 9
  ·simp [h1, h2]
  ·have := qq6 qjv (⟨#[]⟩, 0) k.toNat (by show k.toNat < 10; omega)
   rw [Int.toNat_of_nonneg (by omega)] at this
   simp [h1, h2, this]
theorem Z3.pure (had : Bool) (v lo hi : Int) : Z3.f 0 had v lo hi = some (zU had v lo hi) := by
 unfold Z3.f Z3.b zU
 cases had
 ·rfl
 ·by_cases h : v ≥ lo <;> simp [h]
theorem Z6 (b : LF) : zo b = true ↔ b.length < 281474976710656 ∧ ∀ x ∈ b, x.2.length < 281474976710656 := by
 unfold zo
 simp [List.all_eq_true]
theorem zH.loop (qa : Nat) (b : LF) (hl : zo b = true) : ∀ (k i : Nat) (qe size : Int), i ≤ b.length → b.length - i < k → 0 ≤ size → size ≤ 4096 →
  zH.l5 qa b k qe size (b.length : Int) (i : Int) = some (qfS (b.drop i) qe size) := by
 obtain ⟨hb, hx⟩ := (Z6 b).1 hl
 intro k
 induction k with
 | zero => intro i qe size h1 h2; omega
 | succ k ih =>
  intro i qe size h1 h2 h3 h4
  rw [zH.l5]
  unfold zH.b5
  by_cases hi : i < b.length
  ·rw [if_pos (by simp; omega), Qh, List.getElem?_eq_getElem hi]
   simp only
   rw [List.drop_eq_getElem_cons hi]
   have hxl := hx b[i] (List.getElem_mem hi)
   unfold qfS
   rw [qV (size + _) (by omega) (by omega), qV ((i : Int) + 1) (by omega) (by omega)]
   by_cases c1 : b[i].1 < qe
   ·simp [c1]
   ·by_cases c2 : b[i].1 > 255
    ·simp [c1, c2]
    ·by_cases c3 : size + (b[i].2.length : Int) > 4096
     ·simp [c1, c2, c3]
     ·simp only [c1, c2, c3, decide_false, Bool.or_self, Bool.false_eq_true, if_false]
      exact ih (i + 1) _ _ (by omega) (by omega) (by omega) (by omega)
  ·rw [if_neg (by simp; omega)]
   rw [List.drop_of_length_le (by omega)]
   rfl
theorem zH.pure (b : LF) (hl : zo b = true) : zH.f (b.length + 1) b = some (qbQ b) := by
 unfold zH.f zH.b qbQ
 split
 ·rfl
 ·exact zH.loop _ b hl _ 0 32 0 (by omega) (by omega) (by omega) (by omega)
theorem qam.pure (id inc st lo hi : Int) (cut : Bool) (bag : LF) (hl : zo bag = true) : qam.f 0 id inc st lo hi cut bag = some (qez id inc st lo hi cut bag) := by
 unfold qam.f qam.b qez
 rw [veil_eq, hl]
 by_cases c1 : id < 0
 ·simp [c1]
 by_cases c2 : id > 4095
 ·simp [c1, c2]
 by_cases c3 : inc < 0
 ·simp [c1, c2, c3]
 by_cases c4 : inc > 281474976710655
 ·simp [c1, c2, c3, c4]
 by_cases c5 : st < 0
 ·simp [c1, c2, c3, c4, c5]
 by_cases c6 : st > 3
 ·simp [c1, c2, c3, c4, c5, c6]
 simp only [c1, c2, c3, c4, c5, c6, decide_false, Bool.or_self, Bool.false_eq_true, if_false, if_true]
 cases okS lo hi <;> cases qbQ bag <;> cases cut <;> simp
 split <;> simp_all
theorem qfi : SumDet qdm := zi fun _ _ _ _ => by
 unfold qdm
 simp only
 split
 ·first | rfl | (split <;> rfl)
 ·rfl
theorem qgl : SumOk Tryz.prog 33 qdm := by
 have hE : EnvOk Tryz.prog qiN := env_ok (l := []) th_ok qX trivial _
 refine sum_ok hE Tryz.func33 rfl (by kernel_rfl) qdm [.raw] Z2.k ?_
 intro R avs ql κ r h
 unfold qdm at h
 simp only at h
 split at h
 ·rename_i lo hi
  refine ⟨0, _, _, _, (Z2.eq (0) lo hi).trans (Z2.pure lo hi), ?_, h⟩
  intro rs ros hk
  unfold Z2.k at hk
  split at hk
  ·first | (cases hk; exact ⟨rfl, rfl⟩) | (rw [← Option.some.inj hk]; exact ⟨rfl, rfl⟩)
  ·cases hk
 ·cases h
theorem qcU : SumDet qaD := zi fun _ _ _ _ => by
 unfold qaD
 simp only
 split
 ·first | rfl | (split <;> rfl)
 ·rfl
theorem qdx : SumOk Tryz.prog 80 qaD := by
 have hE : EnvOk Tryz.prog qkm := env_ok (l := [(33, qdm)]) th_ok qX ⟨⟨qgl, qfi⟩, trivial⟩ _
 refine sum_ok hE Tryz.func80 rfl (by kernel_rfl) qaD [.raw] qal.k ?_
 intro R avs ql κ r h
 unfold qaD at h
 simp only at h
 split at h
 ·rename_i a b
  refine ⟨0, _, _, _, (qal.eq (0) a b).trans (qal.pure a b), ?_, h⟩
  intro rs ros hk
  unfold qal.k at hk
  split at hk
  ·first | (cases hk; exact ⟨rfl, rfl⟩) | (rw [← Option.some.inj hk]; exact ⟨rfl, rfl⟩)
  ·cases hk
 ·cases h
theorem qmL : SumDet qej := zi fun _ _ _ _ => by
 unfold qej
 simp only
 split
 ·first | rfl | (split <;> rfl)
 ·rfl
theorem qnP : SumOk Tryz.prog 100 qej := by
 have hE : EnvOk Tryz.prog qkq := env_ok (l := []) th_ok qX trivial _
 refine sum_ok hE Tryz.func100 rfl (by kernel_rfl) qej [.raw] qcg.k ?_
 intro R avs ql κ r h
 unfold qej at h
 simp only at h
 split at h
 ·skip
  refine ⟨0, _, _, _, (qcg.eq (0) ()).trans (rfl), ?_, h⟩
  intro rs ros hk
  unfold qcg.k at hk
  split at hk
  ·first | (cases hk; exact ⟨rfl, rfl⟩) | (rw [← Option.some.inj hk]; exact ⟨rfl, rfl⟩)
  ·cases hk
 ·cases h
theorem qiZ : SumDet qfs := zi fun _ _ _ _ => by
 unfold qfs
 simp only
 split
 ·first | rfl | (split <;> rfl)
 ·rfl
theorem qkC : SumOk Tryz.prog 66 qfs := by
 have hE : EnvOk Tryz.prog qny := env_ok (l := [(100, qej)]) th_ok qX ⟨⟨qnP, qmL⟩, trivial⟩ _
 refine sum_ok hE Tryz.func66 rfl (by kernel_rfl) qfs [.dat (.pair .str (.int .u8)) true] qcu.k ?_
 intro R avs ql κ r h
 unfold qfs at h
 simp only at h
 split at h
 ·rename_i k
  refine ⟨0, _, _, _, (qcu.eq (0) k).trans (qcu.pure k), ?_, h⟩
  intro rs ros hk
  unfold qcu.k at hk
  split at hk
  ·first | (cases hk; exact ⟨rfl, rfl⟩) | (rw [← Option.some.inj hk]; exact ⟨rfl, rfl⟩)
  ·cases hk
 ·cases h
theorem qhE : SumDet qb3 := zi fun _ _ _ _ => by
 unfold qb3
 simp only
 split
 ·first | rfl | (split <;> rfl)
 ·rfl
theorem qiu : SumOk Tryz.prog 109 qb3 := by
 have hE : EnvOk Tryz.prog qiO := env_ok (l := []) th_ok qX trivial _
 refine sum_ok hE Tryz.func109 rfl (by kernel_rfl) qb3 [.raw] Z3.k ?_
 intro R avs ql κ r h
 unfold qb3 at h
 simp only at h
 split at h
 ·rename_i had v lo hi
  refine ⟨0, _, _, _, (Z3.eq (0) had v lo hi).trans (Z3.pure had v lo hi), ?_, h⟩
  intro rs ros hk
  unfold Z3.k at hk
  split at hk
  ·first | (cases hk; exact ⟨rfl, rfl⟩) | (rw [← Option.some.inj hk]; exact ⟨rfl, rfl⟩)
  ·cases hk
 ·cases h
theorem qod : SumDet qfA := zi fun _ _ _ _ => by
 unfold qfA
 simp only
 split
 ·first | rfl | (split <;> rfl)
 ·rfl
theorem qpd : SumOk Tryz.prog 129 qfA := by
 have hE : EnvOk Tryz.prog qhb := env_ok (l := []) th_ok qX trivial _
 refine sum_ok hE Tryz.func129 rfl (by kernel_rfl) qfA [.raw] zH.k ?_
 intro R avs ql κ r h
 unfold qfA at h
 simp only at h
 split at h
 ·rename_i b
  split at h
  case isFalse => cases h
  rename_i hl
  refine ⟨b.length + 1, _, _, _, (zH.eq (b.length + 1) b).trans (zH.pure b hl), ?_, h⟩
  intro rs ros hk
  unfold zH.k at hk
  split at hk
  ·first | (cases hk; exact ⟨rfl, rfl⟩) | (rw [← Option.some.inj hk]; exact ⟨rfl, rfl⟩)
  ·cases hk
 ·cases h
theorem qnX : SumDet qfn := zi fun _ _ _ _ => by
 unfold qfn
 simp only
 split
 ·first | rfl | (split <;> rfl)
 ·rfl
theorem qo3 : SumOk Tryz.prog 118 qfn := by
 have hE : EnvOk Tryz.prog qko := env_ok (l := [(33, qdm), (129, qfA)]) th_ok qX ⟨⟨qgl, qfi⟩, ⟨qpd, qod⟩, trivial⟩ _
 refine sum_ok hE Tryz.func118 rfl (by kernel_rfl) qfn [.raw] qam.k ?_
 intro R avs ql κ r h
 unfold qfn at h
 simp only at h
 split at h
 ·rename_i rid zB rst rlo rhi zD zu
  split at h
  case isFalse => cases h
  rename_i hl
  refine ⟨0, _, _, _, (qam.eq (0) rid zB rst rlo rhi zD zu).trans (qam.pure rid zB rst rlo rhi zD zu hl), ?_, h⟩
  intro rs ros hk
  unfold qam.k at hk
  split at hk
  ·first | (cases hk; exact ⟨rfl, rfl⟩) | (rw [← Option.some.inj hk]; exact ⟨rfl, rfl⟩)
  ·cases hk
 ·cases h
def qv (k p : Int) : Bool := if decide (p ≥ 0) && decide (p ≤ 4) then (bits BinOp.and .u8 (Int.fdiv (ofF k).2 ((2 : Int) ^ (Min.min (Int.toNat p) (IntKind.bits .u8)))) (1 : Int)) == (1 : Int) else false
def qah (qk qW qK qb : Int) : Bool :=
 if !zU (qv qk 2) qW 0 281474976710655 || !zU (qv qk 2) qK 0 65535 then false else
 if qK == 0 && (qW != 0 || qk == 9) then false else qb == 0 || (qv qk 3 && (decide (qb > 0) && decide (qb < qK)))
def qlX (r : (Int × Int × Int × (Int × Int) × Bool × LF)) : Bool := zo r.2.2.2.2.2
def za (l : LR) : Bool := decide (l.length < 281474976710656) && l.all qlX
def zw (r : (Int × Int × Int × (Int × Int) × Bool × LF)) : Bool := qez r.1 r.2.1 r.2.2.1 r.2.2.2.1.1 r.2.2.2.1.2 r.2.2.2.2.1 r.2.2.2.2.2
def qdG : LR → Int → Int → Int × Int
 | [], i, qe => (i, qe)
 | r :: l, i, qe => if !zw r || decide (r.1 ≤ qe) then (i, r.1) else qdG l (i + 1) r.1
def Qs (l : LR) : Bool := (qdG l 0 (-1)).1 == (l.length : Int)
def q0 (qk qz inc lo hi seq qp qW qK qb : Int) (qd : LR) : Bool :=
 if (ofF qk).1.toList == (⟨#[]⟩ : ByteArray).toList || (decide (qz < 0) || (decide (qz > 4095) || (decide (inc < 0) || (decide (inc > 281474976710655) || !okS lo hi)))) then false else
 if !zU (qv qk 0) seq 0 65535 || (!zU (qv qk 1) qp (if qk == 3 then 1 else 0) (if qk == 3 then 3 else 4095) || !qah qk qW qK qb) then false else
 if !qv qk 4 then qd.length == 0 else decide ((qd.length : Int) ≤ 255) && Qs qd
def qkg : LF → Int → Bool
 | [], _ => true
 | x :: l, n => if decide (n + (x.2.length : Int) > 5000) then false else qkg l (n + (x.2.length : Int))
def qjg (b : LF) : Bool := if decide ((b.length : Int) > 40) then false else qkg b 0
def qhX (l : LR) : Bool := if decide ((l.length : Int) > 20) then false else l.all fun r => qjg r.2.2.2.2.2
def qg4 : LR → Bool
 | [] => true
 | r :: l => if decide (r.2.1 > 65535) || decide ((r.2.2.2.2.2.length : Int) > 0) then false else qg4 l
def qa2 (qk qz inc lo hi seq qp qW qK qb : Int) (qd : LR) : Bool :=
 if !q0 qk qz inc lo hi seq qp qW qK qb qd || (qk == 9 || qK != 0) then false else qg4 qd
def qif (qk qz inc lo hi seq qp qW qK qb : Int) (qd : LR) : Bool :=
 if !q0 qk qz inc lo hi seq qp qW qK qb qd || (qk == 9 || (qW != 0 || (qK != 0 || qb != 0))) then false else qg4 qd
def qgi (st lo hi : Int) (cut : Bool) : Int :=
 let v := bits .or .i64 (bits .or .i64 st (IntKind.wrap .i64 (lo * 4))) (IntKind.wrap .i64 (hi * 16))
 if cut then bits .or .i64 v 64 else v
def be : Nat → Int → List Int
 | 0, _ => []
 | n + 1, v => be n (v / 256) ++ [v % 256]
def z8 (n v : Int) : Bool := decide (1 ≤ n) && (decide (n ≤ 7) && (decide (0 ≤ v) && decide (v < 256 ^ n.toNat)))
def qaa : Den.Sum := ⟨[.raw, .raw], fun qH ql κ => match qH, ql with
 | [.d (.int .i64) k, .d (.int .i64) p], [] => κ [.d .bool (qv k p)] []
 | _, _ => none⟩
def qeo : Den.Sum := ⟨[.dat (.pair tQi (.pair tQi (.pair tQi (.pair (.pair tQi tQi) (.pair tQi (.pair tQi (.pair tQi (.pair tQi (.pair tQi (.sl tQr)))))))))) true], fun qH ql κ => match qH, ql with
 | [.agg [.d (.int .i64) qG, .d (.int .i64) qu, .d (.int .i64) qQ, .d (.int .i64) mlo, .d (.int .i64) mhi, .d (.int .i64) qR, .d (.int .i64) qn, .d (.int .i64) qJ, .d (.int .i64) qx, .d (.int .i64) qI, .d (.sl (.pair (.int .i64) (.pair (.int .i64) (.pair (.int .i64) (.pair (.pair (.int .i64) (.int .i64)) (.pair .bool (.sl (.pair (.int .i64) (.sl (.int .u8)))))))))) qt]], [] => κ [.d .bool (qah qG qJ qx qI)] []
 | _, _ => none⟩
def qfj : Den.Sum := ⟨[.dat tQr true, .raw], fun qH ql κ => match qH, ql with
 | [.agg [.d (.int .i64) rid, .d (.int .i64) zB, .d (.int .i64) rst, .d (.int .i64) rlo, .d (.int .i64) rhi, .d .bool zD, .d (.sl (.pair (.int .i64) (.sl (.int .u8)))) zu], .ptr 0 0], [.box [.d (.int .i64) qe]] => if zo zu = true then κ [.d .bool (!qez rid zB rst rlo rhi zD zu || decide (rid ≤ qe))] [.box [.d (.int .i64) rid]] else none
 | _, _ => none⟩
def qdt : Den.Sum := ⟨[.dat (.sl tQr) false, .raw], fun qH ql κ => match qH, ql with
 | [.d (.sl (.pair (.int .i64) (.pair (.int .i64) (.pair (.int .i64) (.pair (.pair (.int .i64) (.int .i64)) (.pair .bool (.sl (.pair (.int .i64) (.sl (.int .u8)))))))))) l, .fn (.func 117) [] [.ptr 0 0]], [.box [.d (.int .i64) qe]] => if za l = true then κ [.d (.int .i64) (qdG l 0 qe).1] [.box [.d (.int .i64) (qdG l 0 qe).2]] else none
 | _, _ => none⟩
def qbf : Den.Sum := ⟨[.dat (.sl tQr) false], fun qH ql κ => match qH, ql with
 | [.d (.sl (.pair (.int .i64) (.pair (.int .i64) (.pair (.int .i64) (.pair (.pair (.int .i64) (.int .i64)) (.pair .bool (.sl (.pair (.int .i64) (.sl (.int .u8)))))))))) l], [] => if za l = true then κ [.d .bool (Qs l)] [] else none
 | _, _ => none⟩
def Q1 : Den.Sum := ⟨[.dat (.pair tQi (.pair tQi (.pair tQi (.pair (.pair tQi tQi) (.pair tQi (.pair tQi (.pair tQi (.pair tQi (.pair tQi (.sl tQr)))))))))) true], fun qH ql κ => match qH, ql with
 | [.agg [.d (.int .i64) qG, .d (.int .i64) qu, .d (.int .i64) qQ, .d (.int .i64) mlo, .d (.int .i64) mhi, .d (.int .i64) qR, .d (.int .i64) qn, .d (.int .i64) qJ, .d (.int .i64) qx, .d (.int .i64) qI, .d (.sl (.pair (.int .i64) (.pair (.int .i64) (.pair (.int .i64) (.pair (.pair (.int .i64) (.int .i64)) (.pair .bool (.sl (.pair (.int .i64) (.sl (.int .u8)))))))))) qt]], [] => if za qt = true then κ [.d .bool (q0 qG qu qQ mlo mhi qR qn qJ qx qI qt)] [] else none
 | _, _ => none⟩
def qfw : Den.Sum := ⟨[.dat (.sl (.pair tQi (.sl (.int .u8)))) false], fun qH ql κ => match qH, ql with
 | [.d (.sl (.pair (.int .i64) (.sl (.int .u8)))) b], [] => if zo b = true then κ [.d .bool (qjg b)] [] else none
 | _, _ => none⟩
def qfv : Den.Sum := ⟨[.dat (.sl tQr) false], fun qH ql κ => match qH, ql with
 | [.d (.sl (.pair (.int .i64) (.pair (.int .i64) (.pair (.int .i64) (.pair (.pair (.int .i64) (.int .i64)) (.pair .bool (.sl (.pair (.int .i64) (.sl (.int .u8)))))))))) l], [] => if za l = true then κ [.d .bool (qhX l)] [] else none
 | _, _ => none⟩
def qeq : Den.Sum := ⟨[.dat (.pair tQi (.pair tQi (.pair tQi (.pair (.pair tQi tQi) (.pair tQi (.pair tQi (.pair tQi (.pair tQi (.pair tQi (.sl tQr)))))))))) true], fun qH ql κ => match qH, ql with
 | [.agg [.d (.int .i64) qG, .d (.int .i64) qu, .d (.int .i64) qQ, .d (.int .i64) mlo, .d (.int .i64) mhi, .d (.int .i64) qR, .d (.int .i64) qn, .d (.int .i64) qJ, .d (.int .i64) qx, .d (.int .i64) qI, .d (.sl (.pair (.int .i64) (.pair (.int .i64) (.pair (.int .i64) (.pair (.pair (.int .i64) (.int .i64)) (.pair .bool (.sl (.pair (.int .i64) (.sl (.int .u8)))))))))) qt]], [] => if za qt = true then κ [.d .bool (qhX qt)] [] else none
 | _, _ => none⟩
def qcT : Den.Sum := ⟨[.dat (.pair tQi (.pair tQi (.pair tQi (.pair (.pair tQi tQi) (.pair tQi (.pair tQi (.pair tQi (.pair tQi (.pair tQi (.sl tQr)))))))))) true], fun qH ql κ => match qH, ql with
 | [.agg [.d (.int .i64) qG, .d (.int .i64) qu, .d (.int .i64) qQ, .d (.int .i64) mlo, .d (.int .i64) mhi, .d (.int .i64) qR, .d (.int .i64) qn, .d (.int .i64) qJ, .d (.int .i64) qx, .d (.int .i64) qI, .d (.sl (.pair (.int .i64) (.pair (.int .i64) (.pair (.int .i64) (.pair (.pair (.int .i64) (.int .i64)) (.pair .bool (.sl (.pair (.int .i64) (.sl (.int .u8)))))))))) qt]], [] => if za qt = true then κ [.d .bool (qa2 qG qu qQ mlo mhi qR qn qJ qx qI qt)] [] else none
 | _, _ => none⟩
def qek : Den.Sum := ⟨[.dat tQr true], fun qH ql κ => match qH, ql with
 | [.agg [.d (.int .i64) rid, .d (.int .i64) zB, .d (.int .i64) rst, .d (.int .i64) rlo, .d (.int .i64) rhi, .d .bool zD, .d (.sl (.pair (.int .i64) (.sl (.int .u8)))) zu]], [] => κ [.d (.int .i64) (qgi rst rlo rhi zD)] []
 | _, _ => none⟩
def qcQ : Den.Sum := ⟨[.raw, .raw], fun qH ql κ => match qH, ql with
 | [.d (.int .i64) n, .d (.int .i64) v], [] => if z8 n v = true then κ [.d .bool true] [] else none
 | _, _ => none⟩
def qkr : Env := ⟨th, gam [(41, qaa), (109, qb3)], fun i => ⟨[], [], []⟩⟩
def qao.k (rs : List AV) (os : List Den.Obj) : Option Bool :=
 match rs, os with
 | [.d .bool r0], [] => some r0
 | _, _ => none
def qao.b (qG qu qQ mlo mhi qR qn qJ qx qI : Int) (qt : LR) : Option Bool :=
 (if (!(zU (qv qG (2 : Int)) qJ (0 : Int) (veil (281474976710655 : Int)))) then some (false) else (if (!(zU (qv qG (2 : Int)) qx (0 : Int) (65535 : Int))) then some (false) else (if (qx == (0 : Int)) then (if (qJ != (0 : Int)) then some (false) else (if (qG == (9 : Int)) then some (false) else (if (qI == (0 : Int)) then some (true) else (if (qv qG (3 : Int)) then (if (decide (qI > (0 : Int))) then some ((decide (qI < qx))) else some (false)) else some (false))))) else (if (qI == (0 : Int)) then some (true) else (if (qv qG (3 : Int)) then (if (decide (qI > (0 : Int))) then some ((decide (qI < qx))) else some (false)) else some (false))))))
def qao.f (qa : Nat) (qG qu qQ mlo mhi qR qn qJ qx qI : Int) (qt : LR) : Option Bool := qao.b qG qu qQ mlo mhi qR qn qJ qx qI qt
theorem qao.eq (qa : Nat) (qG qu qQ mlo mhi qR qn qJ qx qI : Int) (qt : LR) : (denF qkr loopN qa Tryz.f110 [.raw] [.agg [.d tQi qG, .d tQi qu, .d tQi qQ, .d tQi mlo, .d tQi mhi, .d tQi qR, .d tQi qn, .d tQi qJ, .d tQi qx, .d tQi qI, .d (.sl tQr) qt]] [] qao.k) = qao.f qa qG qu qQ mlo mhi qR qn qJ qx qI qt := by
 kernel_rfl
def qpN : Env := ⟨th, gam [(118, qfn)], fun i => ⟨[], [], []⟩⟩
def qd7.k (rs : List AV) (os : List Den.Obj) : Option (Bool × Int) :=
 match rs, os with
 | [.d .bool r0], [.box [.d (.int .i64) r1]] => some (r0, r1)
 | _, _ => none
def qd7.b (rid zB rst rlo rhi : Int) (zD : Bool) (zu : LF) (qe : Int) : Option (Bool × Int) :=
 (if (zo (zB, (rst, ((rlo, rhi), (zD, zu)))).2.2.2.2) then (if (!(qez rid (zB, (rst, ((rlo, rhi), (zD, zu)))).1 (zB, (rst, ((rlo, rhi), (zD, zu)))).2.1 (zB, (rst, ((rlo, rhi), (zD, zu)))).2.2.1.1 (zB, (rst, ((rlo, rhi), (zD, zu)))).2.2.1.2 (zB, (rst, ((rlo, rhi), (zD, zu)))).2.2.2.1 (zB, (rst, ((rlo, rhi), (zD, zu)))).2.2.2.2)) then some (true, rid) else some ((decide (rid ≤ qe)), rid)) else none)
def qd7.f (qa : Nat) (rid zB rst rlo rhi : Int) (zD : Bool) (zu : LF) (qe : Int) : Option (Bool × Int) := qd7.b rid zB rst rlo rhi zD zu qe
theorem qd7.eq (qa : Nat) (rid zB rst rlo rhi : Int) (zD : Bool) (zu : LF) (qe : Int) : (denF qpN loopN qa Tryz.f117 [.raw] [.agg [.d tQi rid, .d tQi zB, .d tQi rst, .d tQi rlo, .d tQi rhi, .d .bool zD, .d (.sl (.pair tQi (.sl (.int .u8)))) zu], .ptr 0 0] [.box [.d tQi qe]] qd7.k) = qd7.f qa rid zB rst rlo rhi zD zu qe := by
 kernel_rfl
def qkW : Env := ⟨th, gam [(117, qfj)], fun i => if i = 2 then ⟨[0, 1, 7, 8, 9], [], []⟩ else ⟨[], [], []⟩⟩
def QG.k (rs : List AV) (os : List Den.Obj) : Option (Int × Int) :=
 match rs, os with
 | [.d (.int .i64) r0], [.box [.d (.int .i64) r1]] => some (r0, r1)
 | _, _ => none
def QG.s2 (l : LR) (qe x0 x1 x2 : Int) : St := ⟨[.d (.sl tQr) (l), .fn (.func 117) [] [.ptr 0 0], dD, dD, dD, dD, dD, .d (.sl tQr) (l), .d tQi x0, .d tQi x1, dD, dD, dD, dD, dD, dD, dD, dD, dD, dD, .dead], ofL [(0, .box [.d tQi x2])], 1⟩
def QG.p2 (qa : Nat) (l : LR) (qe : Int) (k : Nat) := fun x0 x1 x2 => lp qkW qa Tryz.f116 [.raw] 1 QG.k 2 [] k (QG.s2 l qe x0 x1 x2)
def QG.b2 (l : LR) (qe : Int) (A2 : Int → Int → Int → Option (Int × Int)) (x0 : Int) (x1 : Int) (x2 : Int) : Option (Int × Int) :=
 (if (decide (x1 < x0)) then (match (idx l x1) with | none => none | some y3 => (if (zo (y3.2.1, (y3.2.2.1, ((y3.2.2.2.1.1, y3.2.2.2.1.2), (y3.2.2.2.2.1, y3.2.2.2.2.2)))).2.2.2.2) then (if ((!(qez y3.1 (y3.2.1, (y3.2.2.1, ((y3.2.2.2.1.1, y3.2.2.2.1.2), (y3.2.2.2.2.1, y3.2.2.2.2.2)))).1 (y3.2.1, (y3.2.2.1, ((y3.2.2.2.1.1, y3.2.2.2.1.2), (y3.2.2.2.2.1, y3.2.2.2.2.2)))).2.1 (y3.2.1, (y3.2.2.1, ((y3.2.2.2.1.1, y3.2.2.2.1.2), (y3.2.2.2.2.1, y3.2.2.2.2.2)))).2.2.1.1 (y3.2.1, (y3.2.2.1, ((y3.2.2.2.1.1, y3.2.2.2.1.2), (y3.2.2.2.2.1, y3.2.2.2.2.2)))).2.2.1.2 (y3.2.1, (y3.2.2.1, ((y3.2.2.2.1.1, y3.2.2.2.1.2), (y3.2.2.2.2.1, y3.2.2.2.2.2)))).2.2.2.1 (y3.2.1, (y3.2.2.1, ((y3.2.2.2.1.1, y3.2.2.2.1.2), (y3.2.2.2.2.1, y3.2.2.2.2.2)))).2.2.2.2)) || (decide (y3.1 ≤ x2))) then some (x1, y3.1) else A2 x0 (IntKind.wrap .i64 (x1 + (1 : Int))) y3.1) else none)) else some (((((List.length l)) : Nat) : Int), x2))
def QG.l2 (qa : Nat) (l : LR) (qe : Int) : Nat → Int → Int → Int → Option (Int × Int)
 | 0, _, _, _ => none
 | k + 1, x0, x1, x2 => QG.b2 l qe (QG.l2 qa l qe k) x0 x1 x2
def QG.b (l : LR) (qe : Int) (E2 : Int → Int → Int → Option (Int × Int)) : Option (Int × Int) :=
 E2 ((((List.length l)) : Nat) : Int) (0 : Int) qe
def QG.f (qa : Nat) (l : LR) (qe : Int) : Option (Int × Int) := QG.b l qe (QG.l2 qa l qe qa)
theorem QG.l2_eq (qa : Nat) (l : LR) (qe : Int) : ∀ k : Nat, QG.p2 qa l qe k = QG.l2 qa l qe k
 | 0 => by kernel_rfl
 | k + 1 => by
  refine Eq.trans (b := QG.b2 l qe (QG.p2 qa l qe k)) (by kernel_rfl) ?_
  rw [QG.l2_eq qa l qe k]
  kernel_rfl
theorem QG.eq (qa : Nat) (l : LR) (qe : Int) : (denF qkW loopN qa Tryz.f116 [.raw] [.d (.sl tQr) l, .fn (.func 117) [] [.ptr 0 0]] [.box [.d tQi qe]] QG.k) = QG.f qa l qe := by
 refine Eq.trans (b := QG.b l qe (QG.p2 qa l qe qa)) (by kernel_rfl) ?_
 rw [QG.l2_eq qa l qe qa]
 kernel_rfl
def qmt : Env := ⟨th, gam [(116, qdt)], fun i => ⟨[], [], []⟩⟩
def qbC.k (rs : List AV) (os : List Den.Obj) : Option Bool :=
 match rs, os with
 | [.d .bool r0], [] => some r0
 | _, _ => none
def qbC.b (l : LR) : Option Bool :=
 (if (za l) then some (((qdG l (0 : Int) (-(1 : Int))).1 == ((((List.length l)) : Nat) : Int))) else none)
def qbC.f (qa : Nat) (l : LR) : Option Bool := qbC.b l
theorem qbC.eq (qa : Nat) (l : LR) : (denF qmt loopN qa Tryz.f96 [.raw] [.d (.sl tQr) l] [] qbC.k) = qbC.f qa l := by
 kernel_rfl
def qkp : Env := ⟨th, gam [(66, qfs), (33, qdm), (109, qb3), (41, qaa), (110, qeo), (96, qbf)], fun i => ⟨[], [], []⟩⟩
def qan.k (rs : List AV) (os : List Den.Obj) : Option Bool :=
 match rs, os with
 | [.d .bool r0], [] => some r0
 | _, _ => none
def qan.b (qG qu qQ mlo mhi qR qn qJ qx qI : Int) (qt : LR) : Option Bool :=
 (if ((ByteArray.toList (ofF qG).1) == (ByteArray.toList (⟨([]).toArray⟩ : ByteArray))) then some (false) else (if (decide (qu < (0 : Int))) then some (false) else (if (decide (qu > (4095 : Int))) then some (false) else (if (decide (qQ < (0 : Int))) then some (false) else (if (decide (qQ > (veil (281474976710655 : Int)))) then some (false) else (if (!(okS mlo mhi)) then some (false) else (if (qG == (3 : Int)) then (if (!(zU (qv qG (0 : Int)) qR (0 : Int) (65535 : Int))) then some (false) else (if (!(zU (qv qG (1 : Int)) qn (1 : Int) (3 : Int))) then some (false) else (if (!(qah qG (qu, (qQ, ((mlo, mhi), (qR, (qn, (qJ, (qx, (qI, qt)))))))).2.2.2.2.2.1 (qu, (qQ, ((mlo, mhi), (qR, (qn, (qJ, (qx, (qI, qt)))))))).2.2.2.2.2.2.1 (qu, (qQ, ((mlo, mhi), (qR, (qn, (qJ, (qx, (qI, qt)))))))).2.2.2.2.2.2.2.1)) then some (false) else (if (!(qv qG (4 : Int))) then some ((((((List.length qt)) : Nat) : Int) == (0 : Int))) else (if (decide (((((List.length qt)) : Nat) : Int) ≤ (255 : Int))) then (if (za qt) then some ((Qs qt)) else none) else some (false)))))) else (if (!(zU (qv qG (0 : Int)) qR (0 : Int) (65535 : Int))) then some (false) else (if (!(zU (qv qG (1 : Int)) qn (0 : Int) (4095 : Int))) then some (false) else (if (!(qah qG (qu, (qQ, ((mlo, mhi), (qR, (qn, (qJ, (qx, (qI, qt)))))))).2.2.2.2.2.1 (qu, (qQ, ((mlo, mhi), (qR, (qn, (qJ, (qx, (qI, qt)))))))).2.2.2.2.2.2.1 (qu, (qQ, ((mlo, mhi), (qR, (qn, (qJ, (qx, (qI, qt)))))))).2.2.2.2.2.2.2.1)) then some (false) else (if (!(qv qG (4 : Int))) then some ((((((List.length qt)) : Nat) : Int) == (0 : Int))) else (if (decide (((((List.length qt)) : Nat) : Int) ≤ (255 : Int))) then (if (za qt) then some ((Qs qt)) else none) else some (false)))))))))))))
def qan.f (qa : Nat) (qG qu qQ mlo mhi qR qn qJ qx qI : Int) (qt : LR) : Option Bool := qan.b qG qu qQ mlo mhi qR qn qJ qx qI qt
theorem qan.eq (qa : Nat) (qG qu qQ mlo mhi qR qn qJ qx qI : Int) (qt : LR) : (denF qkp loopN qa Tryz.f76 [.raw] [.agg [.d tQi qG, .d tQi qu, .d tQi qQ, .d tQi mlo, .d tQi mhi, .d tQi qR, .d tQi qn, .d tQi qJ, .d tQi qx, .d tQi qI, .d (.sl tQr) qt]] [] qan.k) = qan.f qa qG qu qQ mlo mhi qR qn qJ qx qI qt := by
 kernel_rfl
def qmD : Env := ⟨th, gam [], fun i => if i = 5 then ⟨[0, 3, 4], [], []⟩ else ⟨[], [], []⟩⟩
def Zz.k (rs : List AV) (os : List Den.Obj) : Option Bool :=
 match rs, os with
 | [.d .bool r0], [] => some r0
 | _, _ => none
def Zz.s5 (b : LF) (x0 x1 : Int) : St := ⟨[.d (.sl (.pair tQi (.sl (.int .u8)))) (b), .dead, .dead, .d tQi x0, .d tQi x1, dD, dD, dD, dD, dD, dD, dD, dD, dD, dD, dD, dD, dD, dD, dD, dD, dD, dD, .dead], ofL [], 0⟩
def Zz.p5 (qa : Nat) (b : LF) (k : Nat) := fun x0 x1 => lp qmD qa Tryz.f28 [.raw] 0 Zz.k 5 [] k (Zz.s5 b x0 x1)
def Zz.b5 (b : LF) (A5 : Int → Int → Option Bool) (x0 x1 : Int) : Option Bool :=
 (if (decide (x1 < ((((List.length b)) : Nat) : Int))) then (match (idx b x1) with | none => none | some y2 => (if (decide ((IntKind.wrap .i64 (x0 + ((((List.length y2.2)) : Nat) : Int))) > (5000 : Int))) then some (false) else A5 (IntKind.wrap .i64 (x0 + ((((List.length y2.2)) : Nat) : Int))) (IntKind.wrap .i64 (x1 + (1 : Int))))) else some (true))
def Zz.l5 (qa : Nat) (b : LF) : Nat → Int → Int → Option Bool
 | 0, _, _ => none
 | k + 1, x0, x1 => Zz.b5 b (Zz.l5 qa b k) x0 x1
def Zz.b (b : LF) (E5 : Int → Int → Option Bool) : Option Bool :=
 (if (decide (((((List.length b)) : Nat) : Int) > (40 : Int))) then some (false) else E5 (0 : Int) (0 : Int))
def Zz.f (qa : Nat) (b : LF) : Option Bool := Zz.b b (Zz.l5 qa b qa)
theorem Zz.l5_eq (qa : Nat) (b : LF) : ∀ k : Nat, Zz.p5 qa b k = Zz.l5 qa b k
 | 0 => by kernel_rfl
 | k + 1 => by
  refine Eq.trans (b := Zz.b5 b (Zz.p5 qa b k)) (by kernel_rfl) ?_
  rw [Zz.l5_eq qa b k]
  kernel_rfl
theorem Zz.eq (qa : Nat) (b : LF) : (denF qmD loopN qa Tryz.f28 [.raw] [.d (.sl (.pair tQi (.sl (.int .u8)))) b] [] Zz.k) = Zz.f qa b := by
 refine Eq.trans (b := Zz.b b (Zz.p5 qa b qa)) (by kernel_rfl) ?_
 rw [Zz.l5_eq qa b qa]
 kernel_rfl
def qmC : Env := ⟨th, gam [(28, qfw)], fun i => if i = 4 then ⟨[0, 3], [], []⟩ else ⟨[], [], []⟩⟩
def Zy.k (rs : List AV) (os : List Den.Obj) : Option Bool :=
 match rs, os with
 | [.d .bool r0], [] => some r0
 | _, _ => none
def Zy.s4 (l : LR) (x0 : Int) : St := ⟨[.d (.sl tQr) (l), .dead, .dead, .d tQi x0, dD, dD, dD, dD, dD, dD, dD, dD, dD, dD, dD, dD, dD, dD, dD, .dead], ofL [], 0⟩
def Zy.p4 (qa : Nat) (l : LR) (k : Nat) := fun x0 => lp qmC qa Tryz.f8 [.raw] 0 Zy.k 4 [] k (Zy.s4 l x0)
def Zy.b4 (l : LR) (A4 : Int → Option Bool) (x0 : Int) : Option Bool :=
 (if (decide (x0 < ((((List.length l)) : Nat) : Int))) then (match (idx l x0) with | none => none | some y1 => (if (zo y1.2.2.2.2.2) then (if (!(qjg y1.2.2.2.2.2)) then some (false) else A4 (IntKind.wrap .i64 (x0 + (1 : Int)))) else none)) else some (true))
def Zy.l4 (qa : Nat) (l : LR) : Nat → Int → Option Bool
 | 0, _ => none
 | k + 1, x0 => Zy.b4 l (Zy.l4 qa l k) x0
def Zy.b (l : LR) (E4 : Int → Option Bool) : Option Bool :=
 (if (decide (((((List.length l)) : Nat) : Int) > (20 : Int))) then some (false) else E4 (0 : Int))
def Zy.f (qa : Nat) (l : LR) : Option Bool := Zy.b l (Zy.l4 qa l qa)
theorem Zy.l4_eq (qa : Nat) (l : LR) : ∀ k : Nat, Zy.p4 qa l k = Zy.l4 qa l k
 | 0 => by kernel_rfl
 | k + 1 => by
  refine Eq.trans (b := Zy.b4 l (Zy.p4 qa l k)) (by kernel_rfl) ?_
  rw [Zy.l4_eq qa l k]
  kernel_rfl
theorem Zy.eq (qa : Nat) (l : LR) : (denF qmC loopN qa Tryz.f8 [.raw] [.d (.sl tQr) l] [] Zy.k) = Zy.f qa l := by
 refine Eq.trans (b := Zy.b l (Zy.p4 qa l qa)) (by kernel_rfl) ?_
 rw [Zy.l4_eq qa l qa]
 kernel_rfl
def qnB : Env := ⟨th, gam [(8, qfv)], fun i => ⟨[], [], []⟩⟩
def qcx.k (rs : List AV) (os : List Den.Obj) : Option Bool :=
 match rs, os with
 | [.d .bool r0], [] => some r0
 | _, _ => none
def qcx.b (qG qu qQ mlo mhi qR qn qJ qx qI : Int) (qt : LR) : Option Bool :=
 (if (za qt) then some ((qhX qt)) else none)
def qcx.f (qa : Nat) (qG qu qQ mlo mhi qR qn qJ qx qI : Int) (qt : LR) : Option Bool := qcx.b qG qu qQ mlo mhi qR qn qJ qx qI qt
theorem qcx.eq (qa : Nat) (qG qu qQ mlo mhi qR qn qJ qx qI : Int) (qt : LR) : (denF qnB loopN qa Tryz.f7 [.raw] [.agg [.d tQi qG, .d tQi qu, .d tQi qQ, .d tQi mlo, .d tQi mhi, .d tQi qR, .d tQi qn, .d tQi qJ, .d tQi qx, .d tQi qI, .d (.sl tQr) qt]] [] qcx.k) = qcx.f qa qG qu qQ mlo mhi qR qn qJ qx qI qt := by
 kernel_rfl
def qk1 : Env := ⟨th, gam [(76, Q1)], fun i => if i = 4 then ⟨[19, 20, 21], [], []⟩ else ⟨[], [], []⟩⟩
def QL.k (rs : List AV) (os : List Den.Obj) : Option Bool :=
 match rs, os with
 | [.d .bool r0], [] => some r0
 | _, _ => none
def QL.s4 (qG qu qQ mlo mhi qR qn qJ qx qI : Int) (qt : LR) (x0 x1 : Int) : St := ⟨[dD, dD, dD, dD, dD, dD, dD, dD, dD, dD, dD, dD, dD, dD, dD, dD, dD, dD, dD, .d (.sl tQr) (qt), .d tQi x0, .d tQi x1, dD, dD, dD, dD, dD, dD, dD, dD, dD, dD, dD, dD, .dead], ofL [], 0⟩
def QL.p4 (qa : Nat) (qG qu qQ mlo mhi qR qn qJ qx qI : Int) (qt : LR) (k : Nat) := fun x0 x1 => lp qk1 qa Tryz.f77 [.raw] 0 QL.k 4 [] k (QL.s4 qG qu qQ mlo mhi qR qn qJ qx qI qt x0 x1)
def QL.b4 (qG qu qQ mlo mhi qR qn qJ qx qI : Int) (qt : LR) (A4 : Int → Int → Option Bool) (x0 x1 : Int) : Option Bool :=
 (if (decide (x1 < x0)) then (match (idx qt x1) with | none => none | some y2 => (if (decide (y2.2.1 > (65535 : Int))) then some (false) else (if (decide (((((List.length y2.2.2.2.2.2)) : Nat) : Int) > (0 : Int))) then some (false) else A4 x0 (IntKind.wrap .i64 (x1 + (1 : Int)))))) else some (true))
def QL.l4 (qa : Nat) (qG qu qQ mlo mhi qR qn qJ qx qI : Int) (qt : LR) : Nat → Int → Int → Option Bool
 | 0, _, _ => none
 | k + 1, x0, x1 => QL.b4 qG qu qQ mlo mhi qR qn qJ qx qI qt (QL.l4 qa qG qu qQ mlo mhi qR qn qJ qx qI qt k) x0 x1
def QL.b (qG qu qQ mlo mhi qR qn qJ qx qI : Int) (qt : LR) (E4 : Int → Int → Option Bool) : Option Bool :=
 (if (za (qu, (qQ, ((mlo, mhi), (qR, (qn, (qJ, (qx, (qI, qt)))))))).2.2.2.2.2.2.2.2) then (if (!(q0 qG (qu, (qQ, ((mlo, mhi), (qR, (qn, (qJ, (qx, (qI, qt)))))))).1 (qu, (qQ, ((mlo, mhi), (qR, (qn, (qJ, (qx, (qI, qt)))))))).2.1 (qu, (qQ, ((mlo, mhi), (qR, (qn, (qJ, (qx, (qI, qt)))))))).2.2.1.1 (qu, (qQ, ((mlo, mhi), (qR, (qn, (qJ, (qx, (qI, qt)))))))).2.2.1.2 (qu, (qQ, ((mlo, mhi), (qR, (qn, (qJ, (qx, (qI, qt)))))))).2.2.2.1 (qu, (qQ, ((mlo, mhi), (qR, (qn, (qJ, (qx, (qI, qt)))))))).2.2.2.2.1 (qu, (qQ, ((mlo, mhi), (qR, (qn, (qJ, (qx, (qI, qt)))))))).2.2.2.2.2.1 (qu, (qQ, ((mlo, mhi), (qR, (qn, (qJ, (qx, (qI, qt)))))))).2.2.2.2.2.2.1 (qu, (qQ, ((mlo, mhi), (qR, (qn, (qJ, (qx, (qI, qt)))))))).2.2.2.2.2.2.2.1 (qu, (qQ, ((mlo, mhi), (qR, (qn, (qJ, (qx, (qI, qt)))))))).2.2.2.2.2.2.2.2)) then some (false) else (if (qG == (9 : Int)) then some (false) else (if (qx != (0 : Int)) then some (false) else E4 ((((List.length qt)) : Nat) : Int) (0 : Int)))) else none)
def QL.f (qa : Nat) (qG qu qQ mlo mhi qR qn qJ qx qI : Int) (qt : LR) : Option Bool := QL.b qG qu qQ mlo mhi qR qn qJ qx qI qt (QL.l4 qa qG qu qQ mlo mhi qR qn qJ qx qI qt qa)
theorem QL.l4_eq (qa : Nat) (qG qu qQ mlo mhi qR qn qJ qx qI : Int) (qt : LR) : ∀ k : Nat, QL.p4 qa qG qu qQ mlo mhi qR qn qJ qx qI qt k = QL.l4 qa qG qu qQ mlo mhi qR qn qJ qx qI qt k
 | 0 => by kernel_rfl
 | k + 1 => by
  refine Eq.trans (b := QL.b4 qG qu qQ mlo mhi qR qn qJ qx qI qt (QL.p4 qa qG qu qQ mlo mhi qR qn qJ qx qI qt k)) (by kernel_rfl) ?_
  rw [QL.l4_eq qa qG qu qQ mlo mhi qR qn qJ qx qI qt k]
  kernel_rfl
theorem QL.eq (qa : Nat) (qG qu qQ mlo mhi qR qn qJ qx qI : Int) (qt : LR) : (denF qk1 loopN qa Tryz.f77 [.raw] [.agg [.d tQi qG, .d tQi qu, .d tQi qQ, .d tQi mlo, .d tQi mhi, .d tQi qR, .d tQi qn, .d tQi qJ, .d tQi qx, .d tQi qI, .d (.sl tQr) qt]] [] QL.k) = QL.f qa qG qu qQ mlo mhi qR qn qJ qx qI qt := by
 refine Eq.trans (b := QL.b qG qu qQ mlo mhi qR qn qJ qx qI qt (QL.p4 qa qG qu qQ mlo mhi qR qn qJ qx qI qt qa)) (by kernel_rfl) ?_
 rw [QL.l4_eq qa qG qu qQ mlo mhi qR qn qJ qx qI qt qa]
 kernel_rfl
def qns : Env := ⟨th, gam [], fun i => ⟨[], [], []⟩⟩
def qco.k (rs : List AV) (os : List Den.Obj) : Option Int :=
 match rs, os with
 | [.d (.int .i64) r0], [] => some r0
 | _, _ => none
def qco.b (rid zB rst rlo rhi : Int) (zD : Bool) (zu : LF) : Option Int :=
 (if zD then some ((bits BinOp.or .i64 (bits BinOp.or .i64 (bits BinOp.or .i64 rst (IntKind.wrap .i64 (rlo * ((2 : Int) ^ (Min.min (Int.toNat (2 : Int)) (IntKind.bits .i64)))))) (IntKind.wrap .i64 (rhi * ((2 : Int) ^ (Min.min (Int.toNat (4 : Int)) (IntKind.bits .i64)))))) (64 : Int))) else some ((bits BinOp.or .i64 (bits BinOp.or .i64 rst (IntKind.wrap .i64 (rlo * ((2 : Int) ^ (Min.min (Int.toNat (2 : Int)) (IntKind.bits .i64)))))) (IntKind.wrap .i64 (rhi * ((2 : Int) ^ (Min.min (Int.toNat (4 : Int)) (IntKind.bits .i64))))))))
def qco.f (qa : Nat) (rid zB rst rlo rhi : Int) (zD : Bool) (zu : LF) : Option Int := qco.b rid zB rst rlo rhi zD zu
theorem qco.eq (qa : Nat) (rid zB rst rlo rhi : Int) (zD : Bool) (zu : LF) : (denF qns loopN qa Tryz.f81 [.raw] [.agg [.d tQi rid, .d tQi zB, .d tQi rst, .d tQi rlo, .d tQi rhi, .d .bool zD, .d (.sl (.pair tQi (.sl (.int .u8)))) zu]] [] qco.k) = qco.f qa rid zB rst rlo rhi zD zu := by
 kernel_rfl
theorem qbE.pure (k p : Int) : qbE.f 0 k p = some (qv k p) := by
 unfold qbE.f qbE.b qv
 by_cases h1 : p ≥ 0
 ·by_cases h2 : p ≤ 4
  ·rw [if_pos (by simpa using h1), if_pos (by simpa using h2), if_neg (by omega), if_pos (by simp; omega)]
  ·simp [h1, h2]
 ·simp [h1]
theorem qao.pure (qk qz inc lo hi seq qp qW qK qb : Int) (qd : LR) : qao.f 0 qk qz inc lo hi seq qp qW qK qb qd = some (qah qk qW qK qb) := by
 unfold qao.f qao.b qah
 rw [veil_eq]
 cases zU (qv qk 2) qW 0 281474976710655
 ·simp
 cases zU (qv qk 2) qK 0 65535
 ·simp
 simp only [Bool.not_true, Bool.false_eq_true, if_false, Bool.or_self]
 by_cases h1 : qK = 0 <;> by_cases h2 : qW = 0 <;> by_cases h3 : qk = 9 <;> by_cases h4 : qb = 0 <;> cases qv qk 3 <;> by_cases h5 : qb > 0 <;> simp [h1, h2, h3, h4, h5]
theorem qd7.pure (id inc st lo hi : Int) (cut : Bool) (bag : LF) (qe : Int) (hl : zo bag = true) : qd7.f 0 id inc st lo hi cut bag qe = some (!qez id inc st lo hi cut bag || decide (id ≤ qe), id) := by
 unfold qd7.f qd7.b
 dsimp only
 rw [hl]
 cases qez id inc st lo hi cut bag <;> simp
theorem QO (l : LR) : za l = true ↔ l.length < 281474976710656 ∧ ∀ r ∈ l, zo r.2.2.2.2.2 = true := by
 unfold za
 simp [List.all_eq_true, qlX]
theorem QG.loop (qa : Nat) (l : LR) (l0 : Int) (hl : za l = true) : ∀ (k i : Nat) (qe : Int), i ≤ l.length → l.length - i < k →
  QG.l2 qa l l0 k (l.length : Int) (i : Int) qe = some (qdG (l.drop i) (i : Int) qe) := by
 obtain ⟨hb, hx⟩ := (QO l).1 hl
 intro k
 induction k with
 | zero => intro i qe h1 h2; omega
 | succ k ih =>
  intro i qe h1 h2
  rw [QG.l2]
  unfold QG.b2
  by_cases hi : i < l.length
  ·rw [if_pos (by simp; omega), Qh, List.getElem?_eq_getElem hi]
   dsimp only
   rw [List.drop_eq_getElem_cons hi, hx l[i] (List.getElem_mem hi)]
   unfold qdG zw
   rw [if_pos rfl, qV ((i : Int) + 1) (by omega) (by omega)]
   split
   ·rfl
   ·exact ih (i + 1) _ (by omega) (by omega)
  ·rw [if_neg (by simp; omega)]
   have : i = l.length := by omega
   subst this
   rw [List.drop_of_length_le (by omega)]
   rfl
theorem QG.pure (l : LR) (qe : Int) (hl : za l = true) : QG.f (l.length + 1) l qe = some ((qdG l 0 qe).1, (qdG l 0 qe).2) := by
 unfold QG.f QG.b
 exact QG.loop _ l qe hl _ 0 qe (by omega) (by omega)
theorem qbC.pure (l : LR) (hl : za l = true) : qbC.f 0 l = some (Qs l) := by
 unfold qbC.f qbC.b Qs
 rw [hl]; rfl
theorem qan.pure (qk qz inc lo hi seq qp qW qK qb : Int) (qd : LR) (hl : za qd = true) : qan.f 0 qk qz inc lo hi seq qp qW qK qb qd = some (q0 qk qz inc lo hi seq qp qW qK qb qd) := by
 unfold qan.f qan.b q0
 rw [veil_eq, hl]
 dsimp only
 cases h0 : ((ofF qk).1.toList == (⟨[].toArray⟩ : ByteArray).toList)
 case true => simp [h0]
 by_cases c1 : qz < 0
 ·simp [h0, c1]
 by_cases c2 : qz > 4095
 ·simp [h0, c1, c2]
 by_cases c3 : inc < 0
 ·simp [h0, c1, c2, c3]
 by_cases c4 : inc > 281474976710655
 ·simp [h0, c1, c2, c3, c4]
 cases h1 : okS lo hi
 ·simp [h0, c1, c2, c3, c4]
 simp only [h0, c1, c2, c3, c4, decide_false, Bool.or_self, Bool.not_true, Bool.false_eq_true, if_false]
 cases zU (qv qk 0) seq 0 65535
 ·by_cases h3 : qk = 3 <;> simp [h3]
 by_cases h3 : qk = 3
 ·subst h3
  simp only [beq_self_eq_true, if_true]
  cases zU (qv 3 1) qp 1 3 <;> cases qah 3 qW qK qb <;> cases qv 3 4 <;> simp
  ·exact Bool.eq_iff_iff.2 (by simp)
  ·split
   ·simp_all
   ·simp_all; omega
 ·have h3' : (qk == 3) = false := by simpa using h3
  simp only [h3', Bool.false_eq_true, if_false]
  cases zU (qv qk 1) qp 0 4095 <;> cases qah qk qW qK qb <;> cases qv qk 4 <;> simp
  ·exact Bool.eq_iff_iff.2 (by simp)
  ·split
   ·simp_all
   ·simp_all; omega
theorem Zz.loop (qa : Nat) (b : LF) (hl : zo b = true) : ∀ (k i : Nat) (n : Int), i ≤ b.length → b.length - i < k → 0 ≤ n → n ≤ 5000 → Zz.l5 qa b k n (i : Int) = some (qkg (b.drop i) n) := by
 obtain ⟨hb, hx⟩ := (Z6 b).1 hl
 intro k
 induction k with
 | zero => intro i n h1 h2; omega
 | succ k ih =>
  intro i n h1 h2 h3 h4
  rw [Zz.l5]
  unfold Zz.b5
  by_cases hi : i < b.length
  ·rw [if_pos (by simp; omega), Qh, List.getElem?_eq_getElem hi]
   dsimp only
   rw [List.drop_eq_getElem_cons hi]
   have hxl := hx b[i] (List.getElem_mem hi)
   unfold qkg
   rw [qV (n + _) (by omega) (by omega), qV ((i : Int) + 1) (by omega) (by omega)]
   split
   ·rfl
   ·rename_i hh
    exact ih (i + 1) _ (by omega) (by omega) (by omega) (by simpa using hh)
  ·rw [if_neg (by simp; omega), List.drop_of_length_le (by omega)]
   rfl
theorem Zz.pure (b : LF) (hl : zo b = true) : Zz.f (b.length + 1) b = some (qjg b) := by
 unfold Zz.f Zz.b qjg
 split
 ·rfl
 ·exact Zz.loop _ b hl _ 0 0 (by omega) (by omega) (by omega) (by omega)
theorem Zy.loop (qa : Nat) (l : LR) (hl : za l = true) : ∀ (k i : Nat), i ≤ l.length → l.length - i < k → Zy.l4 qa l k (i : Int) = some ((l.drop i).all fun r => qjg r.2.2.2.2.2) := by
 obtain ⟨hb, hx⟩ := (QO l).1 hl
 intro k
 induction k with
 | zero => intro i h1 h2; omega
 | succ k ih =>
  intro i h1 h2
  rw [Zy.l4]
  unfold Zy.b4
  by_cases hi : i < l.length
  ·rw [if_pos (by simp; omega), Qh, List.getElem?_eq_getElem hi]
   dsimp only
   rw [List.drop_eq_getElem_cons hi, hx l[i] (List.getElem_mem hi), if_pos rfl, qV ((i : Int) + 1) (by omega) (by omega), List.all_cons]
   cases qjg l[i].2.2.2.2.2
   ·rfl
   ·simp only [Bool.not_true, Bool.false_eq_true, if_false, Bool.true_and]
    exact ih (i + 1) (by omega) (by omega)
  ·rw [if_neg (by simp; omega), List.drop_of_length_le (by omega)]
   rfl
theorem Zy.pure (l : LR) (hl : za l = true) : Zy.f (l.length + 1) l = some (qhX l) := by
 unfold Zy.f Zy.b qhX
 split
 ·rfl
 ·exact Zy.loop _ l hl _ 0 (by omega) (by omega)
theorem qcx.pure (qk qz inc lo hi seq qp qW qK qb : Int) (qd : LR) (hl : za qd = true) : qcx.f 0 qk qz inc lo hi seq qp qW qK qb qd = some (qhX qd) := by
 unfold qcx.f qcx.b
 rw [hl]; rfl
theorem QL.loop (qa : Nat) (qk qz inc lo hi seq qp qW qK qb : Int) (l : LR) (hl : l.length < 281474976710656) : ∀ (k i : Nat), i ≤ l.length → l.length - i < k → QL.l4 qa qk qz inc lo hi seq qp qW qK qb l k (l.length : Int) (i : Int) = some (qg4 (l.drop i)) := by
 intro k
 induction k with
 | zero => intro i h1 h2; omega
 | succ k ih =>
  intro i h1 h2
  rw [QL.l4]
  unfold QL.b4
  by_cases hi : i < l.length
  ·rw [if_pos (by simp; omega), Qh, List.getElem?_eq_getElem hi]
   dsimp only
   rw [List.drop_eq_getElem_cons hi, qV ((i : Int) + 1) (by omega) (by omega)]
   unfold qg4
   by_cases c1 : l[i].2.1 > 65535
   ·simp [c1]
   ·by_cases c2 : ((l[i].2.2.2.2.2.length : Nat) : Int) > 0
    ·rw [if_neg (by simpa using c1), if_pos (by simpa using c2), if_pos (by simp; right; simpa using c2)]
    ·rw [if_neg (by simpa using c1), if_neg (by simpa using c2), if_neg (by simp; exact ⟨by omega, by simpa using c2⟩)]
     exact ih (i + 1) (by omega) (by omega)
  ·rw [if_neg (by simp; omega), List.drop_of_length_le (by omega)]
   rfl
theorem QL.pure (qk qz inc lo hi seq qp qW qK qb : Int) (qd : LR) (hl : za qd = true) : QL.f (qd.length + 1) qk qz inc lo hi seq qp qW qK qb qd = some (qa2 qk qz inc lo hi seq qp qW qK qb qd) := by
 unfold QL.f QL.b qa2
 dsimp only
 have := QL.loop (qd.length + 1) qk qz inc lo hi seq qp qW qK qb qd ((QO qd).1 hl).1 (qd.length + 1) 0 (by omega) (by omega)
 rw [hl, if_pos rfl]
 cases q0 qk qz inc lo hi seq qp qW qK qb qd
 ·rfl
 ·by_cases h1 : qk = 9
  ·simp [h1]
  ·by_cases h2 : qK = 0
   ·subst h2
    have h1' : (qk == 9) = false := by simpa using h1
    simp only [h1', bne_self_eq_false, Bool.false_eq_true, if_false, Bool.or_self, Bool.not_true]
    exact this
   ·have h1' : (qk == 9) = false := by simpa using h1
    simp [h1', h2]
theorem qco.pure (id inc st lo hi : Int) (cut : Bool) (bag : LF) : qco.f 0 id inc st lo hi cut bag = some (qgi st lo hi cut) := by
 unfold qco.f qco.b qgi
 cases cut <;> rfl
theorem qbA (n v : Int) : z8 n v = true ↔ 1 ≤ n ∧ n ≤ 7 ∧ 0 ≤ v ∧ v < 256 ^ n.toNat := by
 unfold z8
 simp only [Bool.and_eq_true, decide_eq_true_eq]
theorem qpA (v m : Int) (h0 : 0 ≤ v) (hm : v < m) : Int.fdiv v m = 0 := by
 rw [Int.fdiv_eq_ediv_of_nonneg _ (by omega)]
 exact Int.ediv_eq_zero_of_lt h0 hm
theorem qrR (n : Int) (h1 : 1 ≤ n) (h7 : n ≤ 7) : ((2 : Int) ^ (Min.min (Int.toNat (IntKind.wrap .i64 ((8 : Int) * n))) (IntKind.bits .i64))) = 256 ^ n.toNat := by
 have : n = 1 ∨ n = 2 ∨ n = 3 ∨ n = 4 ∨ n = 5 ∨ n = 6 ∨ n = 7 := by omega
 rcases this with rfl | rfl | rfl | rfl | rfl | rfl | rfl <;> rfl
theorem qaM.pure (n v : Int) (hl : z8 n v = true) : qaM.f 0 n v = some true := by
 obtain ⟨h1, h2, h3, h4⟩ := (qbA n v).1 hl
 unfold qaM.f qaM.b
 rw [if_pos (by simpa using h1), if_pos (by simpa using h2), if_pos (by simpa using h3), if_neg (by rw [qV _ (by omega) (by omega)]; omega), qrR n h1 h2, qpA v _ h3 h4]
 rfl
theorem qa5 : SumDet qaa := zi fun _ _ _ _ => by
 unfold qaa
 simp only
 split
 ·first | rfl | (split <;> rfl)
 ·rfl
theorem qbJ : SumOk Tryz.prog 41 qaa := by
 have hE : EnvOk Tryz.prog qmz := env_ok (l := [(66, qfs)]) th_ok qX ⟨⟨qkC, qiZ⟩, trivial⟩ _
 refine sum_ok hE Tryz.func41 rfl (by kernel_rfl) qaa [.raw] qbE.k ?_
 intro R avs ql κ r h
 unfold qaa at h
 simp only at h
 split at h
 ·rename_i k p
  refine ⟨0, _, _, _, (qbE.eq (0) k p).trans (qbE.pure k p), ?_, h⟩
  intro rs ros hk
  unfold qbE.k at hk
  split at hk
  ·first | (cases hk; exact ⟨rfl, rfl⟩) | (rw [← Option.some.inj hk]; exact ⟨rfl, rfl⟩)
  ·cases hk
 ·cases h
theorem qmQ : SumDet qeo := zi fun _ _ _ _ => by
 unfold qeo
 simp only
 split
 ·first | rfl | (split <;> rfl)
 ·rfl
theorem qn1 : SumOk Tryz.prog 110 qeo := by
 have hE : EnvOk Tryz.prog qkr := env_ok (l := [(41, qaa), (109, qb3)]) th_ok qX ⟨⟨qbJ, qa5⟩, ⟨qiu, qhE⟩, trivial⟩ _
 refine sum_ok hE Tryz.func110 rfl (by kernel_rfl) qeo [.raw] qao.k ?_
 intro R avs ql κ r h
 unfold qeo at h
 simp only at h
 split at h
 ·rename_i qG qu qQ mlo mhi qR qn qJ qx qI qt
  refine ⟨0, _, _, _, (qao.eq (0) qG qu qQ mlo mhi qR qn qJ qx qI qt).trans (qao.pure qG qu qQ mlo mhi qR qn qJ qx qI qt), ?_, h⟩
  intro rs ros hk
  unfold qao.k at hk
  split at hk
  ·first | (cases hk; exact ⟨rfl, rfl⟩) | (rw [← Option.some.inj hk]; exact ⟨rfl, rfl⟩)
  ·cases hk
 ·cases h
theorem qnR : SumDet qfj := zi fun _ _ _ _ => by
 unfold qfj
 simp only
 split
 ·first | rfl | (split <;> rfl)
 ·rfl
theorem qo0 : SumOk Tryz.prog 117 qfj := by
 have hE : EnvOk Tryz.prog qpN := env_ok (l := [(118, qfn)]) th_ok qX ⟨⟨qo3, qnX⟩, trivial⟩ _
 refine sum_ok hE Tryz.func117 rfl (by kernel_rfl) qfj [.raw] qd7.k ?_
 intro R avs ql κ r h
 unfold qfj at h
 simp only at h
 split at h
 ·rename_i rid zB rst rlo rhi zD zu qe
  split at h
  case isFalse => cases h
  rename_i hl
  refine ⟨0, _, _, _, (qd7.eq (0) rid zB rst rlo rhi zD zu qe).trans (qd7.pure rid zB rst rlo rhi zD zu qe hl), ?_, h⟩
  intro rs ros hk
  unfold qd7.k at hk
  split at hk
  ·first | (cases hk; exact ⟨rfl, rfl⟩) | (rw [← Option.some.inj hk]; exact ⟨rfl, rfl⟩)
  ·cases hk
 ·cases h
theorem qiv : SumDet qdt := zi fun _ _ _ _ => by
 unfold qdt
 simp only
 split
 ·first | rfl | (split <;> rfl)
 ·rfl
theorem qgH : SumOk Tryz.prog 116 qdt := by
 have hE : EnvOk Tryz.prog qkW := env_ok (l := [(117, qfj)]) th_ok qX ⟨⟨qo0, qnR⟩, trivial⟩ _
 refine sum_ok hE Tryz.func116 rfl (by kernel_rfl) qdt [.raw] QG.k ?_
 intro R avs ql κ r h
 unfold qdt at h
 simp only at h
 split at h
 ·rename_i l qe
  split at h
  case isFalse => cases h
  rename_i hl
  refine ⟨l.length + 1, _, _, _, (QG.eq (l.length + 1) l qe).trans (QG.pure l qe hl), ?_, h⟩
  intro rs ros hk
  unfold QG.k at hk
  split at hk
  ·first | (cases hk; exact ⟨rfl, rfl⟩) | (rw [← Option.some.inj hk]; exact ⟨rfl, rfl⟩)
  ·cases hk
 ·cases h
theorem qfk : SumDet qbf := zi fun _ _ _ _ => by
 unfold qbf
 simp only
 split
 ·first | rfl | (split <;> rfl)
 ·rfl
theorem qfW : SumOk Tryz.prog 96 qbf := by
 have hE : EnvOk Tryz.prog qmt := env_ok (l := [(116, qdt)]) th_ok qX ⟨⟨qgH, qiv⟩, trivial⟩ _
 refine sum_ok hE Tryz.func96 rfl (by kernel_rfl) qbf [.raw] qbC.k ?_
 intro R avs ql κ r h
 unfold qbf at h
 simp only at h
 split at h
 ·rename_i l
  split at h
  case isFalse => cases h
  rename_i hl
  refine ⟨0, _, _, _, (qbC.eq (0) l).trans (qbC.pure l hl), ?_, h⟩
  intro rs ros hk
  unfold qbC.k at hk
  split at hk
  ·first | (cases hk; exact ⟨rfl, rfl⟩) | (rw [← Option.some.inj hk]; exact ⟨rfl, rfl⟩)
  ·cases hk
 ·cases h
theorem qav : SumDet Q1 := zi fun _ _ _ _ => by
 unfold Q1
 simp only
 split
 ·first | rfl | (split <;> rfl)
 ·rfl
theorem qaY : SumOk Tryz.prog 76 Q1 := by
 have hE : EnvOk Tryz.prog qkp := env_ok (l := [(66, qfs), (33, qdm), (109, qb3), (41, qaa), (110, qeo), (96, qbf)]) th_ok qX ⟨⟨qkC, qiZ⟩, ⟨qgl, qfi⟩, ⟨qiu, qhE⟩, ⟨qbJ, qa5⟩, ⟨qn1, qmQ⟩, ⟨qfW, qfk⟩, trivial⟩ _
 refine sum_ok hE Tryz.func76 rfl (by kernel_rfl) Q1 [.raw] qan.k ?_
 intro R avs ql κ r h
 unfold Q1 at h
 simp only at h
 split at h
 ·rename_i qG qu qQ mlo mhi qR qn qJ qx qI qt
  split at h
  case isFalse => cases h
  rename_i hl
  refine ⟨0, _, _, _, (qan.eq (0) qG qu qQ mlo mhi qR qn qJ qx qI qt).trans (qan.pure qG qu qQ mlo mhi qR qn qJ qx qI qt hl), ?_, h⟩
  intro rs ros hk
  unfold qan.k at hk
  split at hk
  ·first | (cases hk; exact ⟨rfl, rfl⟩) | (rw [← Option.some.inj hk]; exact ⟨rfl, rfl⟩)
  ·cases hk
 ·cases h
theorem qn5 : SumDet qfw := zi fun _ _ _ _ => by
 unfold qfw
 simp only
 split
 ·first | rfl | (split <;> rfl)
 ·rfl
theorem qo7 : SumOk Tryz.prog 28 qfw := by
 have hE : EnvOk Tryz.prog qmD := env_ok (l := []) th_ok qX trivial _
 refine sum_ok hE Tryz.func28 rfl (by kernel_rfl) qfw [.raw] Zz.k ?_
 intro R avs ql κ r h
 unfold qfw at h
 simp only at h
 split at h
 ·rename_i b
  split at h
  case isFalse => cases h
  rename_i hl
  refine ⟨b.length + 1, _, _, _, (Zz.eq (b.length + 1) b).trans (Zz.pure b hl), ?_, h⟩
  intro rs ros hk
  unfold Zz.k at hk
  split at hk
  ·first | (cases hk; exact ⟨rfl, rfl⟩) | (rw [← Option.some.inj hk]; exact ⟨rfl, rfl⟩)
  ·cases hk
 ·cases h
theorem qn4 : SumDet qfv := zi fun _ _ _ _ => by
 unfold qfv
 simp only
 split
 ·first | rfl | (split <;> rfl)
 ·rfl
theorem qo6 : SumOk Tryz.prog 8 qfv := by
 have hE : EnvOk Tryz.prog qmC := env_ok (l := [(28, qfw)]) th_ok qX ⟨⟨qo7, qn5⟩, trivial⟩ _
 refine sum_ok hE Tryz.func8 rfl (by kernel_rfl) qfv [.raw] Zy.k ?_
 intro R avs ql κ r h
 unfold qfv at h
 simp only at h
 split at h
 ·rename_i l
  split at h
  case isFalse => cases h
  rename_i hl
  refine ⟨l.length + 1, _, _, _, (Zy.eq (l.length + 1) l).trans (Zy.pure l hl), ?_, h⟩
  intro rs ros hk
  unfold Zy.k at hk
  split at hk
  ·first | (cases hk; exact ⟨rfl, rfl⟩) | (rw [← Option.some.inj hk]; exact ⟨rfl, rfl⟩)
  ·cases hk
 ·cases h
theorem qmS : SumDet qeq := zi fun _ _ _ _ => by
 unfold qeq
 simp only
 split
 ·first | rfl | (split <;> rfl)
 ·rfl
theorem qn6 : SumOk Tryz.prog 7 qeq := by
 have hE : EnvOk Tryz.prog qnB := env_ok (l := [(8, qfv)]) th_ok qX ⟨⟨qo6, qn4⟩, trivial⟩ _
 refine sum_ok hE Tryz.func7 rfl (by kernel_rfl) qeq [.raw] qcx.k ?_
 intro R avs ql κ r h
 unfold qeq at h
 simp only at h
 split at h
 ·rename_i qG qu qQ mlo mhi qR qn qJ qx qI qt
  split at h
  case isFalse => cases h
  rename_i hl
  refine ⟨0, _, _, _, (qcx.eq (0) qG qu qQ mlo mhi qR qn qJ qx qI qt).trans (qcx.pure qG qu qQ mlo mhi qR qn qJ qx qI qt hl), ?_, h⟩
  intro rs ros hk
  unfold qcx.k at hk
  split at hk
  ·first | (cases hk; exact ⟨rfl, rfl⟩) | (rw [← Option.some.inj hk]; exact ⟨rfl, rfl⟩)
  ·cases hk
 ·cases h
theorem qiB : SumDet qcT := zi fun _ _ _ _ => by
 unfold qcT
 simp only
 split
 ·first | rfl | (split <;> rfl)
 ·rfl
theorem qjR : SumOk Tryz.prog 77 qcT := by
 have hE : EnvOk Tryz.prog qk1 := env_ok (l := [(76, Q1)]) th_ok qX ⟨⟨qaY, qav⟩, trivial⟩ _
 refine sum_ok hE Tryz.func77 rfl (by kernel_rfl) qcT [.raw] QL.k ?_
 intro R avs ql κ r h
 unfold qcT at h
 simp only at h
 split at h
 ·rename_i qG qu qQ mlo mhi qR qn qJ qx qI qt
  split at h
  case isFalse => cases h
  rename_i hl
  refine ⟨qt.length + 1, _, _, _, (QL.eq (qt.length + 1) qG qu qQ mlo mhi qR qn qJ qx qI qt).trans (QL.pure qG qu qQ mlo mhi qR qn qJ qx qI qt hl), ?_, h⟩
  intro rs ros hk
  unfold QL.k at hk
  split at hk
  ·first | (cases hk; exact ⟨rfl, rfl⟩) | (rw [← Option.some.inj hk]; exact ⟨rfl, rfl⟩)
  ·cases hk
 ·cases h
theorem qmM : SumDet qek := zi fun _ _ _ _ => by
 unfold qek
 simp only
 split
 ·first | rfl | (split <;> rfl)
 ·rfl
theorem qnQ : SumOk Tryz.prog 81 qek := by
 have hE : EnvOk Tryz.prog qns := env_ok (l := []) th_ok qX trivial _
 refine sum_ok hE Tryz.func81 rfl (by kernel_rfl) qek [.raw] qco.k ?_
 intro R avs ql κ r h
 unfold qek at h
 simp only at h
 split at h
 ·rename_i rid zB rst rlo rhi zD zu
  refine ⟨0, _, _, _, (qco.eq (0) rid zB rst rlo rhi zD zu).trans (qco.pure rid zB rst rlo rhi zD zu), ?_, h⟩
  intro rs ros hk
  unfold qco.k at hk
  split at hk
  ·first | (cases hk; exact ⟨rfl, rfl⟩) | (rw [← Option.some.inj hk]; exact ⟨rfl, rfl⟩)
  ·cases hk
 ·cases h
theorem qix : SumDet qcQ := zi fun _ _ _ _ => by
 unfold qcQ
 simp only
 split
 ·first | rfl | (split <;> rfl)
 ·rfl
theorem qjI : SumOk Tryz.prog 111 qcQ := by
 have hE : EnvOk Tryz.prog qlz := env_ok (l := []) th_ok qX trivial _
 refine sum_ok hE Tryz.func111 rfl (by kernel_rfl) qcQ [.raw] qaM.k ?_
 intro R avs ql κ r h
 unfold qcQ at h
 simp only at h
 split at h
 ·rename_i n v
  split at h
  case isFalse => cases h
  rename_i hl
  refine ⟨0, _, _, _, (qaM.eq (0) n v).trans (qaM.pure n v hl), ?_, h⟩
  intro rs ros hk
  unfold qaM.k at hk
  split at hk
  ·first | (cases hk; exact ⟨rfl, rfl⟩) | (rw [← Option.some.inj hk]; exact ⟨rfl, rfl⟩)
  ·cases hk
 ·cases h
def Zf (l : List Int) : Bool := decide (l.length < 1099511600000)
def qbT : Den.Sum := ⟨[], fun qH ql κ => match qH, ql with
 | [], [] => κ [.ptr 0 0] [.box [.nilsl, .d .bool false]]
 | _, _ => none⟩
def qcR : Den.Sum := ⟨[.raw, .raw, .raw], fun qH ql κ => match qH, ql with
 | [.ptr 0 0, .d (.int .i64) n, .d (.int .i64) v], [.box [.nilsl, .d .bool false]] => if z8 n v = true then κ [.ptr 0 0] [.box [.row 1, .d .bool false], .row 5 (.int .u8) (be n.toNat v) false] else none
 | [.ptr 0 0, .d (.int .i64) n, .d (.int .i64) v], [.box [.row 1, .d .bool false], .row 5 (.int .u8) l false] => if z8 n v = true ∧ Zf l = true then κ [.ptr 0 0] [.box [.row 2, .d .bool false], .gone, .row 5 (.int .u8) (l ++ be n.toNat v) false] else none
 | _, _ => none⟩
def qbW : Den.Sum := ⟨[.raw], fun qH ql κ => match qH, ql with
 | [.ptr 0 0], [.box [.row 1, .d .bool false], .row 5 (.int .u8) l false] => if Zf l = true then κ [.d (.sl (.int .u8)) l, .d .bool true] [.box [.row 1, .d .bool false], .row 5 (.int .u8) l false] else none
 | _, _ => none⟩
def qmv : Env := ⟨th, gam [], fun i => ⟨[], [], []⟩⟩
def qea.k (rs : List AV) (os : List Den.Obj) : Option Bool :=
 match rs, os with
 | [.ptr 0 0], [.box [.nilsl, .d .bool r0]] => some r0
 | _, _ => none
def qea.b (u : Unit) : Option Bool :=
 some (false)
def qea.f (qa : Nat) (u : Unit) : Option Bool := qea.b u
theorem qea.eq (qa : Nat) (u : Unit) : (denF qmv loopN qa Tryz.f78 [.raw] [] [] qea.k) = qea.f qa u := by
 kernel_rfl
def qmy : Env := ⟨th, gam [(111, qcQ)], fun i => if i = 7 then ⟨[0, 2, 7], [(1000, 5, (.int .u8))], [1001]⟩ else ⟨[], [], []⟩⟩
def ZG.k (rs : List AV) (os : List Den.Obj) : Option (Bool × (List Int)) :=
 match rs, os with
 | [.ptr 0 0], [.box [.row 1, .d .bool r0], .row 5 (.int .u8) r1 false] => some (r0, r1)
 | _, _ => none
def ZG.s7 (n v x0 : Int) (x1 : (List Int)) : St := ⟨[.ptr 0 0, .dead, .d tQi (v), dD, dD, dD, dD, .d tQi x0, dD, dD, dD, dD, dD, dD, dD, dD, dD, dD, dD, dD, dD, dD, dD, dD, dD, dD, dD, dD, dD, dD, dD, dD, dD, dD, dD, dD, dD, dD, dD, dD, dD, dD, dD, dD, dD, .dead], ofL [(0, .box [.row 64, .d .bool (false)]), (64, .row 5 (.int .u8) x1 false)], 1⟩
def ZG.p7 (qa : Nat) (n v : Int) (k : Nat) := fun x0 x1 => lp qmy qa Tryz.f79 [.raw] 1 ZG.k 7 [] k (ZG.s7 n v x0 x1)
def ZG.b7 (n v : Int) (A7 : Int → (List Int) → Option (Bool × (List Int))) (x0 : Int) (x1 : (List Int)) : Option (Bool × (List Int)) :=
 (if (decide (x0 ≥ (0 : Int))) then (if ((IntKind.wrap .i64 ((8 : Int) * x0)) < (0 : Int)) then none else (if ((((List.length x1) + (List.length ((IntKind.wrap .u8 (Int.fdiv v ((2 : Int) ^ (Min.min (Int.toNat (IntKind.wrap .i64 ((8 : Int) * x0))) (IntKind.bits .i64))))) :: []))) * (1 : Nat)) ≤ lim) then A7 (IntKind.wrap .i64 (x0 - (1 : Int))) (x1 ++ ((IntKind.wrap .u8 (Int.fdiv v ((2 : Int) ^ (Min.min (Int.toNat (IntKind.wrap .i64 ((8 : Int) * x0))) (IntKind.bits .i64))))) :: [])) else none)) else some (false, x1))
def ZG.l7 (qa : Nat) (n v : Int) : Nat → Int → (List Int) → Option (Bool × (List Int))
 | 0, _, _ => none
 | k + 1, x0, x1 => ZG.b7 n v (ZG.l7 qa n v k) x0 x1
def ZG.b (n v : Int) (E7 : Int → (List Int) → Option (Bool × (List Int))) : Option (Bool × (List Int)) :=
 (if (z8 n v) then E7 (IntKind.wrap .i64 (n - (1 : Int))) [] else none)
def ZG.f (qa : Nat) (n v : Int) : Option (Bool × (List Int)) := ZG.b n v (ZG.l7 qa n v qa)
theorem ZG.l7_eq (qa : Nat) (n v : Int) : ∀ k : Nat, ZG.p7 qa n v k = ZG.l7 qa n v k
 | 0 => by kernel_rfl
 | k + 1 => by
  refine Eq.trans (b := ZG.b7 n v (ZG.p7 qa n v k)) (by kernel_rfl) ?_
  rw [ZG.l7_eq qa n v k]
  kernel_rfl
theorem ZG.eq (qa : Nat) (n v : Int) : (denF qmy loopN qa Tryz.f79 [.raw] [.ptr 0 0, .d tQi n, .d tQi v] [.box [.nilsl, .d .bool false]] ZG.k) = ZG.f qa n v := by
 refine Eq.trans (b := ZG.b n v (ZG.p7 qa n v qa)) (by kernel_rfl) ?_
 rw [ZG.l7_eq qa n v qa]
 kernel_rfl
def qmx : Env := ⟨th, gam [(111, qcQ)], fun i => if i = 7 then ⟨[0, 2, 7], [(1000, 5, (.int .u8))], [1001]⟩ else ⟨[], [], []⟩⟩
def ZF.k (rs : List AV) (os : List Den.Obj) : Option (Bool × (List Int)) :=
 match rs, os with
 | [.ptr 0 0], [.box [.row 2, .d .bool r0], .gone, .row 5 (.int .u8) r1 false] => some (r0, r1)
 | _, _ => none
def ZF.s7 (n v : Int) (l : List Int) (x0 : Int) (x1 : (List Int)) : St := ⟨[.ptr 0 0, .dead, .d tQi (v), dD, dD, dD, dD, .d tQi x0, dD, dD, dD, dD, dD, dD, dD, dD, dD, dD, dD, dD, dD, dD, dD, dD, dD, dD, dD, dD, dD, dD, dD, dD, dD, dD, dD, dD, dD, dD, dD, dD, dD, dD, dD, dD, dD, .dead], ofL [(0, .box [.row 64, .d .bool (false)]), (1, .gone), (64, .row 5 (.int .u8) x1 false)], 2⟩
def ZF.p7 (qa : Nat) (n v : Int) (l : List Int) (k : Nat) := fun x0 x1 => lp qmx qa Tryz.f79 [.raw] 2 ZF.k 7 [] k (ZF.s7 n v l x0 x1)
def ZF.b7 (n v : Int) (l : List Int) (A7 : Int → (List Int) → Option (Bool × (List Int))) (x0 : Int) (x1 : (List Int)) : Option (Bool × (List Int)) :=
 (if (decide (x0 ≥ (0 : Int))) then (if ((IntKind.wrap .i64 ((8 : Int) * x0)) < (0 : Int)) then none else (if ((((List.length x1) + (List.length ((IntKind.wrap .u8 (Int.fdiv v ((2 : Int) ^ (Min.min (Int.toNat (IntKind.wrap .i64 ((8 : Int) * x0))) (IntKind.bits .i64))))) :: []))) * (1 : Nat)) ≤ lim) then A7 (IntKind.wrap .i64 (x0 - (1 : Int))) (x1 ++ ((IntKind.wrap .u8 (Int.fdiv v ((2 : Int) ^ (Min.min (Int.toNat (IntKind.wrap .i64 ((8 : Int) * x0))) (IntKind.bits .i64))))) :: [])) else none)) else some (false, x1))
def ZF.l7 (qa : Nat) (n v : Int) (l : List Int) : Nat → Int → (List Int) → Option (Bool × (List Int))
 | 0, _, _ => none
 | k + 1, x0, x1 => ZF.b7 n v l (ZF.l7 qa n v l k) x0 x1
def ZF.b (n v : Int) (l : List Int) (E7 : Int → (List Int) → Option (Bool × (List Int))) : Option (Bool × (List Int)) :=
 (if (z8 n v) then E7 (IntKind.wrap .i64 (n - (1 : Int))) l else none)
def ZF.f (qa : Nat) (n v : Int) (l : List Int) : Option (Bool × (List Int)) := ZF.b n v l (ZF.l7 qa n v l qa)
theorem ZF.l7_eq (qa : Nat) (n v : Int) (l : List Int) : ∀ k : Nat, ZF.p7 qa n v l k = ZF.l7 qa n v l k
 | 0 => by kernel_rfl
 | k + 1 => by
  refine Eq.trans (b := ZF.b7 n v l (ZF.p7 qa n v l k)) (by kernel_rfl) ?_
  rw [ZF.l7_eq qa n v l k]
  kernel_rfl
theorem ZF.eq (qa : Nat) (n v : Int) (l : List Int) : (denF qmx loopN qa Tryz.f79 [.raw] [.ptr 0 0, .d tQi n, .d tQi v] [.box [.row 1, .d .bool false], .row 5 (.int .u8) l false] ZF.k) = ZF.f qa n v l := by
 refine Eq.trans (b := ZF.b n v l (ZF.p7 qa n v l qa)) (by kernel_rfl) ?_
 rw [ZF.l7_eq qa n v l qa]
 kernel_rfl
def qmw : Env := ⟨th, gam [], fun i => ⟨[], [], []⟩⟩
def qbD.k (rs : List AV) (os : List Den.Obj) : Option ((List Int) × Bool × Bool × (List Int)) :=
 match rs, os with
 | [.d (.sl (.int .u8)) r0, .d .bool r1], [.box [.row 1, .d .bool r2], .row 5 (.int .u8) r3 false] => some (r0, r1, r2, r3)
 | _, _ => none
def qbD.b (l : List Int) : Option ((List Int) × Bool × Bool × (List Int)) :=
 (if (((0 : Int) ≤ ((((List.length l)) : Nat) : Int)) ∧ ((((((List.length l)) : Nat) : Int) ≤ ((((List.length l)) : Nat) : Int)) ∧ (((((((List.length l)) : Nat) : Int) * ((((1 : Nat)) : Nat) : Int)) ≤ (1099511627776 : Int)) ∧ (((((List.length l)) : Nat) : Int) ≤ (1099511627776 : Int))))) then (if ((false = false) ∧ ((List.length l) ≤ (List.length (List.replicate (Int.toNat ((((List.length l)) : Nat) : Int)) (zeroI (Go.Den.Ty.int .u8)))))) then some ((l ++ (List.drop (List.length l) (List.replicate (Int.toNat ((((List.length l)) : Nat) : Int)) (zeroI (Go.Den.Ty.int .u8))))), true, false, l) else none) else none)
def qbD.f (qa : Nat) (l : List Int) : Option ((List Int) × Bool × Bool × (List Int)) := qbD.b l
theorem qbD.eq (qa : Nat) (l : List Int) : (denF qmw loopN qa Tryz.f82 [.dat (.sl (.int .u8)) false, .raw] [.ptr 0 0] [.box [.row 1, .d .bool false], .row 5 (.int .u8) l false] qbD.k) = qbD.f qa l := by
 kernel_rfl
theorem qkV : ∀ (n : Nat) (v : Int), be (n + 1) v = (v / 256 ^ n % 256) :: be n v
 | 0, v => by simp [be]
 | n + 1, v => by
  have ih := qkV n (v / 256)
  show be (n + 1) (v / 256) ++ [v % 256] = _
  rw [ih, Int.ediv_ediv_of_nonneg (by omega)]
  show ((v / (256 * 256 ^ n)) % 256 :: be n (v / 256)) ++ [v % 256] = (v / 256 ^ (n + 1) % 256) :: (be n (v / 256) ++ [v % 256])
  rw [Int.pow_succ, Int.mul_comm (256 ^ n) 256]
  rfl
theorem zG : ∀ (n : Nat) (v : Int), (be n v).length = n
 | 0, v => rfl
 | n + 1, v => by
  show (be n (v / 256) ++ [v % 256]).length = n + 1
  rw [List.length_append, zG n]; rfl
theorem qlL (x : Int) : IntKind.wrap .u8 x = x % 256 := by
 rw [IntKind.wrap_u8]
theorem qqK (n : Int) (h1 : 0 ≤ n) (h7 : n ≤ 6) : ((2 : Int) ^ (Min.min (Int.toNat (IntKind.wrap .i64 ((8 : Int) * n))) (IntKind.bits .i64))) = 256 ^ n.toNat := by
 have : n = 0 ∨ n = 1 ∨ n = 2 ∨ n = 3 ∨ n = 4 ∨ n = 5 ∨ n = 6 := by omega
 rcases this with rfl | rfl | rfl | rfl | rfl | rfl | rfl <;> rfl
theorem qby (l : List Int) : Zf l = true ↔ l.length < 1099511600000 := by unfold Zf; simp
theorem qpG (v : Int) (i : Nat) : IntKind.wrap .u8 (Int.fdiv v (256 ^ i)) = v / 256 ^ i % 256 := by
 rw [qlL, Int.fdiv_eq_ediv_of_nonneg _ (Int.pow_nonneg (by omega))]
theorem ZF.loop (qa : Nat) (n v : Int) (l0 : List Int) : ∀ (k i : Nat) (acc : List Int), i ≤ 7 → i < k → acc.length + i < 1099511620000 → ZF.l7 qa n v l0 k ((i : Int) - 1) acc = some (false, acc ++ be i v) := by
 intro k
 induction k with
 | zero => intro i acc h1 h2; omega
 | succ k ih =>
  intro i acc h1 h2 h3
  rw [ZF.l7]
  unfold ZF.b7
  cases i with
  | zero => rw [if_neg (by simp)]; simp [be]
  | succ i =>
   rw [show ((i + 1 : Nat) : Int) - 1 = (i : Int) from by omega]
   rw [if_pos (by simp), if_neg (by rw [qV _ (by omega) (by omega)]; omega), qqK (i : Int) (by omega) (by omega), Int.toNat_natCast, qpG, if_pos (by simp [lim]; omega), qV _ (by omega) (by omega), ih i _ (by omega) (by omega) (by simp; omega), qkV i v]
   simp
theorem ZF.pure (n v : Int) (l : List Int) (hf : z8 n v = true) (hr : Zf l = true) : ZF.f 9 n v l = some (false, l ++ be n.toNat v) := by
 obtain ⟨h1, h2, h3, h4⟩ := (qbA n v).1 hf
 have hr' := (qby l).1 hr
 unfold ZF.f ZF.b
 rw [hf, if_pos rfl, qV _ (by omega) (by omega)]
 have := ZF.loop 9 n v l 9 n.toNat l (by omega) (by omega) (by omega)
 rw [Int.toNat_of_nonneg (by omega)] at this
 exact this
theorem ZG.loop (qa : Nat) (n v : Int) : ∀ (k i : Nat) (acc : List Int), i ≤ 7 → i < k → acc.length + i < 1099511620000 → ZG.l7 qa n v k ((i : Int) - 1) acc = some (false, acc ++ be i v) := by
 intro k
 induction k with
 | zero => intro i acc h1 h2; omega
 | succ k ih =>
  intro i acc h1 h2 h3
  rw [ZG.l7]
  unfold ZG.b7
  cases i with
  | zero => rw [if_neg (by simp)]; simp [be]
  | succ i =>
   rw [show ((i + 1 : Nat) : Int) - 1 = (i : Int) from by omega]
   rw [if_pos (by simp), if_neg (by rw [qV _ (by omega) (by omega)]; omega), qqK (i : Int) (by omega) (by omega), Int.toNat_natCast, qpG, if_pos (by simp [lim]; omega), qV _ (by omega) (by omega), ih i _ (by omega) (by omega) (by simp; omega), qkV i v]
   simp
theorem ZG.pure (n v : Int) (hf : z8 n v = true) : ZG.f 9 n v = some (false, be n.toNat v) := by
 obtain ⟨h1, h2, h3, h4⟩ := (qbA n v).1 hf
 unfold ZG.f ZG.b
 rw [hf, if_pos rfl, qV _ (by omega) (by omega)]
 have := ZG.loop 9 n v 9 n.toNat [] (by omega) (by omega) (by simp; omega)
 rw [Int.toNat_of_nonneg (by omega), List.nil_append] at this
 exact this
theorem qbD.pure (l : List Int) (hr : Zf l = true) : qbD.f 0 l = some (l, true, false, l) := by
 have hr' := (qby l).1 hr
 unfold qbD.f qbD.b
 rw [if_pos (by refine ⟨by omega, by omega, by omega, by omega⟩), if_pos (by simp)]
 simp
theorem qfU : SumDet qbT := zi fun _ _ _ _ => by
 unfold qbT
 simp only
 split
 ·first | rfl | (split <;> rfl)
 ·rfl
theorem qgG : SumOk Tryz.prog 78 qbT := by
 have hE : EnvOk Tryz.prog qmv := env_ok (l := []) th_ok qX trivial _
 refine sum_ok hE Tryz.func78 rfl (by kernel_rfl) qbT [.raw] qea.k ?_
 intro R avs ql κ r h
 unfold qbT at h
 simp only at h
 split at h
 ·skip
  refine ⟨0, _, _, _, (qea.eq (0) ()).trans (rfl), ?_, h⟩
  intro rs ros hk
  unfold qea.k at hk
  split at hk
  ·first | (cases hk; exact ⟨rfl, rfl⟩) | (rw [← Option.some.inj hk]; exact ⟨rfl, rfl⟩)
  ·cases hk
 ·cases h
theorem qf0 : SumDet qbW := zi fun _ _ _ _ => by
 unfold qbW
 simp only
 split
 ·first | rfl | (split <;> rfl)
 ·rfl
theorem qgP : SumOk Tryz.prog 82 qbW := by
 have hE : EnvOk Tryz.prog qmw := env_ok (l := []) th_ok qX trivial _
 refine sum_ok hE Tryz.func82 rfl (by kernel_rfl) qbW [.dat (.sl (.int .u8)) false, .raw] qbD.k ?_
 intro R avs ql κ r h
 unfold qbW at h
 simp only at h
 split at h
 ·rename_i l
  split at h
  case isFalse => cases h
  rename_i hl
  refine ⟨0, _, _, _, (qbD.eq (0) l).trans (qbD.pure l hl), ?_, h⟩
  intro rs ros hk
  unfold qbD.k at hk
  split at hk
  ·first | (cases hk; exact ⟨rfl, rfl⟩) | (rw [← Option.some.inj hk]; exact ⟨rfl, rfl⟩)
  ·cases hk
 ·cases h
theorem qfM : SumDet qcR := zi fun _ _ _ _ => by
 unfold qcR
 simp only
 split
 ·split <;> rfl
 ·split <;> rfl
 ·rfl
theorem qgK : SumOk Tryz.prog 79 qcR := by
 have hN : EnvOk Tryz.prog qmy := env_ok (l := [(111, qcQ)]) th_ok qX ⟨⟨qjI, qix⟩, trivial⟩ _
 have hR : EnvOk Tryz.prog qmx := env_ok (l := [(111, qcQ)]) th_ok qX ⟨⟨qjI, qix⟩, trivial⟩ _
 refine sum_of hN (drawOk hN) Tryz.func79 rfl (by kernel_rfl) qcR [.raw] ?_
 intro R avs ql κ r h
 unfold qcR at h
 simp only at h
 split at h
 ·rename_i n v
  split at h
  case isFalse => cases h
  rename_i hl
  refine ⟨9, ?_⟩
  rw [denF_any hN.D ((ZG.eq 9 n v).trans (ZG.pure n v hl)) (out := [.ptr 0 0]) (os := [.box [.row 1, .d .bool false], .row 5 (.int .u8) (be n.toNat v) false]) (fun rs ros hk => by
   unfold ZG.k at hk
   split at hk
   ·have e := Option.some.inj hk; cases e; exact ⟨rfl, rfl⟩
   ·cases hk)]
  exact h
 ·rename_i n v l
  split at h
  case isFalse => cases h
  rename_i hl
  refine ⟨9, ?_⟩
  have := denF_any hR.D ((ZF.eq 9 n v l).trans (ZF.pure n v l hl.1 hl.2)) (out := [.ptr 0 0]) (os := [.box [.row 2, .d .bool false], .gone, .row 5 (.int .u8) (l ++ be n.toNat v) false]) (fun rs ros hk => by
   unfold ZF.k at hk
   split at hk
   ·have e := Option.some.inj hk; cases e; exact ⟨rfl, rfl⟩
   ·cases hk) κ
  exact this.trans h
 ·cases h
def qc6 (r : (Int × Int × Int × (Int × Int) × Bool × LF)) : Int := if r.2.2.2.2.1 then r.2.2.1 + 4 * r.2.2.2.1.1 + 16 * r.2.2.2.1.2 + 64 else r.2.2.1 + 4 * r.2.2.2.1.1 + 16 * r.2.2.2.1.2
def qdr (r : (Int × Int × Int × (Int × Int) × Bool × LF)) : List Int := be 2 r.1 ++ (be 2 r.2.1 ++ be 1 (qc6 r))
def qgZ (qk qz inc lo hi seq qp len : Int) : List Int := be 1 qk ++ (be 2 qz ++ (be 6 inc ++ (be 1 (lo * 16 + hi) ++ (be 2 seq ++ (be 2 qp ++ be 1 len)))))
def qcn (qk qz inc lo hi seq qp : Int) (qd : LR) : List Int := qgZ qk qz inc lo hi seq qp (qd.length : Int) ++ qd.flatMap qdr
def qd0 (qk qz inc lo hi seq qp qW qK qb : Int) (qd : LR) : List Int × Int :=
 if !q0 qk qz inc lo hi seq qp qW qK qb qd then ([], 1) else if !qa2 qk qz inc lo hi seq qp qW qK qb qd then ([], 14) else (qcn qk qz inc lo hi seq qp qd, 0)
def qgN : Den.Sum := ⟨[.dat (.pair tQi (.pair tQi (.pair tQi (.pair (.pair tQi tQi) (.pair tQi (.pair tQi (.pair tQi (.pair tQi (.pair tQi (.sl tQr)))))))))) true], fun qH ql κ => match qH, ql with
 | [.agg [.d (.int .i64) qG, .d (.int .i64) qu, .d (.int .i64) qQ, .d (.int .i64) mlo, .d (.int .i64) mhi, .d (.int .i64) qR, .d (.int .i64) qn, .d (.int .i64) qJ, .d (.int .i64) qx, .d (.int .i64) qI, .d (.sl (.pair (.int .i64) (.pair (.int .i64) (.pair (.int .i64) (.pair (.pair (.int .i64) (.int .i64)) (.pair .bool (.sl (.pair (.int .i64) (.sl (.int .u8)))))))))) qt]], [] => if za qt = true then κ [.d (.sl (.int .u8)) (qd0 qG qu qQ mlo mhi qR qn qJ qx qI qt).1, .d (.int .i64) (qd0 qG qu qQ mlo mhi qR qn qJ qx qI qt).2] [] else none
 | _, _ => none⟩
def qh7 : Env := ⟨th, gam [(76, Q1), (77, qcT), (78, qbT), (80, qaD), (81, qek), (79, qcR), (82, qbW)], fun i => if i = 15 then ⟨[4, 5, 50, 51, 52], [], []⟩ else ⟨[], [], []⟩⟩
def Qb.k (rs : List AV) (os : List Den.Obj) : Option ((List Int) × Int) :=
 match rs, os with
 | [.d (.sl (.int .u8)) r0, .d (.int .i64) r1], [] => some (r0, r1)
 | _, _ => none
def Qb.s15 (qG qu qQ mlo mhi qR qn qJ qx qI : Int) (qt : LR) (x0 x1 : Int) (x2 : (List Int)) : St := ⟨[dD, dD, dD, dD, .ptr 64 0, .fn (.func 79) [.ptr 64 0] [], dD, dD, dD, dD, dD, dD, dD, dD, dD, dD, dD, dD, dD, dD, dD, dD, dD, dD, dD, dD, dD, dD, dD, dD, dD, dD, dD, dD, dD, dD, dD, dD, dD, dD, dD, dD, dD, dD, dD, dD, dD, dD, dD, dD, .d (.sl tQr) (qt), .d tQi x0, .d tQi x1, dD, dD, dD, dD, dD, dD, dD, dD, dD, dD, dD, dD, dD, dD, dD, dD, dD, dD, dD, dD, dD, .dead], ofL [(64, .box [.row 65, .d .bool (false)]), (65, .row 5 (.int .u8) x2 false)], 0⟩
def Qb.p15 (qa : Nat) (qG qu qQ mlo mhi qR qn qJ qx qI : Int) (qt : LR) (k : Nat) := fun x0 x1 x2 => lp qh7 qa Tryz.f57 [.dat (.sl (.int .u8)) false, .raw] 0 Qb.k 15 [] k (Qb.s15 qG qu qQ mlo mhi qR qn qJ qx qI qt x0 x1 x2)
def Qb.b15 (qG qu qQ mlo mhi qR qn qJ qx qI : Int) (qt : LR) (A15 : Int → Int → (List Int) → Option ((List Int) × Int)) (x0 : Int) (x1 : Int) (x2 : (List Int)) : Option ((List Int) × Int) :=
 (if (decide (x1 < x0)) then (match (idx qt x1) with | none => none | some y3 => (if ((z8 (2 : Int) y3.1) ∧ (Zf x2)) then (if ((z8 (2 : Int) y3.2.1) ∧ (Zf (x2 ++ (be (Int.toNat (2 : Int)) y3.1)))) then (if ((z8 (1 : Int) (qgi y3.2.2.1 y3.2.2.2.1.1 y3.2.2.2.1.2 y3.2.2.2.2.1)) ∧ (Zf ((x2 ++ (be (Int.toNat (2 : Int)) y3.1)) ++ (be (Int.toNat (2 : Int)) y3.2.1)))) then A15 x0 (IntKind.wrap .i64 (x1 + (1 : Int))) (((x2 ++ (be (Int.toNat (2 : Int)) y3.1)) ++ (be (Int.toNat (2 : Int)) y3.2.1)) ++ (be (Int.toNat (1 : Int)) (qgi y3.2.2.1 y3.2.2.2.1.1 y3.2.2.2.1.2 y3.2.2.2.2.1))) else none) else none) else none)) else (if (Zf x2) then some (x2, (0 : Int)) else none))
def Qb.l15 (qa : Nat) (qG qu qQ mlo mhi qR qn qJ qx qI : Int) (qt : LR) : Nat → Int → Int → (List Int) → Option ((List Int) × Int)
 | 0, _, _, _ => none
 | k + 1, x0, x1, x2 => Qb.b15 qG qu qQ mlo mhi qR qn qJ qx qI qt (Qb.l15 qa qG qu qQ mlo mhi qR qn qJ qx qI qt k) x0 x1 x2
def Qb.b (qG qu qQ mlo mhi qR qn qJ qx qI : Int) (qt : LR) (E15 : Int → Int → (List Int) → Option ((List Int) × Int)) : Option ((List Int) × Int) :=
 (if (za qt) then (if (!(q0 qG qu qQ mlo mhi qR qn qJ qx qI qt)) then some ([], (1 : Int)) else (if (za qt) then (if (!(qa2 qG qu qQ mlo mhi qR qn qJ qx qI qt)) then some ([], (14 : Int)) else (if (z8 (1 : Int) qG) then (if ((z8 (2 : Int) qu) ∧ (Zf (be (Int.toNat (1 : Int)) qG))) then (if ((z8 (6 : Int) qQ) ∧ (Zf ((be (Int.toNat (1 : Int)) qG) ++ (be (Int.toNat (2 : Int)) qu)))) then (if ((z8 (1 : Int) (Qk mlo mhi)) ∧ (Zf (((be (Int.toNat (1 : Int)) qG) ++ (be (Int.toNat (2 : Int)) qu)) ++ (be (Int.toNat (6 : Int)) qQ)))) then (if ((z8 (2 : Int) qR) ∧ (Zf ((((be (Int.toNat (1 : Int)) qG) ++ (be (Int.toNat (2 : Int)) qu)) ++ (be (Int.toNat (6 : Int)) qQ)) ++ (be (Int.toNat (1 : Int)) (Qk mlo mhi))))) then (if ((z8 (2 : Int) qn) ∧ (Zf (((((be (Int.toNat (1 : Int)) qG) ++ (be (Int.toNat (2 : Int)) qu)) ++ (be (Int.toNat (6 : Int)) qQ)) ++ (be (Int.toNat (1 : Int)) (Qk mlo mhi))) ++ (be (Int.toNat (2 : Int)) qR)))) then (if ((z8 (1 : Int) ((((List.length qt)) : Nat) : Int)) ∧ (Zf ((((((be (Int.toNat (1 : Int)) qG) ++ (be (Int.toNat (2 : Int)) qu)) ++ (be (Int.toNat (6 : Int)) qQ)) ++ (be (Int.toNat (1 : Int)) (Qk mlo mhi))) ++ (be (Int.toNat (2 : Int)) qR)) ++ (be (Int.toNat (2 : Int)) qn)))) then E15 ((((List.length qt)) : Nat) : Int) (0 : Int) (((((((be (Int.toNat (1 : Int)) qG) ++ (be (Int.toNat (2 : Int)) qu)) ++ (be (Int.toNat (6 : Int)) qQ)) ++ (be (Int.toNat (1 : Int)) (Qk mlo mhi))) ++ (be (Int.toNat (2 : Int)) qR)) ++ (be (Int.toNat (2 : Int)) qn)) ++ (be (Int.toNat (1 : Int)) ((((List.length qt)) : Nat) : Int))) else none) else none) else none) else none) else none) else none) else none)) else none)) else none)
def Qb.f (qa : Nat) (qG qu qQ mlo mhi qR qn qJ qx qI : Int) (qt : LR) : Option ((List Int) × Int) := Qb.b qG qu qQ mlo mhi qR qn qJ qx qI qt (Qb.l15 qa qG qu qQ mlo mhi qR qn qJ qx qI qt qa)
theorem Qb.l15_eq (qa : Nat) (qG qu qQ mlo mhi qR qn qJ qx qI : Int) (qt : LR) : ∀ k : Nat, Qb.p15 qa qG qu qQ mlo mhi qR qn qJ qx qI qt k = Qb.l15 qa qG qu qQ mlo mhi qR qn qJ qx qI qt k
 | 0 => by kernel_rfl
 | k + 1 => by
  refine Eq.trans (b := Qb.b15 qG qu qQ mlo mhi qR qn qJ qx qI qt (Qb.p15 qa qG qu qQ mlo mhi qR qn qJ qx qI qt k)) (by kernel_rfl) ?_
  rw [Qb.l15_eq qa qG qu qQ mlo mhi qR qn qJ qx qI qt k]
  kernel_rfl
theorem Qb.eq (qa : Nat) (qG qu qQ mlo mhi qR qn qJ qx qI : Int) (qt : LR) : (denF qh7 loopN qa Tryz.f57 [.dat (.sl (.int .u8)) false, .raw] [.agg [.d tQi qG, .d tQi qu, .d tQi qQ, .d tQi mlo, .d tQi mhi, .d tQi qR, .d tQi qn, .d tQi qJ, .d tQi qx, .d tQi qI, .d (.sl tQr) qt]] [] Qb.k) = Qb.f qa qG qu qQ mlo mhi qR qn qJ qx qI qt := by
 refine Eq.trans (b := Qb.b qG qu qQ mlo mhi qR qn qJ qx qI qt (Qb.p15 qa qG qu qQ mlo mhi qR qn qJ qx qI qt qa)) (by kernel_rfl) ?_
 rw [Qb.l15_eq qa qG qu qQ mlo mhi qR qn qJ qx qI qt qa]
 kernel_rfl
theorem qqZ {k : Int} (h : ((ofF k).1.toList == (⟨#[]⟩ : ByteArray).toList) = false) : 1 ≤ k ∧ k ≤ 9 := by
 unfold ofF at h
 split at h
 ·simp at h
 ·rename_i hc
  simp only [Bool.or_eq_true, decide_eq_true_eq, not_or] at hc
  omega
theorem qiQ : ∀ (l : LR) (i qe : Int), (qdG l i qe).1 = i + (l.length : Int) → ∀ r ∈ l, zw r = true
 | [], _, _, _, r, hr => by simp at hr
 | x :: l, i, qe, h, r, hr => by
  unfold qdG at h
  split at h
  ·simp at h; omega
  ·rename_i hc
   simp only [Bool.or_eq_true, not_or, Bool.not_eq_true', Bool.not_eq_false] at hc
   rcases List.mem_cons.1 hr with rfl | hr
   ·exact hc.1
   ·exact qiQ l (i + 1) x.1 (by simp only [List.length_cons] at h; omega) r hr
theorem zE {r : Int × Int × Int × (Int × Int) × Bool × LF} (h : zw r = true) : 0 ≤ r.1 ∧ r.1 ≤ 4095 ∧ 0 ≤ r.2.1 ∧ r.2.1 ≤ 281474976710655 ∧ 0 ≤ r.2.2.1 ∧ r.2.2.1 ≤ 3 ∧ okS r.2.2.2.1.1 r.2.2.2.1.2 = true ∧ qbQ r.2.2.2.2.2 = true ∧ (r.2.2.2.2.1 = true → r.2.2.2.2.2 = []) := by
 unfold zw qez at h
 split at h
 ·cases h
 split at h
 ·cases h
 split at h
 ·cases h
 split at h
 ·cases h
 split at h
 ·cases h
 rename_i h1 h2 h3 h4 h5
 simp only [Bool.or_eq_true, decide_eq_true_eq, not_or, Bool.not_eq_true', Bool.not_eq_false] at h1 h2 h3 h4
 simp only [Bool.and_eq_true, decide_eq_true_eq, not_and] at h5
 refine ⟨by omega, by omega, by omega, by omega, by omega, by omega, h4.1, h4.2, fun hc => ?_⟩
 have := h5 hc
 exact List.eq_nil_of_length_eq_zero (by omega)
theorem qfe {had : Bool} {v hi : Int} (h : zU had v 0 hi = true) (h0 : 0 ≤ hi) : 0 ≤ v ∧ v ≤ hi := by
 unfold zU at h
 cases had
 ·simp at h; omega
 ·simp at h; exact h
theorem Qj {qk qz inc lo hi seq qp qW qK qb : Int} {qd : LR} (h : q0 qk qz inc lo hi seq qp qW qK qb qd = true) :
  1 ≤ qk ∧ qk ≤ 9 ∧ 0 ≤ qz ∧ qz ≤ 4095 ∧ 0 ≤ inc ∧ inc ≤ 281474976710655 ∧ okS lo hi = true ∧ 0 ≤ seq ∧ seq ≤ 65535 ∧ 0 ≤ qp ∧ qp ≤ 4095 ∧ qah qk qW qK qb = true ∧ qd.length ≤ 255 ∧ ∀ r ∈ qd, zw r = true := by
 unfold q0 at h
 have h1 : ((ofF qk).1.toList == (⟨#[]⟩ : ByteArray).toList || (decide (qz < 0) || (decide (qz > 4095) || (decide (inc < 0) || (decide (inc > 281474976710655) || !okS lo hi))))) = false := by
  cases hc : ((ofF qk).1.toList == (⟨#[]⟩ : ByteArray).toList || (decide (qz < 0) || (decide (qz > 4095) || (decide (inc < 0) || (decide (inc > 281474976710655) || !okS lo hi))))) with
  | false => rfl
  | true => rw [hc] at h; cases h
 rw [h1] at h
 have h2 : (!zU (qv qk 0) seq 0 65535 || (!zU (qv qk 1) qp (if qk == 3 then 1 else 0) (if qk == 3 then 3 else 4095) || !qah qk qW qK qb)) = false := by
  cases hc : (!zU (qv qk 0) seq 0 65535 || (!zU (qv qk 1) qp (if qk == 3 then 1 else 0) (if qk == 3 then 3 else 4095) || !qah qk qW qK qb)) with
  | false => rfl
  | true => rw [hc] at h; cases h
 rw [h2] at h
 simp only [Bool.false_eq_true, if_false] at h
 simp only [Bool.or_eq_false_iff, decide_eq_false_iff_not, Bool.not_eq_false'] at h1 h2
 obtain ⟨k1, k2, k3, k4, k5, k6⟩ := h1
 obtain ⟨m1, m2, m3⟩ := h2
 have hk := qqZ k1
 have hs := qfe m1 (by omega)
 have ht : 0 ≤ qp ∧ qp ≤ 4095 := by
  unfold zU at m2
  cases hh : qv qk 1
  ·rw [hh] at m2
   simp at m2; omega
  ·rw [hh] at m2
   by_cases h3 : qk = 3
   ·simp [h3] at m2; omega
   ·simp [h3] at m2; exact m2
 refine ⟨hk.1, hk.2, by omega, by omega, by omega, by omega, k6, hs.1, hs.2, ht.1, ht.2, m3, ?_⟩
 split at h
 ·have : qd = [] := List.eq_nil_of_length_eq_zero (by simpa using h)
  subst this
  simp
 ·simp only [Bool.and_eq_true, decide_eq_true_eq] at h
  refine ⟨by omega, ?_⟩
  have hs := h.2
  unfold Qs at hs
  exact qiQ qd 0 (-1) (by simpa using hs)
theorem qj6 {qk qW qb : Int} (h : qah qk qW 0 qb = true) : qW = 0 ∧ qb = 0 := by
 unfold qah at h
 split at h
 ·cases h
 split at h
 ·cases h
 rename_i h1 h2
 simp only [beq_self_eq_true, Bool.true_and, Bool.or_eq_true, not_or, bne_iff_ne, ne_eq, Decidable.not_not] at h2
 refine ⟨h2.1, ?_⟩
 simp only [Bool.or_eq_true, Bool.and_eq_true, beq_iff_eq, decide_eq_true_eq] at h
 rcases h with h | h
 ·exact h
 ·omega
theorem qdE (qk qz inc lo hi seq qp qW qK qb : Int) (qd : LR) : qa2 qk qz inc lo hi seq qp qW qK qb qd = qif qk qz inc lo hi seq qp qW qK qb qd := by
 unfold qa2 qif
 cases hv : q0 qk qz inc lo hi seq qp qW qK qb qd
 ·rfl
 ·by_cases he : qK = 0
  ·subst he
   obtain ⟨_, _, _, _, _, _, _, _, _, _, _, hl, _⟩ := Qj hv
   obtain ⟨rfl, rfl⟩ := qj6 hl
   simp
  ·by_cases h9 : qk = 9
   ·simp [h9]
   ·simp [he, h9]
theorem qls : ∀ (l : LR), qg4 l = true → ∀ r ∈ l, r.2.1 ≤ 65535 ∧ r.2.2.2.2.2 = []
 | [], _, r, hr => by simp at hr
 | x :: l, h, r, hr => by
  unfold qg4 at h
  split at h
  ·cases h
  ·rename_i hc
   simp only [Bool.or_eq_true, not_or, decide_eq_true_eq] at hc
   rcases List.mem_cons.1 hr with rfl | hr
   ·exact ⟨by omega, List.eq_nil_of_length_eq_zero (by omega)⟩
   ·exact qls l h r hr
theorem qdZ {qk qz inc lo hi seq qp qW qK qb : Int} {qd : LR} (h : qif qk qz inc lo hi seq qp qW qK qb qd = true) :
  q0 qk qz inc lo hi seq qp qW qK qb qd = true ∧ ∀ r ∈ qd, r.2.1 ≤ 65535 ∧ r.2.2.2.2.2 = [] := by
 unfold qif at h
 split at h
 ·cases h
 ·rename_i hc
  simp only [Bool.or_eq_true, not_or, Bool.not_eq_true', Bool.not_eq_false] at hc
  exact ⟨hc.1, qls qd h⟩
theorem qa8 {v : Int} (h0 : 0 ≤ v) (h1 : v < 256) : z8 1 v = true := (qbA 1 v).2 ⟨by omega, by omega, h0, by simpa using h1⟩
theorem qbM {v : Int} (h0 : 0 ≤ v) (h1 : v < 65536) : z8 2 v = true := (qbA 2 v).2 ⟨by omega, by omega, h0, by simpa using h1⟩
theorem qmn {v : Int} (h0 : 0 ≤ v) (h1 : v < 281474976710656) : z8 6 v = true := (qbA 6 v).2 ⟨by omega, by omega, h0, by simpa using h1⟩
theorem qet {lo hi : Int} (h : okS lo hi = true) : Qk lo hi = lo * 16 + hi := by
 have := (qag lo hi).1 h
 have h1 : lo = 1 ∨ lo = 2 ∨ lo = 3 := by omega
 have h2 : hi = 1 ∨ hi = 2 ∨ hi = 3 := by omega
 rcases h1 with rfl | rfl | rfl <;> rcases h2 with rfl | rfl | rfl <;> first | omega | rfl | kernel_rfl
theorem qlU {r : Int × Int × Int × (Int × Int) × Bool × LF} (h : zw r = true) : qgi r.2.2.1 r.2.2.2.1.1 r.2.2.2.1.2 r.2.2.2.2.1 = qc6 r ∧ 0 ≤ qc6 r ∧ qc6 r < 256 := by
 obtain ⟨id, inc, st, ⟨lo, hi⟩, cut, bag⟩ := r
 obtain ⟨_, _, _, _, h5, h6, h7, _, _⟩ := zE h
 have := (qag lo hi).1 h7
 dsimp only at h5 h6 h7 ⊢
 have h0 : st = 0 ∨ st = 1 ∨ st = 2 ∨ st = 3 := by omega
 have h1 : lo = 1 ∨ lo = 2 ∨ lo = 3 := by omega
 have h2 : hi = 1 ∨ hi = 2 ∨ hi = 3 := by omega
 refine ⟨?_, by unfold qc6; dsimp only; split <;> omega, by unfold qc6; dsimp only; split <;> omega⟩
 rcases h0 with rfl | rfl | rfl | rfl <;> rcases h1 with rfl | rfl | rfl <;> rcases h2 with rfl | rfl | rfl <;> cases cut <;> kernel_rfl
theorem n1 : Int.toNat (1 : Int) = 1 := rfl
theorem n2 : Int.toNat (2 : Int) = 2 := rfl
theorem n6 : Int.toNat (6 : Int) = 6 := rfl
theorem qbi {l : List Int} (h : l.length < 1099511600000) : Zf l = true := (qby l).2 h
theorem qiH (r : (Int × Int × Int × (Int × Int) × Bool × LF)) : (qdr r).length = 5 := by unfold qdr; simp [zG]
theorem Qb.loop (qa : Nat) (qk qz inc lo hi seq qp qW qK qb : Int) (qd : LR) (hr : ∀ r ∈ qd, zw r = true ∧ r.2.1 ≤ 65535) (hlen : qd.length ≤ 255) : ∀ (k i : Nat) (acc : List Int), i ≤ qd.length → qd.length - i < k → acc.length + 5 * (qd.length - i) < 2000 →
  Qb.l15 qa qk qz inc lo hi seq qp qW qK qb qd k (qd.length : Int) (i : Int) acc = some (acc ++ (qd.drop i).flatMap qdr, 0) := by
 intro k
 induction k with
 | zero => intro i acc h1 h2; omega
 | succ k ih =>
  intro i acc h1 h2 h3
  rw [Qb.l15]
  unfold Qb.b15
  by_cases hi' : i < qd.length
  ·rw [if_pos (by simp; omega), Qh, List.getElem?_eq_getElem hi']
   dsimp only
   rw [List.drop_eq_getElem_cons hi', List.flatMap_cons]
   obtain ⟨hok, hinc⟩ := hr qd[i] (List.getElem_mem hi')
   generalize qd[i] = r at hok hinc ⊢
   obtain ⟨f1, f2, f3, f4, f5, f6, f7, _, _⟩ := zE hok
   obtain ⟨s0, s1, s2⟩ := qlU hok
   have r1 : Zf acc = true := qbi (by omega)
   have r2 : Zf (acc ++ be 2 r.1) = true := qbi (by simp [zG]; omega)
   have r3 : Zf ((acc ++ be 2 r.1) ++ be 2 r.2.1) = true := qbi (by simp [zG]; omega)
   have hnext := ih (i + 1) (((acc ++ be 2 r.1) ++ be 2 r.2.1) ++ be 1 (qc6 r)) (by omega) (by omega) (by simp [zG]; omega)
   have hw : IntKind.wrap .i64 ((i : Int) + 1) = ((i + 1 : Nat) : Int) := by rw [qV _ (by omega) (by omega)]; omega
   rw [n1, n2, s0, if_pos ⟨qbM f1 (by omega), r1⟩, if_pos ⟨qbM f3 (by omega), r2⟩, if_pos ⟨qa8 s1 s2, r3⟩, hw, hnext]
   simp [qdr, List.append_assoc]
  ·rw [if_neg (by simp; omega), List.drop_of_length_le (by omega), if_pos (qbi (by omega))]
   simp
theorem Qb.pure (qk qz inc lo hi seq qp qW qK qb : Int) (qd : LR) (hl : za qd = true) :
  Qb.f (qd.length + 1) qk qz inc lo hi seq qp qW qK qb qd = some ((qd0 qk qz inc lo hi seq qp qW qK qb qd).1, (qd0 qk qz inc lo hi seq qp qW qK qb qd).2) := by
 unfold Qb.f Qb.b qd0
 rw [if_pos hl]
 cases hv0 : q0 qk qz inc lo hi seq qp qW qK qb qd
 ·rfl
 rw [if_neg (by simp), if_pos hl]
 cases hf : qa2 qk qz inc lo hi seq qp qW qK qb qd
 ·rfl
 have hf' := hf
 rw [qdE] at hf'
 obtain ⟨hv, hx⟩ := qdZ hf'
 obtain ⟨v1, v2, v3, v4, v5, v6, v7, v8, v9, v10, v11, _, v12, v13⟩ := Qj hv
 have v14 := (qag _ _).1 v7
 have hlp := Qb.loop (qd.length + 1) qk qz inc lo hi seq qp qW qK qb qd (fun r hr => ⟨v13 r hr, (hx r hr).1⟩) v12 (qd.length + 1) 0 (((((((be 1 qk) ++ be 2 qz) ++ be 6 inc) ++ be 1 (lo * 16 + hi)) ++ be 2 seq) ++ be 2 qp) ++ be 1 (qd.length : Int)) (by omega) (by omega) (by simp [zG]; omega)
 rw [show ((0 : Nat) : Int) = 0 from rfl] at hlp
 rw [if_neg (by simp), qet v7, n1, n2, n6]
 rw [if_pos (qa8 (by omega) (by omega)), if_pos ⟨qbM v3 (by omega), qbi (by simp [zG])⟩, if_pos ⟨qmn v5 (by omega), qbi (by simp [zG])⟩,
  if_pos ⟨qa8 (by omega) (by omega), qbi (by simp [zG])⟩, if_pos ⟨qbM v8 (by omega), qbi (by simp [zG])⟩, if_pos ⟨qbM v10 (by omega), qbi (by simp [zG])⟩, if_pos ⟨qa8 (by omega) (by omega), qbi (by simp [zG])⟩]
 rw [hlp]
 simp [qcn, qgZ, List.append_assoc]
theorem qo8 : SumDet qgN := zi fun _ _ _ _ => by
 unfold qgN
 simp only
 split
 ·first | rfl | (split <;> rfl)
 ·rfl
theorem qp5 : SumOk Tryz.prog 57 qgN := by
 have hE : EnvOk Tryz.prog qh7 := env_ok (l := [(76, Q1), (77, qcT), (78, qbT), (80, qaD), (81, qek), (79, qcR), (82, qbW)]) th_ok qX ⟨⟨qaY, qav⟩, ⟨qjR, qiB⟩, ⟨qgG, qfU⟩, ⟨qdx, qcU⟩, ⟨qnQ, qmM⟩, ⟨qgK, qfM⟩, ⟨qgP, qf0⟩, trivial⟩ _
 refine sum_ok hE Tryz.func57 rfl (by kernel_rfl) qgN [.dat (.sl (.int .u8)) false, .raw] Qb.k ?_
 intro R avs ql κ r h
 unfold qgN at h
 simp only at h
 split at h
 ·rename_i qG qu qQ mlo mhi qR qn qJ qx qI qt
  split at h
  case isFalse => cases h
  rename_i hl
  refine ⟨qt.length + 1, _, _, _, (Qb.eq (qt.length + 1) qG qu qQ mlo mhi qR qn qJ qx qI qt).trans (Qb.pure qG qu qQ mlo mhi qR qn qJ qx qI qt hl), ?_, h⟩
  intro rs ros hk
  unfold Qb.k at hk
  split at hk
  ·first | (cases hk; exact ⟨rfl, rfl⟩) | (rw [← Option.some.inj hk]; exact ⟨rfl, rfl⟩)
  ·cases hk
 ·cases h
theorem Tryz.own : ownKnob Tryz.prog.godebug = none := by kernel_rfl
theorem Tryz.laidOut : laidOutB Tryz.prog = true := by kernel_rfl
theorem Tryz.mapsRow : mapsRowed Tryz.prog = true := by kernel_rfl
theorem Tryz.slicesSize : slicesSized Tryz.prog = true := by kernel_rfl
abbrev qj7 : List (String × DataW Unit) := [("polyglot/crc.halves", Rows.laid_polyglot_crc_halves)]
theorem qnh : Tryz.prog.globalNamed "polyglot/crc.halves" = some 0 := by kernel_rfl
theorem qqv (os : Os) (qH : Array Value) : laidMetH Tryz.prog qj7 ((World.doorLaid Tryz.prog 400 os).forCall (fun _ _ => 0) ⟨#[], qH, []⟩).memory :=
 laidMetH_of_parts3 (fuel := 8) (laidMet_of_run' 8 (by kernel_rfl) (by kernel_rfl)) (by kernel_rfl) (by kernel_rfl)
theorem qpo {W : World} (h : laidMetH Tryz.prog qj7 W) : GlobIn W := by
 rw [MakeChecks.laidMetH_plain _ _ _ (by kernel_rfl)] at h
 have hT : Lib.TabIs Tryz.prog W "polyglot/crc.halves" .u32 halves := Lib.tabIs_of_head (k := .u32) (zs := halves) (rest := []) qnh (show (Tryz.prog.globals[0]?).map (·.type) = some 160 by kernel_rfl) Tryz.underlying160 Tryz.underlying99 (by kernel_rfl) (by kernel_rfl) h
 intro n k l hn j x hj
 unfold gtab at hn
 split at hn
 ·rename_i h0
  subst h0
  cases hn
  have hlt : j < halves.length := by
   rcases Nat.lt_or_ge j halves.length with h | h
   ·exact h
   ·rw [List.getElem?_eq_none h] at hj; cases hj
  have := hT.cell qnh j hlt
  rw [this]
  have e : halves.getD j 0 = x := by
   show (halves[j]?).getD 0 = x
   rw [hj]; rfl
  rw [e]
 ·cases hn
theorem qqp {b : LF} (h : Go.Den.Good (.sl (.pair tQi (.sl (.int .u8)))) b) : zo b = true := by
 obtain ⟨h1, h2⟩ := h
 refine (Z6 b).2 ⟨by have : reachBytes = 140737488351232 := rfl; omega, fun x hx => ?_⟩
 have := (h2 x hx).2.1
 have e : reachBytes = 140737488351232 := rfl
 omega
theorem qpu {l : LR} (h : Go.Den.Good (.sl tQr ) l) : za l = true := by
 obtain ⟨h1, h2⟩ := h
 refine (QO l).2 ⟨by have : reachBytes = 140737488351232 := rfl; omega, fun r hr => ?_⟩
 exact qqp (h2 r hr).2.2.2.2.2
theorem qov {l : List Int} (h : Go.Den.Good (.sl (.int .u8)) l) : ∀ c ∈ l, 0 ≤ c ∧ c ≤ 255 := by
 intro c hc
 have h1 := h.2 c hc
 have h2 : (Lit.int .u8 c).wf = true := h1
 simp [Lit.wf, IntKind.min, IntKind.max, IntKind.signed, IntKind.bits] at h2
 omega
def BIG : Nat := veil 1099511627776
theorem qaj : BIG = 1099511627776 := veil_eq _
def Qp : List (Int × Int) := [(1, 1), (1, 2), (1, 3), (2, 2), (2, 3), (3, 3)]
def zR : List (Int × Int) → Int → Int × Int × Bool
 | [], c => (0, 0, false)
 | s :: l, c => if (Qk s.1 s.2 == c) = true then (s.1, s.2, true) else zR l c
def inB (l : List Int) : Bool := Zf l && l.all fun c => decide (0 ≤ c) && decide (c ≤ 255)
def zq (l : List Int) (a : Int) : Bool := inB l && (decide (0 ≤ a) && decide (a ≤ (l.length : Int)))
def seg (l : List Int) (a n : Int) : List Int := (l.take (a + n).toNat).drop a.toNat
def zd (l : List Int) (n a : Int) (bad : Bool) : List Int × Bool × Int × Bool :=
 if bad then ([], false, a, true) else if decide (n < 0) || decide (n > (l.length : Int) - a) then ([], false, a, true) else (seg l a n, true, a + n, false)
def QY (p : List Int) : Int := p.foldl (fun v c => v * 256 + c) 0
def qy (l : List Int) (n a : Int) (bad : Bool) : Int × Int × Bool :=
 let n' := if decide (n < 1) || decide (n > 7) then -1 else n
 ((if (zd l n' a bad).2.1 then QY (zd l n' a bad).1 else 0), (zd l n' a bad).2.2.1, (zd l n' a bad).2.2.2)
def ZT (l : List Int) (a : Int) (bad : Bool) : Int := if bad then 0 else (l.length : Int) - a
def QN (l : List Int) (a : Int) (bad : Bool) : (Int × Int × Int × (Int × Int) × Bool × LF) × Int × Bool :=
 let r1 := qy l 2 a bad
 let r2 := qy l 2 r1.2.1 r1.2.2
 let r3 := qy l 1 r2.2.1 r2.2.2
 (((if decide (r3.1 > 127) then -1 else r1.1), r2.1, r3.1 % 4, (r3.1 / 4 % 4, r3.1 / 16 % 4), r3.1 / 64 % 2 == 1, []), r3.2.1, r3.2.2)
def qgQ : Den.Sum := ⟨[], fun qH ql κ => match qH, ql with
 | [], [] => κ [.row 0] [.row 23 (.pair (.int .i64) (.int .i64)) Qp false]
 | _, _ => none⟩
def qnS : Den.Sum := ⟨[.raw], fun qH ql κ => match qH, ql with
 | [.d (.int .i64) c], [] => κ [.agg [.d (.int .i64) (zR Qp c).1, .d (.int .i64) (zR Qp c).2.1], .d .bool (zR Qp c).2.2] []
 | _, _ => none⟩
def qaC : Den.Sum := ⟨[.dat (.sl (.int .u8)) false], fun qH ql κ => match qH, ql with
 | [.d (.sl (.int .u8)) l], [] => if inB l = true then κ [.ptr 0 0] [.box [.d (.sl (.int .u8)) l, .d (.int .i64) 0, .d .bool false]] else none
 | _, _ => none⟩
def qdN : Den.Sum := ⟨[.raw, .raw], fun qH ql κ => match qH, ql with
 | [.ptr 0 0, .d (.int .i64) n], [.box [.d (.sl (.int .u8)) l, .d (.int .i64) a, .d .bool bad]] => if zq l a = true then κ [.d (.sl (.int .u8)) (zd l n a bad).1, .d .bool (zd l n a bad).2.1] [.box [.d (.sl (.int .u8)) l, .d (.int .i64) (zd l n a bad).2.2.1, .d .bool (zd l n a bad).2.2.2]] else none
 | _, _ => none⟩
def qdO : Den.Sum := ⟨[.raw, .raw], fun qH ql κ => match qH, ql with
 | [.ptr 0 0, .d (.int .i64) n], [.box [.d (.sl (.int .u8)) l, .d (.int .i64) a, .d .bool bad]] => if zq l a = true then κ [.d (.int .i64) (qy l n a bad).1] [.box [.d (.sl (.int .u8)) l, .d (.int .i64) (qy l n a bad).2.1, .d .bool (qy l n a bad).2.2]] else none
 | _, _ => none⟩
def qaA : Den.Sum := ⟨[.raw], fun qH ql κ => match qH, ql with
 | [.ptr 0 0], [.box [.d (.sl (.int .u8)) l, .d (.int .i64) a, .d .bool bad]] => κ [.d .bool bad] [.box [.d (.sl (.int .u8)) l, .d (.int .i64) a, .d .bool bad]]
 | _, _ => none⟩
def qdQ : Den.Sum := ⟨[.raw], fun qH ql κ => match qH, ql with
 | [.ptr 0 0], [.box [.d (.sl (.int .u8)) l, .d (.int .i64) a, .d .bool bad]] => if zq l a = true then κ [.d (.int .i64) (ZT l a bad)] [.box [.d (.sl (.int .u8)) l, .d (.int .i64) a, .d .bool bad]] else none
 | _, _ => none⟩
def qcD : Den.Sum := ⟨[.raw], fun qH ql κ => match qH, ql with
 | [.ptr 0 0], [.box [.d (.sl (.int .u8)) l, .d (.int .i64) a, .d .bool bad]] => if zq l a = true then κ [.d .bool (!bad && (ZT l a bad == 0))] [.box [.d (.sl (.int .u8)) l, .d (.int .i64) a, .d .bool bad]] else none
 | _, _ => none⟩
def qn0 : Den.Sum := ⟨[.raw], fun qH ql κ => match qH, ql with
 | [.fn (.func 52) [.ptr 0 0] []], [.box [.d (.sl (.int .u8)) l, .d (.int .i64) a, .d .bool bad]] => if zq l a = true then κ [.agg [.d (.int .i64) (QN l a bad).1.1, .d (.int .i64) (QN l a bad).1.2.1, .d (.int .i64) (QN l a bad).1.2.2.1, .d (.int .i64) (QN l a bad).1.2.2.2.1.1, .d (.int .i64) (QN l a bad).1.2.2.2.1.2, .d .bool (QN l a bad).1.2.2.2.2.1, .d (.sl (.pair (.int .i64) (.sl (.int .u8)))) []]] [.box [.d (.sl (.int .u8)) l, .d (.int .i64) (QN l a bad).2.1, .d .bool (QN l a bad).2.2]] else none
 | _, _ => none⟩
def qkn : Env := ⟨th, gam [], fun i => if i = 3 then ⟨[1, 2], [(1, 23, (.pair tQi tQi))], []⟩ else if i = 6 then ⟨[1, 2, 3], [], []⟩ else ⟨[], [], []⟩⟩
def Qy.k (rs : List AV) (os : List Den.Obj) : Option (List (Int × Int)) :=
 match rs, os with
 | [.row 0], [.row 23 (.pair (.int .i64) (.int .i64)) r0 false] => some r0
 | _, _ => none
def Qy.s6 (u : Unit) (x2 x3 : Int) (x4 : (List (Int × Int))) : St := ⟨[.dead, .row 64, .d tQi x2, .d tQi x3, dD, dD, dD, dD, dD, dD, dD, dD, dD, dD, dD, dD, dD, dD, dD, .dead], ofL [(64, .row 23 (.pair tQi tQi) x4 false)], 0⟩
def Qy.p6 (qa : Nat) (u : Unit) (k3 k : Nat) := fun x2 x3 x4 => lp qkn qa Tryz.f112 [.own 23 (.pair tQi tQi)] 0 Qy.k 6 [k3] k (Qy.s6 u x2 x3 x4)
def Qy.b6 (u : Unit) (A3 : Int → (List (Int × Int)) → Option (List (Int × Int))) (A6 : Int → Int → (List (Int × Int)) → Option (List (Int × Int))) (x2 : Int) (x3 : Int) (x4 : (List (Int × Int))) : Option (List (Int × Int)) :=
 (if (decide (x3 ≤ (3 : Int))) then (if ((((List.length x4) + (List.length ((x2, x3) :: []))) * (16 : Nat)) ≤ lim) then A6 x2 (IntKind.wrap .i64 (x3 + (1 : Int))) (x4 ++ ((x2, x3) :: [])) else none) else A3 (IntKind.wrap .i64 (x2 + (1 : Int))) x4)
def Qy.l6 (qa : Nat) (u : Unit) (A3 : Int → (List (Int × Int)) → Option (List (Int × Int))) : Nat → Int → Int → (List (Int × Int)) → Option (List (Int × Int))
 | 0, _, _, _ => none
 | k + 1, x2, x3, x4 => Qy.b6 u A3 (Qy.l6 qa u A3 k) x2 x3 x4
def Qy.s3 (u : Unit) (x0 : Int) (x1 : (List (Int × Int))) : St := ⟨[.dead, .row 64, .d tQi x0, dD, dD, dD, dD, dD, dD, dD, dD, dD, dD, dD, dD, dD, dD, dD, dD, .dead], ofL [(64, .row 23 (.pair tQi tQi) x1 false)], 0⟩
def Qy.p3 (qa : Nat) (u : Unit) (k : Nat) := fun x0 x1 => lp qkn qa Tryz.f112 [.own 23 (.pair tQi tQi)] 0 Qy.k 3 [] k (Qy.s3 u x0 x1)
def Qy.b3 (u : Unit) (A3 : Int → (List (Int × Int)) → Option (List (Int × Int))) (E6 : Int → Int → (List (Int × Int)) → Option (List (Int × Int))) (x0 : Int) (x1 : (List (Int × Int))) : Option (List (Int × Int)) :=
 (if (decide (x0 ≤ (3 : Int))) then E6 x0 x0 x1 else some (x1))
def Qy.l3 (qa : Nat) (u : Unit) : Nat → Int → (List (Int × Int)) → Option (List (Int × Int))
 | 0, _, _ => none
 | k + 1, x0, x1 => Qy.b3 u (Qy.l3 qa u k) (Qy.l6 qa u (Qy.l3 qa u k) qa) x0 x1
def Qy.b (u : Unit) (E3 : Int → (List (Int × Int)) → Option (List (Int × Int))) : Option (List (Int × Int)) :=
 E3 (1 : Int) []
def Qy.f (qa : Nat) (u : Unit) : Option (List (Int × Int)) := Qy.b u (Qy.l3 qa u qa)
theorem Qy.l6_eq (qa : Nat) (u : Unit) (k3 : Nat) : ∀ k : Nat, Qy.p6 qa u k3 k = Qy.l6 qa u (Qy.p3 qa u k3) k
 | 0 => by kernel_rfl
 | k + 1 => by
  refine Eq.trans (b := Qy.b6 u (Qy.p3 qa u k3) (Qy.p6 qa u k3 k)) (by kernel_rfl) ?_
  rw [Qy.l6_eq qa u k3 k]
  kernel_rfl
theorem Qy.l3_eq (qa : Nat) (u : Unit) : ∀ k : Nat, Qy.p3 qa u k = Qy.l3 qa u k
 | 0 => by kernel_rfl
 | k + 1 => by
  refine Eq.trans (b := Qy.b3 u (Qy.p3 qa u k) (Qy.p6 qa u k qa)) (by kernel_rfl) ?_
  rw [Qy.l3_eq qa u k, Qy.l6_eq qa u k qa, Qy.l3_eq qa u k]
  kernel_rfl
theorem Qy.eq (qa : Nat) (u : Unit) : (denF qkn loopN qa Tryz.f112 [.own 23 (.pair tQi tQi)] [] [] Qy.k) = Qy.f qa u := by
 refine Eq.trans (b := Qy.b u (Qy.p3 qa u qa)) (by kernel_rfl) ?_
 rw [Qy.l3_eq qa u qa]
 kernel_rfl
def qoJ : Env := ⟨th, gam [(112, qgQ), (80, qaD)], fun i => if i = 2 then ⟨[0, 2, 6, 7, 8], [], []⟩ else ⟨[], [], []⟩⟩
def SOf.k (rs : List AV) (os : List Den.Obj) : Option (Int × Int × Bool) :=
 match rs, os with
 | [.agg [.d (.int .i64) r0, .d (.int .i64) r1], .d .bool r2], [] => some (r0, r1, r2)
 | _, _ => none
def SOf.s2 (c x0 x1 : Int) : St := ⟨[.d tQi (c), .dead, .ptr 64 0, dD, dD, dD, .row 65, .d tQi x0, .d tQi x1, dD, dD, dD, dD, dD, dD, dD, dD, dD, .dead], ofL [(64, .box [.d tQi (0), .d tQi (0)]), (65, .row 23 (.pair tQi tQi) (Qp) false)], 0⟩
def SOf.p2 (qa : Nat) (c : Int) (k : Nat) := fun x0 x1 => lp qoJ qa Tryz.f83 [.dat (.pair tQi tQi) true, .raw] 0 SOf.k 2 [] k (SOf.s2 c x0 x1)
def SOf.b2 (c : Int) (A2 : Int → Int → Option (Int × Int × Bool)) (x0 : Int) (x1 : Int) : Option (Int × Int × Bool) :=
 (if (decide (x1 < x0)) then (match (idx Qp x1) with | none => none | some y2 => (match (idx Qp x1) with | none => none | some y3 => (if ((Qk y3.1 y3.2) == c) then some (y3.1, y3.2, true) else A2 x0 (IntKind.wrap .i64 (x1 + (1 : Int)))))) else some (0, 0, false))
def SOf.l2 (qa : Nat) (c : Int) : Nat → Int → Int → Option (Int × Int × Bool)
 | 0, _, _ => none
 | k + 1, x0, x1 => SOf.b2 c (SOf.l2 qa c k) x0 x1
def SOf.b (c : Int) (E2 : Int → Int → Option (Int × Int × Bool)) : Option (Int × Int × Bool) :=
 E2 ((((List.length Qp)) : Nat) : Int) (0 : Int)
def SOf.f (qa : Nat) (c : Int) : Option (Int × Int × Bool) := SOf.b c (SOf.l2 qa c qa)
theorem SOf.l2_eq (qa : Nat) (c : Int) : ∀ k : Nat, SOf.p2 qa c k = SOf.l2 qa c k
 | 0 => by kernel_rfl
 | k + 1 => by
  refine Eq.trans (b := SOf.b2 c (SOf.p2 qa c k)) (by kernel_rfl) ?_
  rw [SOf.l2_eq qa c k]
  kernel_rfl
theorem SOf.eq (qa : Nat) (c : Int) : (denF qoJ loopN qa Tryz.f83 [.dat (.pair tQi tQi) true, .raw] [.d tQi c] [] SOf.k) = SOf.f qa c := by
 refine Eq.trans (b := SOf.b c (SOf.p2 qa c qa)) (by kernel_rfl) ?_
 rw [SOf.l2_eq qa c qa]
 kernel_rfl
def qnx : Env := ⟨th, gam [], fun i => ⟨[], [], []⟩⟩
def qct.k (rs : List AV) (os : List Den.Obj) : Option ((List Int) × Int × Bool) :=
 match rs, os with
 | [.ptr 0 0], [.box [.d (.sl (.int .u8)) r0, .d (.int .i64) r1, .d .bool r2]] => some (r0, r1, r2)
 | _, _ => none
def qct.b (l : List Int) : Option ((List Int) × Int × Bool) :=
 (if (((0 : Int) ≤ ((((List.length l)) : Nat) : Int)) ∧ ((((((List.length l)) : Nat) : Int) ≤ ((((List.length l)) : Nat) : Int)) ∧ (((((((List.length l)) : Nat) : Int) * ((((1 : Nat)) : Nat) : Int)) ≤ (1099511627776 : Int)) ∧ (((((List.length l)) : Nat) : Int) ≤ (1099511627776 : Int))))) then (if ((false = false) ∧ ((List.length l) ≤ (List.length (List.replicate (Int.toNat ((((List.length l)) : Nat) : Int)) (zeroI (Go.Den.Ty.int .u8)))))) then some ((l ++ (List.drop (List.length l) (List.replicate (Int.toNat ((((List.length l)) : Nat) : Int)) (zeroI (Go.Den.Ty.int .u8))))), 0, false) else none) else none)
def qct.f (qa : Nat) (l : List Int) : Option ((List Int) × Int × Bool) := qct.b l
theorem qct.eq (qa : Nat) (l : List Int) : (denF qnx loopN qa Tryz.f51 [.fz] [.d (.sl (.int .u8)) l] [] qct.k) = qct.f qa l := by
 kernel_rfl
def qnw : Env := ⟨th, gam [], fun i => ⟨[], [], []⟩⟩
def qcs.k (rs : List AV) (os : List Den.Obj) : Option ((List Int) × Bool × (List Int) × Int × Bool) :=
 match rs, os with
 | [.d (.sl (.int .u8)) r0, .d .bool r1], [.box [.d (.sl (.int .u8)) r2, .d (.int .i64) r3, .d .bool r4]] => some (r0, r1, r2, r3, r4)
 | _, _ => none
def qcs.b (n : Int) (l : List Int) (a : Int) (bad : Bool) : Option ((List Int) × Bool × (List Int) × Int × Bool) :=
 (if bad then some ([], false, l, a, bad) else (if (decide (n < (0 : Int))) then some ([], false, l, a, true) else (if (decide (n > (IntKind.wrap .i64 (((((List.length l)) : Nat) : Int) - a)))) then some ([], false, l, a, true) else (if (((0 : Int) ≤ a) ∧ ((a ≤ (IntKind.wrap .i64 (a + n))) ∧ ((IntKind.wrap .i64 (a + n)) ≤ ((((List.length l)) : Nat) : Int)))) then some ((List.drop (Int.toNat a) (List.take (Int.toNat (IntKind.wrap .i64 (a + n))) l)), true, l, (IntKind.wrap .i64 (a + n)), bad) else none))))
def qcs.f (qa : Nat) (n : Int) (l : List Int) (a : Int) (bad : Bool) : Option ((List Int) × Bool × (List Int) × Int × Bool) := qcs.b n l a bad
theorem qcs.eq (qa : Nat) (n : Int) (l : List Int) (a : Int) (bad : Bool) : (denF qnw loopN qa Tryz.f73 [.dat (.sl (.int .u8)) false, .raw] [.ptr 0 0, .d tQi n] [.box [.d (.sl (.int .u8)) l, .d tQi a, .d .bool bad]] qcs.k) = qcs.f qa n l a bad := by
 kernel_rfl
def qmu : Env := ⟨th, gam [(73, qdN)], fun i => if i = 8 then ⟨[7, 24, 25, 26], [], []⟩ else ⟨[], [], []⟩⟩
def Zx.k (rs : List AV) (os : List Den.Obj) : Option (Int × (List Int) × Int × Bool) :=
 match rs, os with
 | [.d (.int .i64) r0], [.box [.d (.sl (.int .u8)) r1, .d (.int .i64) r2, .d .bool r3]] => some (r0, r1, r2, r3)
 | _, _ => none
def Zx.s8 (n : Int) (l : List Int) (a : Int) (bad : Bool) (x0 : Int) (x1 : (List Int)) (x2 x3 x4 : Int) (x5 : Bool) : St := ⟨[dD, dD, dD, dD, dD, dD, dD, .d tQi x0, dD, dD, dD, dD, dD, dD, dD, dD, dD, dD, dD, dD, dD, dD, dD, dD, .d (.sl (.int .u8)) x1, .d tQi x2, .d tQi x3, dD, dD, dD, dD, dD, dD, dD, dD, dD, .dead], ofL [(0, .box [.d (.sl (.int .u8)) (l), .d tQi x4, .d .bool x5])], 1⟩
def Zx.p8 (qa : Nat) (n : Int) (l : List Int) (a : Int) (bad : Bool) (k : Nat) := fun x0 x1 x2 x3 x4 x5 => lp qmu qa Tryz.f52 [.raw] 1 Zx.k 8 [] k (Zx.s8 n l a bad x0 x1 x2 x3 x4 x5)
def Zx.b8 (n : Int) (l : List Int) (a : Int) (bad : Bool) (A8 : Int → (List Int) → Int → Int → Int → Bool → Option (Int × (List Int) × Int × Bool)) (x0 : Int) (x1 : (List Int)) (x2 : Int) (x3 : Int) (x4 : Int) (x5 : Bool) : Option (Int × (List Int) × Int × Bool) :=
 (if (decide (x3 < x2)) then (match (idx x1 x3) with | none => none | some y6 => A8 (bits BinOp.or .i64 (IntKind.wrap .i64 (x0 * ((2 : Int) ^ (Min.min (Int.toNat (8 : Int)) (IntKind.bits .i64))))) (IntKind.wrap .i64 y6)) x1 x2 (IntKind.wrap .i64 (x3 + (1 : Int))) x4 x5) else some (x0, l, x4, x5))
def Zx.l8 (qa : Nat) (n : Int) (l : List Int) (a : Int) (bad : Bool) : Nat → Int → (List Int) → Int → Int → Int → Bool → Option (Int × (List Int) × Int × Bool)
 | 0, _, _, _, _, _, _ => none
 | k + 1, x0, x1, x2, x3, x4, x5 => Zx.b8 n l a bad (Zx.l8 qa n l a bad k) x0 x1 x2 x3 x4 x5
def Zx.b (n : Int) (l : List Int) (a : Int) (bad : Bool) (E8 : Int → (List Int) → Int → Int → Int → Bool → Option (Int × (List Int) × Int × Bool)) : Option (Int × (List Int) × Int × Bool) :=
 (if (decide (n < (1 : Int))) then (if (zq l a) then (if (!(zd l (-(1 : Int)) a bad).2.1) then some ((0 : Int), l, (zd l (-(1 : Int)) a bad).2.2.1, (zd l (-(1 : Int)) a bad).2.2.2) else E8 (0 : Int) (zd l (-(1 : Int)) a bad).1 ((((List.length (zd l (-(1 : Int)) a bad).1)) : Nat) : Int) (0 : Int) (zd l (-(1 : Int)) a bad).2.2.1 (zd l (-(1 : Int)) a bad).2.2.2) else none) else (if (decide (n > (7 : Int))) then (if (zq l a) then (if (!(zd l (-(1 : Int)) a bad).2.1) then some ((0 : Int), l, (zd l (-(1 : Int)) a bad).2.2.1, (zd l (-(1 : Int)) a bad).2.2.2) else E8 (0 : Int) (zd l (-(1 : Int)) a bad).1 ((((List.length (zd l (-(1 : Int)) a bad).1)) : Nat) : Int) (0 : Int) (zd l (-(1 : Int)) a bad).2.2.1 (zd l (-(1 : Int)) a bad).2.2.2) else none) else (if (zq l a) then (if (!(zd l n a bad).2.1) then some ((0 : Int), l, (zd l n a bad).2.2.1, (zd l n a bad).2.2.2) else E8 (0 : Int) (zd l n a bad).1 ((((List.length (zd l n a bad).1)) : Nat) : Int) (0 : Int) (zd l n a bad).2.2.1 (zd l n a bad).2.2.2) else none)))
def Zx.f (qa : Nat) (n : Int) (l : List Int) (a : Int) (bad : Bool) : Option (Int × (List Int) × Int × Bool) := Zx.b n l a bad (Zx.l8 qa n l a bad qa)
theorem Zx.l8_eq (qa : Nat) (n : Int) (l : List Int) (a : Int) (bad : Bool) : ∀ k : Nat, Zx.p8 qa n l a bad k = Zx.l8 qa n l a bad k
 | 0 => by kernel_rfl
 | k + 1 => by
  refine Eq.trans (b := Zx.b8 n l a bad (Zx.p8 qa n l a bad k)) (by kernel_rfl) ?_
  rw [Zx.l8_eq qa n l a bad k]
  kernel_rfl
theorem Zx.eq (qa : Nat) (n : Int) (l : List Int) (a : Int) (bad : Bool) : (denF qmu loopN qa Tryz.f52 [.raw] [.ptr 0 0, .d tQi n] [.box [.d (.sl (.int .u8)) l, .d tQi a, .d .bool bad]] Zx.k) = Zx.f qa n l a bad := by
 refine Eq.trans (b := Zx.b n l a bad (Zx.p8 qa n l a bad qa)) (by kernel_rfl) ?_
 rw [Zx.l8_eq qa n l a bad qa]
 kernel_rfl
def qpP : Env := ⟨th, gam [], fun i => ⟨[], [], []⟩⟩
def qeS.k (rs : List AV) (os : List Den.Obj) : Option (Bool × (List Int) × Int × Bool) :=
 match rs, os with
 | [.d .bool r0], [.box [.d (.sl (.int .u8)) r1, .d (.int .i64) r2, .d .bool r3]] => some (r0, r1, r2, r3)
 | _, _ => none
def qeS.b (l : List Int) (a : Int) (bad : Bool) : Option (Bool × (List Int) × Int × Bool) :=
 some (bad, l, a, bad)
def qeS.f (qa : Nat) (l : List Int) (a : Int) (bad : Bool) : Option (Bool × (List Int) × Int × Bool) := qeS.b l a bad
theorem qeS.eq (qa : Nat) (l : List Int) (a : Int) (bad : Bool) : (denF qpP loopN qa Tryz.f84 [.raw] [.ptr 0 0] [.box [.d (.sl (.int .u8)) l, .d tQi a, .d .bool bad]] qeS.k) = qeS.f qa l a bad := by
 kernel_rfl
def qnu : Env := ⟨th, gam [(84, qaA)], fun i => ⟨[], [], []⟩⟩
def qcq.k (rs : List AV) (os : List Den.Obj) : Option (Int × (List Int) × Int × Bool) :=
 match rs, os with
 | [.d (.int .i64) r0], [.box [.d (.sl (.int .u8)) r1, .d (.int .i64) r2, .d .bool r3]] => some (r0, r1, r2, r3)
 | _, _ => none
def qcq.b (l : List Int) (a : Int) (bad : Bool) : Option (Int × (List Int) × Int × Bool) :=
 (if bad then some ((0 : Int), l, a, bad) else some ((IntKind.wrap .i64 (((((List.length l)) : Nat) : Int) - a)), l, a, bad))
def qcq.f (qa : Nat) (l : List Int) (a : Int) (bad : Bool) : Option (Int × (List Int) × Int × Bool) := qcq.b l a bad
theorem qcq.eq (qa : Nat) (l : List Int) (a : Int) (bad : Bool) : (denF qnu loopN qa Tryz.f113 [.raw] [.ptr 0 0] [.box [.d (.sl (.int .u8)) l, .d tQi a, .d .bool bad]] qcq.k) = qcq.f qa l a bad := by
 kernel_rfl
def qnv : Env := ⟨th, gam [(84, qaA), (113, qdQ)], fun i => ⟨[], [], []⟩⟩
def qcr.k (rs : List AV) (os : List Den.Obj) : Option (Bool × (List Int) × Int × Bool) :=
 match rs, os with
 | [.d .bool r0], [.box [.d (.sl (.int .u8)) r1, .d (.int .i64) r2, .d .bool r3]] => some (r0, r1, r2, r3)
 | _, _ => none
def qcr.b (l : List Int) (a : Int) (bad : Bool) : Option (Bool × (List Int) × Int × Bool) :=
 (if (!bad) then (if (zq l a) then some (((ZT l a bad) == (0 : Int)), l, a, bad) else none) else some (false, l, a, bad))
def qcr.f (qa : Nat) (l : List Int) (a : Int) (bad : Bool) : Option (Bool × (List Int) × Int × Bool) := qcr.b l a bad
theorem qcr.eq (qa : Nat) (l : List Int) (a : Int) (bad : Bool) : (denF qnv loopN qa Tryz.f86 [.raw] [.ptr 0 0] [.box [.d (.sl (.int .u8)) l, .d tQi a, .d .bool bad]] qcr.k) = qcr.f qa l a bad := by
 kernel_rfl
def qpQ : Env := ⟨th, gam [(52, qdO)], fun i => ⟨[], [], []⟩⟩
def qd9.k (rs : List AV) (os : List Den.Obj) : Option (Int × Int × Int × Int × Int × Bool × LF × (List Int) × Int × Bool) :=
 match rs, os with
 | [.agg [.d (.int .i64) r0, .d (.int .i64) r1, .d (.int .i64) r2, .d (.int .i64) r3, .d (.int .i64) r4, .d .bool r5, .d (.sl (.pair (.int .i64) (.sl (.int .u8)))) r6]], [.box [.d (.sl (.int .u8)) r7, .d (.int .i64) r8, .d .bool r9]] => some (r0, r1, r2, r3, r4, r5, r6, r7, r8, r9)
 | _, _ => none
def qd9.b (l : List Int) (a : Int) (bad : Bool) : Option (Int × Int × Int × Int × Int × Bool × LF × (List Int) × Int × Bool) :=
 (if (zq l a) then (if (zq l (qy l (2 : Int) a bad).2.1) then (if (zq l (qy l (2 : Int) (qy l (2 : Int) a bad).2.1 (qy l (2 : Int) a bad).2.2).2.1) then (if (decide ((qy l (1 : Int) (qy l (2 : Int) (qy l (2 : Int) a bad).2.1 (qy l (2 : Int) a bad).2.2).2.1 (qy l (2 : Int) (qy l (2 : Int) a bad).2.1 (qy l (2 : Int) a bad).2.2).2.2).1 > (127 : Int))) then some ((-(1 : Int)), (qy l (2 : Int) (qy l (2 : Int) a bad).2.1 (qy l (2 : Int) a bad).2.2).1, (bits BinOp.and .i64 (qy l (1 : Int) (qy l (2 : Int) (qy l (2 : Int) a bad).2.1 (qy l (2 : Int) a bad).2.2).2.1 (qy l (2 : Int) (qy l (2 : Int) a bad).2.1 (qy l (2 : Int) a bad).2.2).2.2).1 (3 : Int)), (bits BinOp.and .i64 (Int.fdiv (qy l (1 : Int) (qy l (2 : Int) (qy l (2 : Int) a bad).2.1 (qy l (2 : Int) a bad).2.2).2.1 (qy l (2 : Int) (qy l (2 : Int) a bad).2.1 (qy l (2 : Int) a bad).2.2).2.2).1 ((2 : Int) ^ (Min.min (Int.toNat (2 : Int)) (IntKind.bits .i64)))) (3 : Int)), (bits BinOp.and .i64 (Int.fdiv (qy l (1 : Int) (qy l (2 : Int) (qy l (2 : Int) a bad).2.1 (qy l (2 : Int) a bad).2.2).2.1 (qy l (2 : Int) (qy l (2 : Int) a bad).2.1 (qy l (2 : Int) a bad).2.2).2.2).1 ((2 : Int) ^ (Min.min (Int.toNat (4 : Int)) (IntKind.bits .i64)))) (3 : Int)), ((bits BinOp.and .i64 (qy l (1 : Int) (qy l (2 : Int) (qy l (2 : Int) a bad).2.1 (qy l (2 : Int) a bad).2.2).2.1 (qy l (2 : Int) (qy l (2 : Int) a bad).2.1 (qy l (2 : Int) a bad).2.2).2.2).1 (64 : Int)) != (0 : Int)), [], l, (qy l (1 : Int) (qy l (2 : Int) (qy l (2 : Int) a bad).2.1 (qy l (2 : Int) a bad).2.2).2.1 (qy l (2 : Int) (qy l (2 : Int) a bad).2.1 (qy l (2 : Int) a bad).2.2).2.2).2.1, (qy l (1 : Int) (qy l (2 : Int) (qy l (2 : Int) a bad).2.1 (qy l (2 : Int) a bad).2.2).2.1 (qy l (2 : Int) (qy l (2 : Int) a bad).2.1 (qy l (2 : Int) a bad).2.2).2.2).2.2) else some ((qy l (2 : Int) a bad).1, (qy l (2 : Int) (qy l (2 : Int) a bad).2.1 (qy l (2 : Int) a bad).2.2).1, (bits BinOp.and .i64 (qy l (1 : Int) (qy l (2 : Int) (qy l (2 : Int) a bad).2.1 (qy l (2 : Int) a bad).2.2).2.1 (qy l (2 : Int) (qy l (2 : Int) a bad).2.1 (qy l (2 : Int) a bad).2.2).2.2).1 (3 : Int)), (bits BinOp.and .i64 (Int.fdiv (qy l (1 : Int) (qy l (2 : Int) (qy l (2 : Int) a bad).2.1 (qy l (2 : Int) a bad).2.2).2.1 (qy l (2 : Int) (qy l (2 : Int) a bad).2.1 (qy l (2 : Int) a bad).2.2).2.2).1 ((2 : Int) ^ (Min.min (Int.toNat (2 : Int)) (IntKind.bits .i64)))) (3 : Int)), (bits BinOp.and .i64 (Int.fdiv (qy l (1 : Int) (qy l (2 : Int) (qy l (2 : Int) a bad).2.1 (qy l (2 : Int) a bad).2.2).2.1 (qy l (2 : Int) (qy l (2 : Int) a bad).2.1 (qy l (2 : Int) a bad).2.2).2.2).1 ((2 : Int) ^ (Min.min (Int.toNat (4 : Int)) (IntKind.bits .i64)))) (3 : Int)), ((bits BinOp.and .i64 (qy l (1 : Int) (qy l (2 : Int) (qy l (2 : Int) a bad).2.1 (qy l (2 : Int) a bad).2.2).2.1 (qy l (2 : Int) (qy l (2 : Int) a bad).2.1 (qy l (2 : Int) a bad).2.2).2.2).1 (64 : Int)) != (0 : Int)), [], l, (qy l (1 : Int) (qy l (2 : Int) (qy l (2 : Int) a bad).2.1 (qy l (2 : Int) a bad).2.2).2.1 (qy l (2 : Int) (qy l (2 : Int) a bad).2.1 (qy l (2 : Int) a bad).2.2).2.2).2.1, (qy l (1 : Int) (qy l (2 : Int) (qy l (2 : Int) a bad).2.1 (qy l (2 : Int) a bad).2.2).2.1 (qy l (2 : Int) (qy l (2 : Int) a bad).2.1 (qy l (2 : Int) a bad).2.2).2.2).2.2)) else none) else none) else none)
def qd9.f (qa : Nat) (l : List Int) (a : Int) (bad : Bool) : Option (Int × Int × Int × Int × Int × Bool × LF × (List Int) × Int × Bool) := qd9.b l a bad
theorem qd9.eq (qa : Nat) (l : List Int) (a : Int) (bad : Bool) : (denF qpQ loopN qa Tryz.f85 [.dat tQr true] [.fn (.func 52) [.ptr 0 0] []] [.box [.d (.sl (.int .u8)) l, .d tQi a, .d .bool bad]] qd9.k) = qd9.f qa l a bad := by
 kernel_rfl
theorem Qy.pure : Qy.f 9 () = some Qp := by kernel_rfl
theorem SOf.flat (c : Int) : SOf.f 9 c = (if (Qk 1 1 == c) = true then some (1, 1, true) else if (Qk 1 2 == c) = true then some (1, 2, true) else if (Qk 1 3 == c) = true then some (1, 3, true) else
 if (Qk 2 2 == c) = true then some (2, 2, true) else if (Qk 2 3 == c) = true then some (2, 3, true) else if (Qk 3 3 == c) = true then some (3, 3, true) else some (0, 0, false)) := by kernel_rfl
theorem SOf.pure (c : Int) : SOf.f 9 c = some ((zR Qp c).1, (zR Qp c).2.1, (zR Qp c).2.2) := by
 rw [SOf.flat]
 unfold Qp zR zR zR zR zR zR zR
 repeat' split
 all_goals rfl
theorem QP (l : List Int) : inB l = true ↔ l.length < 1099511600000 ∧ ∀ c ∈ l, 0 ≤ c ∧ c ≤ 255 := by
 unfold inB
 rw [Bool.and_eq_true, qby]
 simp [List.all_eq_true]
theorem zI (l : List Int) (a : Int) : zq l a = true ↔ inB l = true ∧ 0 ≤ a ∧ a ≤ (l.length : Int) := by
 unfold zq
 simp only [Bool.and_eq_true, decide_eq_true_eq]
theorem qct.pure (l : List Int) (hl : inB l = true) : qct.f 0 l = some (l, 0, false) := by
 have hr' := ((QP l).1 hl).1
 unfold qct.f qct.b
 rw [if_pos (by refine ⟨by omega, by omega, by omega, by omega⟩), if_pos (by simp)]
 simp
theorem qcs.pure (n : Int) (l : List Int) (a : Int) (bad : Bool) (hl : zq l a = true) : qcs.f 0 n l a bad = some ((zd l n a bad).1, (zd l n a bad).2.1, l, (zd l n a bad).2.2.1, (zd l n a bad).2.2.2) := by
 obtain ⟨h1, h2, h3⟩ := (zI l a).1 hl
 have h4 := ((QP l).1 h1).1
 unfold qcs.f qcs.b zd
 cases bad
 ·simp only [Bool.false_eq_true, if_false]
  by_cases c1 : n < 0
  ·simp [c1]
  ·rw [qV ((l.length : Int) - a) (by omega) (by omega)]
   by_cases c2 : n > (l.length : Int) - a
   ·simp [c1, c2]
   ·rw [qV (a + n) (by omega) (by omega)]
    rw [if_neg (by simpa using c1), if_neg (by simpa using c2), if_pos ⟨h2, by omega, by omega⟩, if_neg (by simp [c1]; omega)]
    rfl
 ·rfl
theorem qeS.pure (l : List Int) (a : Int) (bad : Bool) : qeS.f 0 l a bad = some (bad, l, a, bad) := rfl
theorem qcq.pure (l : List Int) (a : Int) (bad : Bool) (hl : zq l a = true) : qcq.f 0 l a bad = some (ZT l a bad, l, a, bad) := by
 obtain ⟨h1, h2, h3⟩ := (zI l a).1 hl
 have h4 := ((QP l).1 h1).1
 unfold qcq.f qcq.b ZT
 rw [qV _ (by omega) (by omega)]
 cases bad <;> rfl
theorem qcr.pure (l : List Int) (a : Int) (bad : Bool) (hl : zq l a = true) : qcr.f 0 l a bad = some (!bad && (ZT l a bad == 0), l, a, bad) := by
 unfold qcr.f qcr.b
 rw [hl]
 cases bad <;> rfl
theorem or8 (x c : Int) (h0 : 0 ≤ x) (h1 : x < 281474976710656) (c0 : 0 ≤ c) (c1 : c ≤ 255) : bits BinOp.or .i64 (IntKind.wrap .i64 (x * ((2 : Int) ^ (Min.min (Int.toNat (8 : Int)) (IntKind.bits .i64))))) (IntKind.wrap .i64 c) = x * 256 + c := by
 have hp : ((2 : Int) ^ (Min.min (Int.toNat (8 : Int)) (IntKind.bits .i64))) = 256 := rfl
 rw [hp, qV (x * 256) (by omega) (by omega), qV c (by omega) (by omega)]
 obtain ⟨X, rfl⟩ := Int.eq_ofNat_of_zero_le h0
 obtain ⟨C, rfl⟩ := Int.eq_ofNat_of_zero_le c0
 unfold bits
 dsimp only
 have e1 : ((X : Int) * 256) = ((X * 256 : Nat) : Int) := by omega
 rw [e1]
 have b64 : IntKind.bits .i64 = 64 := rfl
 have t1 : (BitVec.ofInt (IntKind.bits .i64) ((X * 256 : Nat) : Int)).toNat = X * 256 := by
  rw [b64, BitVec.ofInt_natCast, BitVec.toNat_ofNat, Nat.mod_eq_of_lt (by omega)]
 have t2 : (BitVec.ofInt (IntKind.bits .i64) (C : Int)).toNat = C := by
  rw [b64, BitVec.ofInt_natCast, BitVec.toNat_ofNat, Nat.mod_eq_of_lt (by omega)]
 rw [BitVec.toNat_or, t1, t2]
 have t3 : X * 256 ||| C = X * 256 + C := by
  have := Nat.shiftLeft_add_eq_or_of_lt (a := X) (b := C) (i := 8) (by omega)
  rw [Nat.shiftLeft_eq] at this
  exact this.symm
 rw [t3, qV _ (by omega) (by omega)]
 omega
theorem Zx.loop (qa : Nat) (n : Int) (l : List Int) (a0 : Int) (bad0 : Bool) (p : List Int) (hp : p.length ≤ 7) (hb : ∀ c ∈ p, 0 ≤ c ∧ c ≤ 255) (a : Int) (bad : Bool) : ∀ (k i : Nat) (v : Int), i ≤ p.length → p.length - i < k → 0 ≤ v → v < 256 ^ i →
  Zx.l8 qa n l a0 bad0 k v p (p.length : Int) (i : Int) a bad = some ((p.drop i).foldl (fun v c => v * 256 + c) v, l, a, bad) := by
 intro k
 induction k with
 | zero => intro i v h1 h2; omega
 | succ k ih =>
  intro i v h1 h2 h3 h4
  rw [Zx.l8]
  unfold Zx.b8
  by_cases hi : i < p.length
  ·rw [if_pos (by simp; omega), Qh, List.getElem?_eq_getElem hi]
   dsimp only
   obtain ⟨b1, b2⟩ := hb p[i] (List.getElem_mem hi)
   have hv : v < 281474976710656 := by
    have : i = 0 ∨ i = 1 ∨ i = 2 ∨ i = 3 ∨ i = 4 ∨ i = 5 ∨ i = 6 := by omega
    rcases this with rfl | rfl | rfl | rfl | rfl | rfl | rfl <;> simp at h4 <;> omega
   rw [or8 v _ h3 hv b1 b2, qV _ (by omega) (by omega), List.drop_eq_getElem_cons hi]
   rw [show ((i : Int) + 1) = ((i + 1 : Nat) : Int) from by omega]
   exact ih (i + 1) _ (by omega) (by omega) (by omega) (by rw [Int.pow_succ]; generalize (256 : Int) ^ i = M at h4 ⊢; omega)
  ·rw [if_neg (by simp; omega), List.drop_of_length_le (by omega)]
   rfl
theorem qeY (l : List Int) (a n : Int) (h2 : 0 ≤ a) (h0 : 0 ≤ n) (h3 : n ≤ (l.length : Int) - a) : (seg l a n).length = n.toNat := by
 unfold seg
 simp
 omega
theorem qkw {l : List Int} {a n c : Int} (h : c ∈ seg l a n) : c ∈ l := List.mem_of_mem_take (List.mem_of_mem_drop h)
theorem qhz (l : List Int) (a : Int) (bad : Bool) : zd l (-1) a bad = ([], false, a, true) := by
 unfold zd
 cases bad
 ·simp
 ·rfl
theorem Zx.pure (n : Int) (l : List Int) (a : Int) (bad : Bool) (hl : zq l a = true) : Zx.f 9 n l a bad = some ((qy l n a bad).1, l, (qy l n a bad).2.1, (qy l n a bad).2.2) := by
 obtain ⟨h1, h2, h3⟩ := (zI l a).1 hl
 obtain ⟨h4, h5⟩ := (QP l).1 h1
 unfold Zx.f Zx.b qy
 rw [hl, qhz]
 by_cases c1 : n < 1
 ·simp [c1, qhz]
 ·by_cases c2 : n > 7
  ·simp [c1, c2, qhz]
  ·simp only [c1, c2, decide_false, Bool.or_self, Bool.false_eq_true, if_false, if_true]
   cases hs : (zd l n a bad).2.1
   ·simp
   ·simp only [Bool.not_true, Bool.false_eq_true, if_false, if_true]
    have hp : (zd l n a bad).1 = seg l a n ∧ n ≤ (l.length : Int) - a := by
     unfold zd at hs ⊢
     split at hs
     ·cases hs
     ·split at hs
      ·cases hs
      ·rename_i k1 k2
       rw [if_neg k1, if_neg k2]
       simp only [Bool.or_eq_true, decide_eq_true_eq, not_or] at k2
       exact ⟨rfl, by omega⟩
    rw [hp.1]
    have := Zx.loop 9 n l a bad (seg l a n) (by rw [qeY l a n h2 (by omega) hp.2]; omega) (fun c hc => h5 c (qkw hc)) (zd l n a bad).2.2.1 (zd l n a bad).2.2.2 9 0 0 (by omega) (by rw [qeY l a n h2 (by omega) hp.2]; omega) (by omega) (by simp)
    exact this
theorem QA (l : List Int) (n a : Int) (bad : Bool) (hl : zq l a = true) : zq l (qy l n a bad).2.1 = true := by
 obtain ⟨h1, h2, h3⟩ := (zI l a).1 hl
 refine (zI _ _).2 ⟨h1, ?_⟩
 have key : ∀ m, 0 ≤ (zd l m a bad).2.2.1 ∧ (zd l m a bad).2.2.1 ≤ (l.length : Int) := by
  intro m
  unfold zd
  cases bad
  ·rw [if_neg (by simp)]
   split
   ·exact ⟨h2, h3⟩
   ·rename_i k2
    simp only [Bool.or_eq_true, decide_eq_true_eq, not_or] at k2
    dsimp only
    omega
  ·exact ⟨h2, h3⟩
 exact key _
theorem qe3 (l : List Int) (a : Int) (bad : Bool) (hl : zq l a = true) : 0 ≤ (qy l 1 a bad).1 ∧ (qy l 1 a bad).1 ≤ 255 := by
 obtain ⟨h1, h2, h3⟩ := (zI l a).1 hl
 obtain ⟨h4, h5⟩ := (QP l).1 h1
 unfold qy
 have hn : (if (decide ((1 : Int) < 1) || decide ((1 : Int) > 7)) = true then (-1 : Int) else 1) = 1 := by decide
 dsimp only
 rw [hn]
 split
 ·rename_i hs
  unfold zd at hs ⊢
  split at hs
  ·cases hs
  ·split at hs
   ·cases hs
   ·rename_i k1 k2
    rw [if_neg k1, if_neg k2]
    simp only [Bool.or_eq_true, decide_eq_true_eq, not_or] at k2
    have hlen := qeY l a 1 h2 (by omega) (by omega)
    have : ∃ c, seg l a 1 = [c] := by
     match hh : seg l a 1, hlen with
     | [c], _ => exact ⟨c, rfl⟩
    obtain ⟨c, hc⟩ := this
    have := h5 c (qkw (a := a) (n := 1) (by rw [hc]; simp))
    dsimp only
    rw [hc]
    simp [QY]
    omega
 ·omega
def qnn : Bool := (List.range 256).all fun v => bits BinOp.and .i64 (v : Int) 3 == (v : Int) % 4 && bits BinOp.and .i64 (Int.fdiv (v : Int) 4) 3 == (v : Int) / 4 % 4 && bits BinOp.and .i64 (Int.fdiv (v : Int) 16) 3 == (v : Int) / 16 % 4 && ((bits BinOp.and .i64 (v : Int) 64 != 0) == ((v : Int) / 64 % 2 == 1))
theorem qqA : qnn = true := by kernel_rfl
theorem qq8 (v : Int) (h0 : 0 ≤ v) (h1 : v ≤ 255) : bits BinOp.and .i64 v 3 = v % 4 ∧ bits BinOp.and .i64 (Int.fdiv v 4) 3 = v / 4 % 4 ∧ bits BinOp.and .i64 (Int.fdiv v 16) 3 = v / 16 % 4 ∧ (bits BinOp.and .i64 v 64 != 0) = (v / 64 % 2 == 1) := by
 have := qqA
 unfold qnn at this
 have h := List.all_eq_true.1 this v.toNat (List.mem_range.2 (by omega))
 rw [Int.toNat_of_nonneg h0] at h
 simp only [Bool.and_eq_true, beq_iff_eq] at h
 exact ⟨h.1.1.1, h.1.1.2, h.1.2, h.2⟩
theorem qd9.pure (l : List Int) (a : Int) (bad : Bool) (hl : zq l a = true) : qd9.f 0 l a bad = some ((QN l a bad).1.1, (QN l a bad).1.2.1, (QN l a bad).1.2.2.1, (QN l a bad).1.2.2.2.1.1, (QN l a bad).1.2.2.2.1.2, (QN l a bad).1.2.2.2.2.1, [], l, (QN l a bad).2.1, (QN l a bad).2.2) := by
 unfold qd9.f qd9.b QN
 have h2 := QA l 2 a bad hl
 have h3 := QA l 2 _ (qy l 2 a bad).2.2 h2
 have hb := qe3 l _ (qy l 2 (qy l 2 a bad).2.1 (qy l 2 a bad).2.2).2.2 h3
 rw [if_pos hl, if_pos h2, if_pos h3]
 obtain ⟨e1, e2, e3, e4⟩ := qq8 _ hb.1 hb.2
 have p1 : ((2 : Int) ^ (Min.min (Int.toNat (2 : Int)) (IntKind.bits .i64))) = 4 := rfl
 have p2 : ((2 : Int) ^ (Min.min (Int.toNat (4 : Int)) (IntKind.bits .i64))) = 16 := rfl
 rw [p1, p2, e1, e2, e3, e4]
 dsimp only
 split <;> rfl
theorem qpe : SumDet qgQ := zi fun _ _ _ _ => by
 unfold qgQ
 simp only
 split
 ·first | rfl | (split <;> rfl)
 ·rfl
theorem qp6 : SumOk Tryz.prog 112 qgQ := by
 have hE : EnvOk Tryz.prog qkn := env_ok (l := []) th_ok qX trivial _
 refine sum_ok hE Tryz.func112 rfl (by kernel_rfl) qgQ [.own 23 (.pair tQi tQi)] Qy.k ?_
 intro R avs ql κ r h
 unfold qgQ at h
 simp only at h
 split at h
 ·skip
  refine ⟨9, _, _, _, (Qy.eq (9) ()).trans (Qy.pure), ?_, h⟩
  intro rs ros hk
  unfold Qy.k at hk
  split at hk
  ·first | (cases hk; exact ⟨rfl, rfl⟩) | (rw [← Option.some.inj hk]; exact ⟨rfl, rfl⟩)
  ·cases hk
 ·cases h
theorem ql0 : SumOk Tryz.prog 83 qnS := by
 have hE : EnvOk Tryz.prog qoJ := env_ok (l := [(112, qgQ), (80, qaD)]) th_ok qX ⟨⟨qp6, qpe⟩, ⟨qdx, qcU⟩, trivial⟩ _
 refine sum_ok hE Tryz.func83 rfl (by kernel_rfl) qnS [.dat (.pair tQi tQi) true, .raw] SOf.k ?_
 intro R avs ql κ r h
 unfold qnS at h
 simp only at h
 split at h
 ·rename_i c
  refine ⟨9, _, _, _, (SOf.eq (9) c).trans (SOf.pure c), ?_, h⟩
  intro rs ros hk
  unfold SOf.k at hk
  split at hk
  ·first | (cases hk; exact ⟨rfl, rfl⟩) | (rw [← Option.some.inj hk]; exact ⟨rfl, rfl⟩)
  ·cases hk
 ·cases h
theorem qcP : SumDet qaC := zi fun _ _ _ _ => by
 unfold qaC
 simp only
 split
 ·first | rfl | (split <;> rfl)
 ·rfl
theorem qdu : SumOk Tryz.prog 51 qaC := by
 have hE : EnvOk Tryz.prog qnx := env_ok (l := []) th_ok qX trivial _
 refine sum_ok hE Tryz.func51 rfl (by kernel_rfl) qaC [.fz] qct.k ?_
 intro R avs ql κ r h
 unfold qaC at h
 simp only at h
 split at h
 ·rename_i l
  split at h
  case isFalse => cases h
  rename_i hl
  refine ⟨0, _, _, _, (qct.eq (0) l).trans (qct.pure l hl), ?_, h⟩
  intro rs ros hk
  unfold qct.k at hk
  split at hk
  ·first | (cases hk; exact ⟨rfl, rfl⟩) | (rw [← Option.some.inj hk]; exact ⟨rfl, rfl⟩)
  ·cases hk
 ·cases h
theorem qjD : SumDet qdN := zi fun _ _ _ _ => by
 unfold qdN
 simp only
 split
 ·first | rfl | (split <;> rfl)
 ·rfl
theorem qlb : SumOk Tryz.prog 73 qdN := by
 have hE : EnvOk Tryz.prog qnw := env_ok (l := []) th_ok qX trivial _
 refine sum_ok hE Tryz.func73 rfl (by kernel_rfl) qdN [.dat (.sl (.int .u8)) false, .raw] qcs.k ?_
 intro R avs ql κ r h
 unfold qdN at h
 simp only at h
 split at h
 ·rename_i n l a bad
  split at h
  case isFalse => cases h
  rename_i hl
  refine ⟨0, _, _, _, (qcs.eq (0) n l a bad).trans (qcs.pure n l a bad hl), ?_, h⟩
  intro rs ros hk
  unfold qcs.k at hk
  split at hk
  ·first | (cases hk; exact ⟨rfl, rfl⟩) | (rw [← Option.some.inj hk]; exact ⟨rfl, rfl⟩)
  ·cases hk
 ·cases h
theorem qjF : SumDet qdO := zi fun _ _ _ _ => by
 unfold qdO
 simp only
 split
 ·first | rfl | (split <;> rfl)
 ·rfl
theorem qfL : SumOk Tryz.prog 52 qdO := by
 have hE : EnvOk Tryz.prog qmu := env_ok (l := [(73, qdN)]) th_ok qX ⟨⟨qlb, qjD⟩, trivial⟩ _
 refine sum_ok hE Tryz.func52 rfl (by kernel_rfl) qdO [.raw] Zx.k ?_
 intro R avs ql κ r h
 unfold qdO at h
 simp only at h
 split at h
 ·rename_i n l a bad
  split at h
  case isFalse => cases h
  rename_i hl
  refine ⟨9, _, _, _, (Zx.eq (9) n l a bad).trans (Zx.pure n l a bad hl), ?_, h⟩
  intro rs ros hk
  unfold Zx.k at hk
  split at hk
  ·first | (cases hk; exact ⟨rfl, rfl⟩) | (rw [← Option.some.inj hk]; exact ⟨rfl, rfl⟩)
  ·cases hk
 ·cases h
theorem qb1 : SumDet qaA := zi fun _ _ _ _ => by
 unfold qaA
 simp only
 split
 ·first | rfl | (split <;> rfl)
 ·rfl
theorem qcF : SumOk Tryz.prog 84 qaA := by
 have hE : EnvOk Tryz.prog qpP := env_ok (l := []) th_ok qX trivial _
 refine sum_ok hE Tryz.func84 rfl (by kernel_rfl) qaA [.raw] qeS.k ?_
 intro R avs ql κ r h
 unfold qaA at h
 simp only at h
 split at h
 ·rename_i l a bad
  refine ⟨0, _, _, _, (qeS.eq (0) l a bad).trans (qeS.pure l a bad), ?_, h⟩
  intro rs ros hk
  unfold qeS.k at hk
  split at hk
  ·first | (cases hk; exact ⟨rfl, rfl⟩) | (rw [← Option.some.inj hk]; exact ⟨rfl, rfl⟩)
  ·cases hk
 ·cases h
theorem qjJ : SumDet qdQ := zi fun _ _ _ _ => by
 unfold qdQ
 simp only
 split
 ·first | rfl | (split <;> rfl)
 ·rfl
theorem qld : SumOk Tryz.prog 113 qdQ := by
 have hE : EnvOk Tryz.prog qnu := env_ok (l := [(84, qaA)]) th_ok qX ⟨⟨qcF, qb1⟩, trivial⟩ _
 refine sum_ok hE Tryz.func113 rfl (by kernel_rfl) qdQ [.raw] qcq.k ?_
 intro R avs ql κ r h
 unfold qdQ at h
 simp only at h
 split at h
 ·rename_i l a bad
  split at h
  case isFalse => cases h
  rename_i hl
  refine ⟨0, _, _, _, (qcq.eq (0) l a bad).trans (qcq.pure l a bad hl), ?_, h⟩
  intro rs ros hk
  unfold qcq.k at hk
  split at hk
  ·first | (cases hk; exact ⟨rfl, rfl⟩) | (rw [← Option.some.inj hk]; exact ⟨rfl, rfl⟩)
  ·cases hk
 ·cases h
theorem qgO : SumDet qcD := zi fun _ _ _ _ => by
 unfold qcD
 simp only
 split
 ·first | rfl | (split <;> rfl)
 ·rfl
theorem qhI : SumOk Tryz.prog 86 qcD := by
 have hE : EnvOk Tryz.prog qnv := env_ok (l := [(84, qaA), (113, qdQ)]) th_ok qX ⟨⟨qcF, qb1⟩, ⟨qld, qjJ⟩, trivial⟩ _
 refine sum_ok hE Tryz.func86 rfl (by kernel_rfl) qcD [.raw] qcr.k ?_
 intro R avs ql κ r h
 unfold qcD at h
 simp only at h
 split at h
 ·rename_i l a bad
  split at h
  case isFalse => cases h
  rename_i hl
  refine ⟨0, _, _, _, (qcr.eq (0) l a bad).trans (qcr.pure l a bad hl), ?_, h⟩
  intro rs ros hk
  unfold qcr.k at hk
  split at hk
  ·first | (cases hk; exact ⟨rfl, rfl⟩) | (rw [← Option.some.inj hk]; exact ⟨rfl, rfl⟩)
  ·cases hk
 ·cases h
theorem ql2 : SumOk Tryz.prog 85 qn0 := by
 have hE : EnvOk Tryz.prog qpQ := env_ok (l := [(52, qdO)]) th_ok qX ⟨⟨qfL, qjF⟩, trivial⟩ _
 refine sum_ok hE Tryz.func85 rfl (by kernel_rfl) qn0 [.dat tQr true] qd9.k ?_
 intro R avs ql κ r h
 unfold qn0 at h
 simp only at h
 split at h
 ·rename_i l a bad
  split at h
  case isFalse => cases h
  rename_i hl
  refine ⟨0, _, _, _, (qd9.eq (0) l a bad).trans (qd9.pure l a bad hl), ?_, h⟩
  intro rs ros hk
  unfold qd9.k at hk
  split at hk
  ·first | (cases hk; exact ⟨rfl, rfl⟩) | (rw [← Option.some.inj hk]; exact ⟨rfl, rfl⟩)
  ·cases hk
 ·cases h
def Zc : Den.Sum := ⟨[.raw, .raw], fun qH ql κ => match qH, ql with
 | [.ptr 0 0, .d (.int .i64) n], [.box [.d (.sl (.int .u8)) l, .d (.int .i64) a, .d .bool bad]] => if zq l a = true then (match veil (some (qy l n a bad)) with | none => none | some y => κ [.d (.int .i64) y.1] [.box [.d (.sl (.int .u8)) l, .d (.int .i64) y.2.1, .d .bool y.2.2]]) else none
 | _, _ => none⟩
def qgo : Den.Sum := ⟨[.raw], fun qH ql κ => match qH, ql with
 | [.fn (.func 52) [.ptr 0 0] []], [.box [.d (.sl (.int .u8)) l, .d (.int .i64) a, .d .bool bad]] => if zq l a = true then (match veil (some (QN l a bad)) with | none => none | some y => κ [.agg [.d (.int .i64) y.1.1, .d (.int .i64) y.1.2.1, .d (.int .i64) y.1.2.2.1, .d (.int .i64) y.1.2.2.2.1.1, .d (.int .i64) y.1.2.2.2.1.2, .d .bool y.1.2.2.2.2.1, .d (.sl (.pair (.int .i64) (.sl (.int .u8)))) []]] [.box [.d (.sl (.int .u8)) l, .d (.int .i64) y.2.1, .d .bool y.2.2]]) else none
 | _, _ => none⟩
def qc8 : Den.Sum := ⟨[.raw], fun qH ql κ => match qH, ql with
 | [.d (.int .i64) c], [] => match veil (some (zR Qp c)) with | none => none | some y => κ [.agg [.d (.int .i64) y.1, .d (.int .i64) y.2.1], .d .bool y.2.2] []
 | _, _ => none⟩
theorem qax : SumDet Zc := zi fun _ _ _ _ => by
 unfold Zc
 simp only [veil_eq]
 split
 ·first | rfl | (split <;> rfl)
 ·rfl
theorem qaZ : SumOk Tryz.prog 52 Zc := ⟨qfL.1, fun avs ql κ r hr => qfL.2 avs ql κ r (by
 unfold Zc at hr
 simp only [veil_eq] at hr
 split at hr
 ·exact hr
 ·cases hr)⟩
theorem qnZ : SumDet qgo := zi fun _ _ _ _ => by
 unfold qgo
 simp only [veil_eq]
 split
 ·first | rfl | (split <;> rfl)
 ·rfl
theorem qo4 : SumOk Tryz.prog 85 qgo := ⟨ql2.1, fun avs ql κ r hr => ql2.2 avs ql κ r (by
 unfold qgo at hr
 simp only [veil_eq] at hr
 split at hr
 ·exact hr
 ·cases hr)⟩
theorem qgJ : SumDet qc8 := zi fun _ _ _ _ => by
 unfold qc8
 simp only [veil_eq]
 split
 ·first | rfl | (split <;> rfl)
 ·rfl
theorem qhG : SumOk Tryz.prog 83 qc8 := ⟨ql0.1, fun avs ql κ r hr => ql0.2 avs ql κ r (by
 unfold qc8 at hr
 simp only [veil_eq] at hr
 split at hr
 ·exact hr
 ·cases hr)⟩
def qh9 : Env := ⟨th, gam [(51, qaC), (83, qc8), (85, qgo), (77, qcT), (52, Zc), (84, qaA), (86, qcD)], fun i => if i = 13 then ⟨[2, 4, 5, 6, 8, 9, 10], [(1394, 54, tQr)], []⟩ else ⟨[], [], []⟩⟩
def Qc.k (rs : List AV) (os : List Den.Obj) : Option (Int × Int × Int × Int × Int × Int × Int × Int × Int × Int × LR × Int) :=
 match rs, os with
 | [.agg [.d (.int .i64) r0, .d (.int .i64) r1, .d (.int .i64) r2, .d (.int .i64) r3, .d (.int .i64) r4, .d (.int .i64) r5, .d (.int .i64) r6, .d (.int .i64) r7, .d (.int .i64) r8, .d (.int .i64) r9, .d (.sl (.pair (.int .i64) (.pair (.int .i64) (.pair (.int .i64) (.pair (.pair (.int .i64) (.int .i64)) (.pair .bool (.sl (.pair (.int .i64) (.sl (.int .u8)))))))))) r10], .d (.int .i64) r11], [] => some (r0, r1, r2, r3, r4, r5, r6, r7, r8, r9, r10, r11)
 | _, _ => none
def Qc.s13 (l : List Int) (x8 : Bool) (x9 x10 x11 : Int) (x12 : Bool) (x13 x14 x15 x16 x17 x18 x19 : Int) (x20 : LR) : St := ⟨[.dead, .dead, .ptr 64 0, .dead, .ptr 65 0, .fn (.func 52) [.ptr 65 0] [], .ptr 66 0, .dead, .d .bool x8, .d tQi x9, .d tQi x10, dD, dD, dD, dD, dD, dD, dD, dD, dD, dD, dD, dD, dD, dD, dD, dD, dD, dD, dD, dD, dD, dD, dD, dD, dD, dD, dD, dD, dD, dD, dD, dD, dD, dD, dD, dD, dD, dD, dD, dD, dD, dD, dD, dD, dD, dD, dD, dD, dD, dD, dD, dD, dD, dD, dD, dD, dD, dD, dD, .dead], ofL [(64, .box [.d tQi (0), .d tQi (0), .d tQi (0), .d tQi (0), .d tQi (0), .d tQi (0), .d tQi (0), .d tQi (0), .d tQi (0), .d tQi (0), .nilsl]), (65, .box [.d (.sl (.int .u8)) (l), .d tQi x11, .d .bool x12]), (66, .box [.d tQi x13, .d tQi x14, .d tQi x15, .d tQi x16, .d tQi x17, .d tQi x18, .d tQi x19, .d tQi (0), .d tQi (0), .d tQi (0), .row 67]), (67, .row 54 tQr x20 false)], 0⟩
def Qc.p13 (qa : Nat) (l : List Int) (k : Nat) := fun x8 x9 x10 x11 x12 x13 x14 x15 x16 x17 x18 x19 x20 => lp qh9 qa Tryz.f59 [.dat (.pair tQi (.pair tQi (.pair tQi (.pair (.pair tQi tQi) (.pair tQi (.pair tQi (.pair tQi (.pair tQi (.pair tQi (.sl tQr)))))))))) true, .raw] 0 Qc.k 13 [] k (Qc.s13 l x8 x9 x10 x11 x12 x13 x14 x15 x16 x17 x18 x19 x20)
def Qc.b13 (l : List Int) (A13 : Bool → Int → Int → Int → Bool → Int → Int → Int → Int → Int → Int → Int → LR → Option (Int × Int × Int × Int × Int × Int × Int × Int × Int × Int × LR × Int)) (x8 : Bool) (x9 : Int) (x10 : Int) (x11 : Int) (x12 : Bool) (x13 : Int) (x14 : Int) (x15 : Int) (x16 : Int) (x17 : Int) (x18 : Int) (x19 : Int) (x20 : LR) : Option (Int × Int × Int × Int × Int × Int × Int × Int × Int × Int × LR × Int) :=
 (if (decide (x10 < x9)) then (if (!x12) then (if (zq l x11) then (match (veil (Option.some (QN l x11 x12))) with | none => none | some y21 => (if ((((List.length x20) + (List.length ((y21.1.1, (y21.1.2.1, (y21.1.2.2.1, ((y21.1.2.2.2.1.1, y21.1.2.2.2.1.2), (y21.1.2.2.2.2.1, ([] : LF)))))) :: ([] : LR)))) * (72 : Nat)) ≤ lim) then A13 x8 x9 (IntKind.wrap .i64 (x10 + (1 : Int))) y21.2.1 y21.2.2 x13 x14 x15 x16 x17 x18 x19 (x20 ++ ((y21.1.1, (y21.1.2.1, (y21.1.2.2.1, ((y21.1.2.2.2.1.1, y21.1.2.2.2.1.2), (y21.1.2.2.2.2.1, ([] : LF)))))) :: ([] : LR))) else none)) else none) else (if (!x8) then some (0, 0, 0, 0, 0, 0, 0, 0, 0, 0, ([] : LR), (4 : Int)) else (if (zq l x11) then (if (!((!x12) && ((ZT l x11 x12) == (0 : Int)))) then some (0, 0, 0, 0, 0, 0, 0, 0, 0, 0, ([] : LR), (4 : Int)) else (if (za x20) then (if (!(qa2 x13 x14 x15 x16 x17 x18 x19 0 0 0 x20)) then some (0, 0, 0, 0, 0, 0, 0, 0, 0, 0, ([] : LR), (4 : Int)) else some (x13, x14, x15, x16, x17, x18, x19, 0, 0, 0, x20, (0 : Int))) else none)) else none))) else (if (!x8) then some (0, 0, 0, 0, 0, 0, 0, 0, 0, 0, ([] : LR), (4 : Int)) else (if (zq l x11) then (if (!((!x12) && ((ZT l x11 x12) == (0 : Int)))) then some (0, 0, 0, 0, 0, 0, 0, 0, 0, 0, ([] : LR), (4 : Int)) else (if (za x20) then (if (!(qa2 x13 x14 x15 x16 x17 x18 x19 0 0 0 x20)) then some (0, 0, 0, 0, 0, 0, 0, 0, 0, 0, ([] : LR), (4 : Int)) else some (x13, x14, x15, x16, x17, x18, x19, 0, 0, 0, x20, (0 : Int))) else none)) else none)))
def Qc.l13 (qa : Nat) (l : List Int) : Nat → Bool → Int → Int → Int → Bool → Int → Int → Int → Int → Int → Int → Int → LR → Option (Int × Int × Int × Int × Int × Int × Int × Int × Int × Int × LR × Int)
 | 0, _, _, _, _, _, _, _, _, _, _, _, _, _ => none
 | k + 1, x8, x9, x10, x11, x12, x13, x14, x15, x16, x17, x18, x19, x20 => Qc.b13 l (Qc.l13 qa l k) x8 x9 x10 x11 x12 x13 x14 x15 x16 x17 x18 x19 x20
def Qc.b (l : List Int) (E13 : Bool → Int → Int → Int → Bool → Int → Int → Int → Int → Int → Int → Int → LR → Option (Int × Int × Int × Int × Int × Int × Int × Int × Int × Int × LR × Int)) : Option (Int × Int × Int × Int × Int × Int × Int × Int × Int × Int × LR × Int) :=
 (if (inB l) then (if (zq l 0) then (match (veil (Option.some (qy l (1 : Int) 0 false))) with | none => none | some y0 => (if (zq l y0.2.1) then (match (veil (Option.some (qy l (2 : Int) y0.2.1 y0.2.2))) with | none => none | some y1 => (if (zq l y1.2.1) then (match (veil (Option.some (qy l (6 : Int) y1.2.1 y1.2.2))) with | none => none | some y2 => (if (zq l y2.2.1) then (match (veil (Option.some (qy l (1 : Int) y2.2.1 y2.2.2))) with | none => none | some y3 => (match (veil (Option.some (zR Qp y3.1))) with | none => none | some y4 => (if (zq l y3.2.1) then (match (veil (Option.some (qy l (2 : Int) y3.2.1 y3.2.2))) with | none => none | some y5 => (if (zq l y5.2.1) then (match (veil (Option.some (qy l (2 : Int) y5.2.1 y5.2.2))) with | none => none | some y6 => (if (zq l y6.2.1) then (match (veil (Option.some (qy l (1 : Int) y6.2.1 y6.2.2))) with | none => none | some y7 => E13 y4.2.2 y7.1 (0 : Int) y7.2.1 y7.2.2 y0.1 y1.1 y2.1 y4.1 y4.2.1 y5.1 y6.1 ([] : LR)) else none)) else none)) else none))) else none)) else none)) else none)) else none) else none)
def Qc.f (qa : Nat) (l : List Int) : Option (Int × Int × Int × Int × Int × Int × Int × Int × Int × Int × LR × Int) := Qc.b l (Qc.l13 qa l qa)
theorem Qc.l13_eq (qa : Nat) (l : List Int) : ∀ k : Nat, Qc.p13 qa l k = Qc.l13 qa l k
 | 0 => by kernel_rfl
 | k + 1 => by
  refine Eq.trans (b := Qc.b13 l (Qc.p13 qa l k)) (by kernel_rfl) ?_
  rw [Qc.l13_eq qa l k]
  kernel_rfl
theorem Qc.eq (qa : Nat) (l : List Int) : (denF qh9 loopN qa Tryz.f59 [.dat (.pair tQi (.pair tQi (.pair tQi (.pair (.pair tQi tQi) (.pair tQi (.pair tQi (.pair tQi (.pair tQi (.pair tQi (.sl tQr)))))))))) true, .raw] [.d (.sl (.int .u8)) l] [] Qc.k) = Qc.f qa l := by
 refine Eq.trans (b := Qc.b l (Qc.p13 qa l qa)) (by kernel_rfl) ?_
 rw [Qc.l13_eq qa l qa]
 kernel_rfl
def ZE (l : List Int) : Nat → Int → Bool → LR × Int × Bool
 | 0, a, bad => ([], a, bad)
 | k + 1, a, bad => if bad then ([], a, bad) else ((QN l a bad).1 :: (ZE l k (QN l a bad).2.1 (QN l a bad).2.2).1, (ZE l k (QN l a bad).2.1 (QN l a bad).2.2).2)
def qhZ (ok : Bool) (l : List Int) (a : Int) (bad : Bool) (qk qz inc lo hi seq qp : Int) (qd : LR) : Int × Int × Int × Int × Int × Int × Int × LR × Int :=
 if ok && ((!bad && (ZT l a bad == 0)) && qa2 qk qz inc lo hi seq qp 0 0 0 qd) then (qk, qz, inc, lo, hi, seq, qp, qd, 0) else (0, 0, 0, 0, 0, 0, 0, [], 4)
def Ql (l : List Int) : Int × Int × Int × Int × Int × Int × Int × LR × Int :=
 let r1 := qy l 1 0 false
 let r2 := qy l 2 r1.2.1 r1.2.2
 let r3 := qy l 6 r2.2.1 r2.2.2
 let r4 := qy l 1 r3.2.1 r3.2.2
 let s := zR Qp r4.1
 let r5 := qy l 2 r4.2.1 r4.2.2
 let r6 := qy l 2 r5.2.1 r5.2.2
 let r7 := qy l 1 r6.2.1 r6.2.2
 let d := ZE l r7.1.toNat r7.2.1 r7.2.2
 qhZ s.2.2 l d.2.1 d.2.2 r1.1 r2.1 r3.1 s.1 s.2.1 r5.1 r6.1 d.1
theorem qne (l : List Int) (a : Int) (bad : Bool) (hl : zq l a = true) : zq l (QN l a bad).2.1 = true := by
 unfold QN
 exact QA l 1 _ _ (QA l 2 _ _ (QA l 2 a bad hl))
theorem qlu (l : List Int) : ∀ (k : Nat) (a : Int) (bad : Bool), (ZE l k a bad).1.length ≤ k
 | 0, a, bad => by simp [ZE]
 | k + 1, a, bad => by
  unfold ZE
  split
  ·simp
  ·have := qlu l k (QN l a bad).2.1 (QN l a bad).2.2
   simp; omega
theorem qki (l : List Int) : ∀ (k : Nat) (a : Int) (bad : Bool), ∀ r ∈ (ZE l k a bad).1, r.2.2.2.2.2 = []
 | 0, a, bad, r, hr => by simp [ZE] at hr
 | k + 1, a, bad, r, hr => by
  unfold ZE at hr
  split at hr
  ·simp at hr
  ·rcases List.mem_cons.1 hr with rfl | hr
   ·rfl
   ·exact qki l k _ _ r hr
theorem Qc.loop (qa : Nat) (l : List Int) (ok : Bool) (n : Int) (hn : n ≤ 255) (qk qz inc lo hi seq qp : Int) : ∀ (k j : Nat) (i a : Int) (bad : Bool) (acc : LR), j < k → 0 ≤ i → i + (j : Int) = n → zq l a = true → (acc.length : Int) ≤ i → (∀ r ∈ acc, r.2.2.2.2.2 = []) →
  Qc.l13 qa l k ok n i a bad qk qz inc lo hi seq qp acc = some (let e := qhZ ok l (ZE l j a bad).2.1 (ZE l j a bad).2.2 qk qz inc lo hi seq qp (acc ++ (ZE l j a bad).1); (e.1, e.2.1, e.2.2.1, e.2.2.2.1, e.2.2.2.2.1, e.2.2.2.2.2.1, e.2.2.2.2.2.2.1, 0, 0, 0, e.2.2.2.2.2.2.2.1, e.2.2.2.2.2.2.2.2)) := by
 have fin : ∀ (a : Int) (bad : Bool) (acc : LR), zq l a = true → acc.length ≤ 300 → (∀ r ∈ acc, r.2.2.2.2.2 = []) →
   (if (!ok) = true then some ((0 : Int), (0 : Int), (0 : Int), (0 : Int), (0 : Int), (0 : Int), (0 : Int), (0 : Int), (0 : Int), (0 : Int), ([] : LR), (4 : Int)) else (if zq l a = true then (if (!((!bad) && ((ZT l a bad) == (0 : Int)))) = true then some (0, 0, 0, 0, 0, 0, 0, 0, 0, 0, [], (4 : Int)) else (if za acc = true then (if (!(qa2 qk qz inc lo hi seq qp 0 0 0 acc)) = true then some (0, 0, 0, 0, 0, 0, 0, 0, 0, 0, [], (4 : Int)) else some (qk, qz, inc, lo, hi, seq, qp, 0, 0, 0, acc, (0 : Int))) else none)) else none)) =
   some (let e := qhZ ok l a bad qk qz inc lo hi seq qp acc; (e.1, e.2.1, e.2.2.1, e.2.2.2.1, e.2.2.2.2.1, e.2.2.2.2.2.1, e.2.2.2.2.2.2.1, 0, 0, 0, e.2.2.2.2.2.2.2.1, e.2.2.2.2.2.2.2.2)) := by
  intro a bad acc hl hlen hb
  have hs : za acc = true := (QO acc).2 ⟨by omega, fun r hr => by rw [hb r hr]; rfl⟩
  unfold qhZ
  rw [hl, hs]
  cases ok
  ·rfl
  ·cases (!bad && (ZT l a bad == 0))
   ·rfl
   ·cases qa2 qk qz inc lo hi seq qp 0 0 0 acc <;> rfl
 intro k
 induction k with
 | zero => intro j i a bad acc h1; omega
 | succ k ih =>
  intro j i a bad acc h1 h2 h3 h4 h5 h6
  rw [Qc.l13]
  unfold Qc.b13
  cases j with
  | zero =>
   rw [if_neg (by simp; omega)]
   have := fin a bad acc h4 (by omega) h6
   unfold ZE
   rw [List.append_nil]
   exact this
  | succ j =>
   rw [if_pos (by simp; omega)]
   cases bad with
   | true =>
    rw [if_neg (by simp)]
    have := fin a true acc h4 (by omega) h6
    unfold ZE
    rw [if_pos rfl, List.append_nil]
    exact this
   | false =>
    rw [if_pos (show (!false) = true from rfl), if_pos h4, veil_eq]
    dsimp only
    rw [if_pos (by simp [lim]; omega), qV (i + 1) (by omega) (by omega)]
    have hr : ((QN l a false).1.1, ((QN l a false).1.2.1, ((QN l a false).1.2.2.1, (((QN l a false).1.2.2.2.1.1, (QN l a false).1.2.2.2.1.2), ((QN l a false).1.2.2.2.2.1, ([] : LF)))))) = (QN l a false).1 := rfl
    rw [hr, ih j (i + 1) (QN l a false).2.1 (QN l a false).2.2 (acc ++ [(QN l a false).1]) (by omega) (by omega) (by omega) (qne l a false h4) (by simp; omega) (fun r hr => by
     rcases List.mem_append.1 hr with hr | hr
     ·exact h6 r hr
     ·simp at hr; subst hr; rfl)]
    conv => rhs; rw [ZE]
    rw [if_neg (by simp), List.append_assoc, List.singleton_append]
theorem Qc.pure (l : List Int) (hl : inB l = true) : Qc.f 300 l = some (let e := Ql l; (e.1, e.2.1, e.2.2.1, e.2.2.2.1, e.2.2.2.2.1, e.2.2.2.2.2.1, e.2.2.2.2.2.2.1, 0, 0, 0, e.2.2.2.2.2.2.2.1, e.2.2.2.2.2.2.2.2)) := by
 have h0 : zq l 0 = true := (zI l 0).2 ⟨hl, by omega, by omega⟩
 unfold Qc.f Qc.b
 have h1 := QA l 1 0 false h0
 have h2 := QA l 2 _ (qy l 1 0 false).2.2 h1
 have h3 := QA l 6 _ (qy l 2 (qy l 1 0 false).2.1 (qy l 1 0 false).2.2).2.2 h2
 simp only [veil_eq]
 rw [if_pos hl, if_pos h0, if_pos h1, if_pos h2, if_pos h3]
 generalize hr1 : qy l 1 0 false = r1 at *
 generalize hr2 : qy l 2 r1.2.1 r1.2.2 = r2 at *
 generalize hr3 : qy l 6 r2.2.1 r2.2.2 = r3 at *
 have h4 := QA l 1 _ r3.2.2 h3
 rw [if_pos h4]
 generalize hr4 : qy l 1 r3.2.1 r3.2.2 = r4 at *
 have h5 := QA l 2 _ r4.2.2 h4
 rw [if_pos h5]
 generalize hr5 : qy l 2 r4.2.1 r4.2.2 = r5 at *
 have h6 := QA l 2 _ r5.2.2 h5
 rw [if_pos h6]
 generalize hr6 : qy l 2 r5.2.1 r5.2.2 = r6 at *
 have h7 := QA l 1 _ r6.2.2 h6
 have hb := qe3 l _ r6.2.2 h6
 have hd : Ql l = qhZ (zR Qp r4.1).2.2 l (ZE l (qy l 1 r6.2.1 r6.2.2).1.toNat (qy l 1 r6.2.1 r6.2.2).2.1 (qy l 1 r6.2.1 r6.2.2).2.2).2.1 (ZE l (qy l 1 r6.2.1 r6.2.2).1.toNat (qy l 1 r6.2.1 r6.2.2).2.1 (qy l 1 r6.2.1 r6.2.2).2.2).2.2 r1.1 r2.1 r3.1 (zR Qp r4.1).1 (zR Qp r4.1).2.1 r5.1 r6.1 (ZE l (qy l 1 r6.2.1 r6.2.2).1.toNat (qy l 1 r6.2.1 r6.2.2).2.1 (qy l 1 r6.2.1 r6.2.2).2.2).1 := by
  unfold Ql
  simp only [hr1, hr2, hr3, hr4, hr5, hr6]
 rw [hd]
 have := Qc.loop 300 l (zR Qp r4.1).2.2 (qy l 1 r6.2.1 r6.2.2).1 hb.2 r1.1 r2.1 r3.1 (zR Qp r4.1).1 (zR Qp r4.1).2.1 r5.1 r6.1 300 (qy l 1 r6.2.1 r6.2.2).1.toNat 0 (qy l 1 r6.2.1 r6.2.2).2.1 (qy l 1 r6.2.1 r6.2.2).2.2 [] (by omega) (by omega) (by omega) h7 (by simp) (by simp)
 rw [List.nil_append] at this
 exact this
def qoa : Den.Sum := ⟨[.dat (.sl (.int .u8)) false], fun qH ql κ => match qH, ql with
 | [.d (.sl (.int .u8)) l], [] => if inB l = true then κ [.agg [.d (.int .i64) (Ql l).1, .d (.int .i64) (Ql l).2.1, .d (.int .i64) (Ql l).2.2.1, .d (.int .i64) (Ql l).2.2.2.1, .d (.int .i64) (Ql l).2.2.2.2.1, .d (.int .i64) (Ql l).2.2.2.2.2.1, .d (.int .i64) (Ql l).2.2.2.2.2.2.1, .d (.int .i64) 0, .d (.int .i64) 0, .d (.int .i64) 0, .d (.sl (.pair (.int .i64) (.pair (.int .i64) (.pair (.int .i64) (.pair (.pair (.int .i64) (.int .i64)) (.pair .bool (.sl (.pair (.int .i64) (.sl (.int .u8)))))))))) ((Ql l).2.2.2.2.2.2.2.1)], .d (.int .i64) ((Ql l).2.2.2.2.2.2.2.2)] [] else none
 | _, _ => none⟩
def qgv : Den.Sum := ⟨[.dat (.sl (.int .u8)) false], fun qH ql κ => match qH, ql with
 | [.d (.sl (.int .u8)) l], [] => if inB l = true then (match veil (some (Ql l)) with | none => none | some y => κ [.agg [.d (.int .i64) y.1, .d (.int .i64) y.2.1, .d (.int .i64) y.2.2.1, .d (.int .i64) y.2.2.2.1, .d (.int .i64) y.2.2.2.2.1, .d (.int .i64) y.2.2.2.2.2.1, .d (.int .i64) y.2.2.2.2.2.2.1, .d (.int .i64) 0, .d (.int .i64) 0, .d (.int .i64) 0, .d (.sl (.pair (.int .i64) (.pair (.int .i64) (.pair (.int .i64) (.pair (.pair (.int .i64) (.int .i64)) (.pair .bool (.sl (.pair (.int .i64) (.sl (.int .u8)))))))))) (y.2.2.2.2.2.2.2.1)], .d (.int .i64) (y.2.2.2.2.2.2.2.2)] []) else none
 | _, _ => none⟩
theorem ql4 : SumOk Tryz.prog 59 qoa := by
 have hE : EnvOk Tryz.prog qh9 := env_ok (l := [(51, qaC), (83, qc8), (85, qgo), (77, qcT), (52, Zc), (84, qaA), (86, qcD)]) th_ok qX ⟨⟨qdu, qcP⟩, ⟨qhG, qgJ⟩, ⟨qo4, qnZ⟩, ⟨qjR, qiB⟩, ⟨qaZ, qax⟩, ⟨qcF, qb1⟩, ⟨qhI, qgO⟩, trivial⟩ _
 refine sum_ok hE Tryz.func59 rfl (by kernel_rfl) qoa [.dat (.pair tQi (.pair tQi (.pair tQi (.pair (.pair tQi tQi) (.pair tQi (.pair tQi (.pair tQi (.pair tQi (.pair tQi (.sl tQr)))))))))) true, .raw] Qc.k ?_
 intro R avs ql κ r h
 unfold qoa at h
 simp only at h
 split at h
 ·rename_i l
  split at h
  case isFalse => cases h
  rename_i hl
  refine ⟨300, _, _, _, (Qc.eq (300) l).trans (Qc.pure l hl), ?_, h⟩
  intro rs ros hk
  unfold Qc.k at hk
  split at hk
  ·first | (cases hk; exact ⟨rfl, rfl⟩) | (rw [← Option.some.inj hk]; exact ⟨rfl, rfl⟩)
  ·cases hk
 ·cases h
theorem qn8 : SumDet qgv := zi fun _ _ _ _ => by
 unfold qgv
 simp only [veil_eq]
 split
 ·first | rfl | (split <;> rfl)
 ·rfl
theorem qpa : SumOk Tryz.prog 59 qgv := ⟨ql4.1, fun avs ql κ r hr => ql4.2 avs ql κ r (by
 unfold qgv at hr
 simp only [veil_eq] at hr
 split at hr
 ·exact hr
 ·cases hr)⟩
theorem qnp : ∀ (p : List Int) (n : Nat) (v : Int), (∀ c ∈ p, 0 ≤ c ∧ c ≤ 255) → be (n + p.length) (p.foldl (fun v c => v * 256 + c) v) = be n v ++ p
 | [], n, v, _ => by simp
 | c :: p, n, v, h => by
  have hc := h c (by simp)
  have ih := qnp p (n + 1) (v * 256 + c) (fun x hx => h x (by simp [hx]))
  rw [List.length_cons, List.foldl_cons, show n + (p.length + 1) = n + 1 + p.length from by omega, ih]
  show (be n ((v * 256 + c) / 256) ++ [(v * 256 + c) % 256]) ++ p = _
  rw [show (v * 256 + c) / 256 = v from by omega, show (v * 256 + c) % 256 = c from by omega]
  simp
theorem qno (p : List Int) (h : ∀ c ∈ p, 0 ≤ c ∧ c ≤ 255) : be p.length (QY p) = p := by
 have := qnp p 0 0 h
 rw [Nat.zero_add] at this
 exact this
theorem qck (l : List Int) (n a : Int) (bad : Bool) (hl : zq l a = true) (h1 : 1 ≤ n) (h7 : n ≤ 7) (h : (qy l n a bad).2.2 = false) :
  bad = false ∧ (qy l n a bad).2.1 = a + n ∧ l.drop a.toNat = be n.toNat (qy l n a bad).1 ++ l.drop (a + n).toNat ∧ zq l (a + n) = true := by
 obtain ⟨k1, k2, k3⟩ := (zI l a).1 hl
 obtain ⟨k4, k5⟩ := (QP l).1 k1
 have hn : (if (decide (n < 1) || decide (n > 7)) = true then (-1 : Int) else n) = n := if_neg (by simp; omega)
 unfold qy at h ⊢
 dsimp only at h ⊢
 rw [hn] at h ⊢
 cases bad with
 | true => simp [zd] at h
 | false =>
  unfold zd at h ⊢
  rw [if_neg (by simp)] at h ⊢
  by_cases hc : (decide (n < 0) || decide (n > (l.length : Int) - a)) = true
  ·rw [if_pos hc] at h
   cases h
  ·rw [if_neg hc]
   simp only [Bool.or_eq_true, decide_eq_true_eq, not_or] at hc
   refine ⟨rfl, rfl, ?_, (zI l _).2 ⟨k1, by omega, by omega⟩⟩
   dsimp only
   rw [if_pos rfl]
   have hb : be n.toNat (QY (seg l a n)) = seg l a n := by
    have := qno (seg l a n) (fun c hc => k5 c (qkw hc))
    rwa [qeY l a n k2 (by omega) (by omega)] at this
   rw [hb]
   unfold seg
   rw [List.drop_take, show (a + n).toNat = a.toNat + n.toNat from by omega, Nat.add_sub_cancel_left, ← List.drop_drop, List.take_append_drop]
theorem qrg (l : List Int) (a : Int) (bad : Bool) (hl : zq l a = true) (h : (QN l a bad).2.2 = false) :
  bad = false ∧ (QN l a bad).2.1 = a + 5 ∧ zq l (a + 5) = true ∧ (zw (QN l a bad).1 = true → l.drop a.toNat = qdr (QN l a bad).1 ++ l.drop (a + 5).toNat) := by
 have e2 := QA l 2 a bad hl
 have f := fun hh => qck l 2 a bad hl (by omega) (by omega) hh
 unfold QN at h ⊢
 dsimp only at h ⊢
 generalize qy l 2 a bad = r1 at *
 have e3 := QA l 2 _ r1.2.2 e2
 have d := fun hh => qck l 2 r1.2.1 r1.2.2 e2 (by omega) (by omega) hh
 generalize qy l 2 r1.2.1 r1.2.2 = r2 at *
 have hb := qe3 l _ r2.2.2 e3
 have c := fun hh => qck l 1 r2.2.1 r2.2.2 e3 (by omega) (by omega) hh
 generalize qy l 1 r2.2.1 r2.2.2 = r3 at *
 obtain ⟨c1, c2, c3, c4⟩ := c h
 obtain ⟨d1, d2, d3, d4⟩ := d c1
 obtain ⟨f1, f2, f3, f4⟩ := f d1
 have e5 : r2.2.1 + 1 = a + 5 := by omega
 refine ⟨f1, by omega, by rw [← e5]; exact c4, fun hr => ?_⟩
 obtain ⟨q1, _⟩ := zE hr
 dsimp only at q1
 have hv : ¬ (r3.1 > 127) := by
  intro hc
  rw [if_pos (by simpa using hc)] at q1
  omega
 rw [if_neg (by simpa using hv)]
 rw [f3, ← f2, d3, ← d2, c3, e5]
 have hs : qc6 (r1.1, r2.1, r3.1 % 4, (r3.1 / 4 % 4, r3.1 / 16 % 4), r3.1 / 64 % 2 == 1, ([] : LF)) = r3.1 := by
  unfold qc6
  dsimp only
  by_cases h6 : r3.1 / 64 % 2 = 1
  ·rw [if_pos (by simpa using h6)]; omega
  ·rw [if_neg (by simpa using h6)]; omega
 unfold qdr
 rw [hs]
 simp [n1, n2]
theorem qpC (l : List Int) : ∀ (k : Nat) (a : Int) (bad : Bool), zq l a = true → (ZE l k a bad).2.2 = false → (∀ r ∈ (ZE l k a bad).1, zw r = true) →
  bad = false ∧ (ZE l k a bad).1.length = k ∧ zq l (ZE l k a bad).2.1 = true ∧ l.drop a.toNat = (ZE l k a bad).1.flatMap qdr ++ l.drop (ZE l k a bad).2.1.toNat
 | 0, a, bad, hl, h, hr => ⟨h, rfl, hl, by simp [ZE]⟩
 | k + 1, a, bad, hl, h, hr => by
  unfold ZE at h hr ⊢
  cases bad with
  | true => simp at h
  | false =>
   rw [if_neg (by simp)] at h hr ⊢
   dsimp only at h hr ⊢
   have hat := qne l a false hl
   obtain ⟨i1, i2, i3, i4⟩ := qpC l k _ _ hat h (fun r hr' => hr r (by simp [hr']))
   obtain ⟨j1, j2, j3, j4⟩ := qrg l a false hl i1
   refine ⟨rfl, by simp [i2], i3, ?_⟩
   rw [j4 (hr _ (by simp)), List.flatMap_cons, List.append_assoc, ← i4, j2]
theorem qlm {c : Int} (h : (zR Qp c).2.2 = true) : Qk (zR Qp c).1 (zR Qp c).2.1 = c := by
 unfold Qp zR zR zR zR zR zR zR at h ⊢
 split
 ·rename_i hc; simpa using hc
 split
 ·rename_i hc; simpa using hc
 split
 ·rename_i hc; simpa using hc
 split
 ·rename_i hc; simpa using hc
 split
 ·rename_i hc; simpa using hc
 split
 ·rename_i hc; simpa using hc
 rename_i c1 c2 c3 c4 c5 c6
 rw [if_neg c1, if_neg c2, if_neg c3, if_neg c4, if_neg c5, if_neg c6] at h
 cases h
theorem qrA (l : List Int) (hl : inB l = true) (h : (Ql l).2.2.2.2.2.2.2.2 = 0) :
  qa2 (Ql l).1 (Ql l).2.1 (Ql l).2.2.1 (Ql l).2.2.2.1 (Ql l).2.2.2.2.1 (Ql l).2.2.2.2.2.1 (Ql l).2.2.2.2.2.2.1 0 0 0 (Ql l).2.2.2.2.2.2.2.1 = true ∧
  qcn (Ql l).1 (Ql l).2.1 (Ql l).2.2.1 (Ql l).2.2.2.1 (Ql l).2.2.2.2.1 (Ql l).2.2.2.2.2.1 (Ql l).2.2.2.2.2.2.1 (Ql l).2.2.2.2.2.2.2.1 = l ∧ za (Ql l).2.2.2.2.2.2.2.1 = true := by
 have h0 : zq l 0 = true := (zI l 0).2 ⟨hl, by omega, by omega⟩
 have h1 := QA l 1 0 false h0
 have h2 := QA l 2 _ (qy l 1 0 false).2.2 h1
 have h3 := QA l 6 _ (qy l 2 (qy l 1 0 false).2.1 (qy l 1 0 false).2.2).2.2 h2
 unfold Ql at h ⊢
 dsimp only at h ⊢
 have q1 := fun hh => qck l 1 0 false h0 (by omega) (by omega) hh
 generalize hr1 : qy l 1 0 false = r1 at *
 have q2 := fun hh => qck l 2 r1.2.1 r1.2.2 h1 (by omega) (by omega) hh
 generalize hr2 : qy l 2 r1.2.1 r1.2.2 = r2 at *
 have q3 := fun hh => qck l 6 r2.2.1 r2.2.2 h2 (by omega) (by omega) hh
 generalize hr3 : qy l 6 r2.2.1 r2.2.2 = r3 at *
 have h4 := QA l 1 _ r3.2.2 h3
 have q4 := fun hh => qck l 1 r3.2.1 r3.2.2 h3 (by omega) (by omega) hh
 generalize hr4 : qy l 1 r3.2.1 r3.2.2 = r4 at *
 have h5 := QA l 2 _ r4.2.2 h4
 have q5 := fun hh => qck l 2 r4.2.1 r4.2.2 h4 (by omega) (by omega) hh
 generalize hr5 : qy l 2 r4.2.1 r4.2.2 = r5 at *
 have h6 := QA l 2 _ r5.2.2 h5
 have q6 := fun hh => qck l 2 r5.2.1 r5.2.2 h5 (by omega) (by omega) hh
 generalize hr6 : qy l 2 r5.2.1 r5.2.2 = r6 at *
 have h7 := QA l 1 _ r6.2.2 h6
 have q7 := fun hh => qck l 1 r6.2.1 r6.2.2 h6 (by omega) (by omega) hh
 have hby := qe3 l _ r6.2.2 h6
 generalize hr7 : qy l 1 r6.2.1 r6.2.2 = r7 at *
 have hbare := qki l r7.1.toNat r7.2.1 r7.2.2
 have hdl := qlu l r7.1.toNat r7.2.1 r7.2.2
 have q8 := fun hh1 hh2 => qpC l r7.1.toNat r7.2.1 r7.2.2 h7 hh1 hh2
 generalize hd : ZE l r7.1.toNat r7.2.1 r7.2.2 = d at *
 unfold qhZ at h ⊢
 by_cases hc : ((zR Qp r4.1).2.2 && ((!d.2.2 && (ZT l d.2.1 d.2.2 == 0)) && qa2 r1.1 r2.1 r3.1 (zR Qp r4.1).1 (zR Qp r4.1).2.1 r5.1 r6.1 0 0 0 d.1)) = true
 ·rw [if_pos hc]
  dsimp only
  simp only [Bool.and_eq_true, Bool.not_eq_true', beq_iff_eq] at hc
  obtain ⟨c1, ⟨c2, c3⟩, c4⟩ := hc
  have hf := c4
  rw [qdE] at hf
  obtain ⟨v, hx⟩ := qdZ hf
  obtain ⟨_, _, _, _, _, _, v7, _, _, _, _, _, v12, v13⟩ := Qj v
  obtain ⟨s1, s2, s3, s4⟩ := q8 c2 v13
  obtain ⟨t1, t2, t3, t4⟩ := q7 s1
  obtain ⟨u1, u2, u3, u4⟩ := q6 t1
  obtain ⟨w1, w2, w3, w4⟩ := q5 u1
  obtain ⟨x1, x2, x3, x4⟩ := q4 w1
  obtain ⟨y1, y2, y3, y4⟩ := q3 x1
  obtain ⟨z1, z2, z3, z4⟩ := q2 y1
  obtain ⟨p1, p2, p3, p4⟩ := q1 z1
  refine ⟨c4, ?_, (QO _).2 ⟨by omega, fun r hr => by rw [hbare r hr]; rfl⟩⟩
  have hcode : (zR Qp r4.1).1 * 16 + (zR Qp r4.1).2.1 = r4.1 := by
   rw [← qet v7]; exact qlm c1
  have hlen : (d.1.length : Int) = r7.1 := by omega
  have hleft : d.2.1.toNat = l.length := by
   rw [c2] at c3
   unfold ZT at c3
   simp at c3
   have := (zI l _).1 s3
   omega
  unfold qcn qgZ
  rw [hcode, hlen]
  rw [hleft, List.drop_length, List.append_nil] at s4
  have e0 : l.drop (0 : Int).toNat = l := rfl
  rw [e0] at p3
  rw [p3, ← p2, z3, ← z2, y3, ← y2, x3, ← x2, w3, ← w2, u3, ← u2, t3, ← t2, s4]
  simp [n1, n2, n6, List.append_assoc]
 ·rw [if_neg hc] at h
  cases h
def qer : List Int → List Int → Int
 | [], [] => 0
 | [], _ :: _ => -1
 | _ :: _, [] => 1
 | x :: l, y :: m => if decide (x < y) then -1 else if decide (x > y) then 1 else qer l m
def qdJ (t1 : Int) (d1 : List Int) (t2 : Int) (d2 : List Int) : Int := if t1 != t2 then (if decide (t1 < t2) then -1 else 1) else qer d1 d2
def ZH : LF → LF → Int
 | [], [] => 0
 | [], _ :: _ => -1
 | _ :: _, [] => 1
 | x :: l, y :: m => if qdJ x.1 x.2 y.1 y.2 != 0 then qdJ x.1 x.2 y.1 y.2 else ZH l m
def qbw (l : List Int) : Bool := decide (l.length < 281474976710656)
def qep : Den.Sum := ⟨[.raw], fun qH ql κ => match qH, ql with
 | [.d (.int .u8) x], [] => κ [.d .bool false] []
 | _, _ => none⟩
def qfy : Den.Sum := ⟨[.raw, .raw], fun qH ql κ => match qH, ql with
 | [.d (.int .u8) x, .d (.int .u8) y], [] => κ [.d (.int .i64) (if decide (x < y) then -1 else if decide (x > y) then 1 else 0)] []
 | _, _ => none⟩
def qel : Den.Sum := ⟨[.dat (.sl (.int .u8)) false, .dat (.sl (.int .u8)) false], fun qH ql κ => match qH, ql with
 | [.d (.sl (.int .u8)) l, .d (.sl (.int .u8)) m], [] => if (qbw l && qbw m) = true then κ [.d (.int .i64) (qer l m)] [] else none
 | _, _ => none⟩
def qfl : Den.Sum := ⟨[.dat (.pair tQi (.sl (.int .u8))) true, .dat (.pair tQi (.sl (.int .u8))) true], fun qH ql κ => match qH, ql with
 | [.agg [.d (.int .i64) t1, .d (.sl (.int .u8)) d1], .agg [.d (.int .i64) t2, .d (.sl (.int .u8)) d2]], [] => if (qbw d1 && qbw d2) = true then κ [.d (.int .i64) (qdJ t1 d1 t2 d2)] [] else none
 | _, _ => none⟩
def qfz : Den.Sum := ⟨[.dat (.sl (.pair tQi (.sl (.int .u8)))) false, .dat (.sl (.pair tQi (.sl (.int .u8)))) false], fun qH ql κ => match qH, ql with
 | [.d (.sl (.pair (.int .i64) (.sl (.int .u8)))) a, .d (.sl (.pair (.int .i64) (.sl (.int .u8)))) b], [] => if (zo a && zo b) = true then κ [.d (.int .i64) (ZH a b)] [] else none
 | _, _ => none⟩
def qcV : Den.Sum := ⟨[.dat (.sl (.pair tQi (.sl (.int .u8)))) false, .dat (.sl (.pair tQi (.sl (.int .u8)))) false], fun qH ql κ => match qH, ql with
 | [.d (.sl (.pair (.int .i64) (.sl (.int .u8)))) a, .d (.sl (.pair (.int .i64) (.sl (.int .u8)))) b], [] => if (zo a && zo b) = true then κ [.d .bool (ZH a b == 0)] [] else none
 | _, _ => none⟩
def qnz : Env := ⟨th, gam [], fun i => ⟨[], [], []⟩⟩
def qcv.k (rs : List AV) (os : List Den.Obj) : Option Bool :=
 match rs, os with
 | [.d .bool r0], [] => some r0
 | _, _ => none
def qcv.b (x : Int) : Option Bool :=
 some ((x != x))
def qcv.f (qa : Nat) (x : Int) : Option Bool := qcv.b x
theorem qcv.eq (qa : Nat) (x : Int) : (denF qnz loopN qa Tryz.f140 [.raw] [.d (.int .u8) x] [] qcv.k) = qcv.f qa x := by
 kernel_rfl
def qpS : Env := ⟨th, gam [(140, qep)], fun i => ⟨[], [], []⟩⟩
def qec.k (rs : List AV) (os : List Den.Obj) : Option Int :=
 match rs, os with
 | [.d (.int .i64) r0], [] => some r0
 | _, _ => none
def qec.b (x y : Int) : Option Int :=
 (if (decide (x < y)) then some ((-(1 : Int))) else (if (decide (x > y)) then some ((1 : Int)) else some ((0 : Int))))
def qec.f (qa : Nat) (x y : Int) : Option Int := qec.b x y
theorem qec.eq (qa : Nat) (x y : Int) : (denF qpS loopN qa Tryz.f138 [.raw] [.d (.int .u8) x, .d (.int .u8) y] [] qec.k) = qec.f qa x y := by
 kernel_rfl
def qkY : Env := ⟨th, gam [(138, qfy)], fun i => if i = 2 then ⟨[0, 1, 9, 10, 11], [], []⟩ else ⟨[], [], []⟩⟩
def QI.k (rs : List AV) (os : List Den.Obj) : Option Int :=
 match rs, os with
 | [.d (.int .i64) r0], [] => some r0
 | _, _ => none
def QI.s2 (l m : List Int) (x0 x1 : Int) : St := ⟨[.d (.sl (.int .u8)) (l), .d (.sl (.int .u8)) (m), dD, dD, dD, dD, dD, dD, dD, .d (.sl (.int .u8)) (l), .d tQi x0, .d tQi x1, dD, dD, dD, dD, dD, dD, dD, dD, dD, dD, dD, dD, dD, dD, dD, dD, dD, dD, dD, dD, dD, dD, dD, .dead], ofL [], 0⟩
def QI.p2 (qa : Nat) (l m : List Int) (k : Nat) := fun x0 x1 => lp qkY qa Tryz.f136 [.raw] 0 QI.k 2 [] k (QI.s2 l m x0 x1)
def QI.b2 (l m : List Int) (A2 : Int → Int → Option Int) (x0 x1 : Int) : Option Int :=
 (if (decide (x1 < x0)) then (match (idx l x1) with | none => none | some y2 => (if (decide (x1 ≥ ((((List.length m)) : Nat) : Int))) then some ((1 : Int)) else (match (idx m x1) with | none => none | some y3 => (if ((if (decide (y2 < y3)) then (-1) else (if (decide (y2 > y3)) then 1 else 0)) != (0 : Int)) then some ((if (decide (y2 < y3)) then (-1) else (if (decide (y2 > y3)) then 1 else 0))) else A2 x0 (IntKind.wrap .i64 (x1 + (1 : Int))))))) else (if (decide (((((List.length l)) : Nat) : Int) < ((((List.length m)) : Nat) : Int))) then some ((-(1 : Int))) else some ((0 : Int))))
def QI.l2 (qa : Nat) (l m : List Int) : Nat → Int → Int → Option Int
 | 0, _, _ => none
 | k + 1, x0, x1 => QI.b2 l m (QI.l2 qa l m k) x0 x1
def QI.b (l m : List Int) (E2 : Int → Int → Option Int) : Option Int :=
 E2 ((((List.length l)) : Nat) : Int) (0 : Int)
def QI.f (qa : Nat) (l m : List Int) : Option Int := QI.b l m (QI.l2 qa l m qa)
theorem QI.l2_eq (qa : Nat) (l m : List Int) : ∀ k : Nat, QI.p2 qa l m k = QI.l2 qa l m k
 | 0 => by kernel_rfl
 | k + 1 => by
  refine Eq.trans (b := QI.b2 l m (QI.p2 qa l m k)) (by kernel_rfl) ?_
  rw [QI.l2_eq qa l m k]
  kernel_rfl
theorem QI.eq (qa : Nat) (l m : List Int) : (denF qkY loopN qa Tryz.f136 [.raw] [.d (.sl (.int .u8)) l, .d (.sl (.int .u8)) m] [] QI.k) = QI.f qa l m := by
 refine Eq.trans (b := QI.b l m (QI.p2 qa l m qa)) (by kernel_rfl) ?_
 rw [QI.l2_eq qa l m qa]
 kernel_rfl
def qnC : Env := ⟨th, gam [(136, qel)], fun i => ⟨[], [], []⟩⟩
def qcy.k (rs : List AV) (os : List Den.Obj) : Option Int :=
 match rs, os with
 | [.d (.int .i64) r0], [] => some r0
 | _, _ => none
def qcy.b (t1 : Int) (d1 : List Int) (t2 : Int) (d2 : List Int) : Option Int :=
 (if (t1 != t2) then (if (decide (t1 < t2)) then some ((-(1 : Int))) else some ((1 : Int))) else (if ((qbw d1) && (qbw d2)) then some ((qer d1 d2)) else none))
def qcy.f (qa : Nat) (t1 : Int) (d1 : List Int) (t2 : Int) (d2 : List Int) : Option Int := qcy.b t1 d1 t2 d2
theorem qcy.eq (qa : Nat) (t1 : Int) (d1 : List Int) (t2 : Int) (d2 : List Int) : (denF qnC loopN qa Tryz.f127 [.raw] [.agg [.d tQi t1, .d (.sl (.int .u8)) d1], .agg [.d tQi t2, .d (.sl (.int .u8)) d2]] [] qcy.k) = qcy.f qa t1 d1 t2 d2 := by
 kernel_rfl
def qmE : Env := ⟨th, gam [(127, qfl)], fun i => if i = 2 then ⟨[0, 1, 5], [], []⟩ else ⟨[], [], []⟩⟩
def ZA.k (rs : List AV) (os : List Den.Obj) : Option Int :=
 match rs, os with
 | [.d (.int .i64) r0], [] => some r0
 | _, _ => none
def ZA.s2 (a b : LF) (x0 : Int) : St := ⟨[.d (.sl (.pair tQi (.sl (.int .u8)))) (a), .d (.sl (.pair tQi (.sl (.int .u8)))) (b), dD, dD, dD, .d tQi x0, dD, dD, dD, dD, dD, dD, dD, dD, dD, dD, dD, dD, dD, dD, dD, dD, dD, dD, dD, dD, dD, dD, dD, dD, dD, dD, dD, dD, dD, dD, dD, dD, dD, dD, dD, dD, .dead], ofL [], 0⟩
def ZA.p2 (qa : Nat) (a b : LF) (k : Nat) := fun x0 => lp qmE qa Tryz.f108 [.raw] 0 ZA.k 2 [] k (ZA.s2 a b x0)
def ZA.b2 (a b : LF) (A2 : Int → Option Int) (x0 : Int) : Option Int :=
 (if (decide (x0 < ((((List.length a)) : Nat) : Int))) then (if (decide (x0 < ((((List.length b)) : Nat) : Int))) then (match (idx a x0) with | none => none | some y1 => (match (idx b x0) with | none => none | some y2 => (if ((qbw y1.2) && (qbw y2.2)) then (if ((qdJ y1.1 y1.2 y2.1 y2.2) != (0 : Int)) then some ((qdJ y1.1 y1.2 y2.1 y2.2)) else A2 (IntKind.wrap .i64 (x0 + (1 : Int)))) else none))) else (if (decide (((((List.length a)) : Nat) : Int) < ((((List.length b)) : Nat) : Int))) then some ((-(1 : Int))) else (if (decide (((((List.length a)) : Nat) : Int) > ((((List.length b)) : Nat) : Int))) then some ((1 : Int)) else some ((0 : Int))))) else (if (decide (((((List.length a)) : Nat) : Int) < ((((List.length b)) : Nat) : Int))) then some ((-(1 : Int))) else (if (decide (((((List.length a)) : Nat) : Int) > ((((List.length b)) : Nat) : Int))) then some ((1 : Int)) else some ((0 : Int)))))
def ZA.l2 (qa : Nat) (a b : LF) : Nat → Int → Option Int
 | 0, _ => none
 | k + 1, x0 => ZA.b2 a b (ZA.l2 qa a b k) x0
def ZA.b (a b : LF) (E2 : Int → Option Int) : Option Int :=
 E2 (0 : Int)
def ZA.f (qa : Nat) (a b : LF) : Option Int := ZA.b a b (ZA.l2 qa a b qa)
theorem ZA.l2_eq (qa : Nat) (a b : LF) : ∀ k : Nat, ZA.p2 qa a b k = ZA.l2 qa a b k
 | 0 => by kernel_rfl
 | k + 1 => by
  refine Eq.trans (b := ZA.b2 a b (ZA.p2 qa a b k)) (by kernel_rfl) ?_
  rw [ZA.l2_eq qa a b k]
  kernel_rfl
theorem ZA.eq (qa : Nat) (a b : LF) : (denF qmE loopN qa Tryz.f108 [.raw] [.d (.sl (.pair tQi (.sl (.int .u8)))) a, .d (.sl (.pair tQi (.sl (.int .u8)))) b] [] ZA.k) = ZA.f qa a b := by
 refine Eq.trans (b := ZA.b a b (ZA.p2 qa a b qa)) (by kernel_rfl) ?_
 rw [ZA.l2_eq qa a b qa]
 kernel_rfl
def qnD : Env := ⟨th, gam [(108, qfz)], fun i => ⟨[], [], []⟩⟩
def qcz.k (rs : List AV) (os : List Den.Obj) : Option Bool :=
 match rs, os with
 | [.d .bool r0], [] => some r0
 | _, _ => none
def qcz.b (a b : LF) : Option Bool :=
 (if ((zo a) && (zo b)) then some (((ZH a b) == (0 : Int))) else none)
def qcz.f (qa : Nat) (a b : LF) : Option Bool := qcz.b a b
theorem qcz.eq (qa : Nat) (a b : LF) : (denF qnD loopN qa Tryz.f75 [.raw] [.d (.sl (.pair tQi (.sl (.int .u8)))) a, .d (.sl (.pair tQi (.sl (.int .u8)))) b] [] qcz.k) = qcz.f qa a b := by
 kernel_rfl
theorem qhC (l : List Int) : qbw l = true ↔ l.length < 281474976710656 := by unfold qbw; simp
theorem qcv.pure (x : Int) : qcv.f 0 x = some false := by
 unfold qcv.f qcv.b
 simp
theorem qec.pure (x y : Int) : qec.f 0 x y = some (if decide (x < y) then -1 else if decide (x > y) then 1 else 0) := by
 unfold qec.f qec.b
 split
 ·rfl
 ·split <;> rfl
theorem QI.loop (qa : Nat) (l m : List Int) (h1 : l.length < 281474976710656) : ∀ (k i : Nat), i ≤ l.length → i ≤ m.length → l.length - i < k → QI.l2 qa l m k (l.length : Int) (i : Int) = some (qer (l.drop i) (m.drop i)) := by
 intro k
 induction k with
 | zero => intro i a b c; omega
 | succ k ih =>
  intro i a b c
  rw [QI.l2]
  unfold QI.b2
  by_cases hi : i < l.length
  ·rw [if_pos (by simp; omega), Qh, List.getElem?_eq_getElem hi, List.drop_eq_getElem_cons hi]
   dsimp only
   by_cases hm : i < m.length
   ·rw [if_neg (by simp; omega), Qh, List.getElem?_eq_getElem hm, List.drop_eq_getElem_cons hm]
    dsimp only
    unfold qer
    by_cases c1 : l[i] < m[i]
    ·simp [c1]
    ·by_cases c2 : l[i] > m[i]
     ·simp [c1, c2]
     ·simp only [c1, c2, decide_false, Bool.false_eq_true, if_false, bne_self_eq_false]
      rw [qV _ (by omega) (by omega)]
      exact ih (i + 1) (by omega) (by omega) (by omega)
   ·rw [if_pos (by simp; omega), List.drop_of_length_le (by omega : m.length ≤ i)]
    rfl
  ·rw [if_neg (by simp; omega), List.drop_of_length_le (by omega : l.length ≤ i)]
   by_cases hm : i < m.length
   ·rw [if_pos (by simp; omega), List.drop_eq_getElem_cons hm]
    rfl
   ·rw [if_neg (by simp; omega), List.drop_of_length_le (by omega : m.length ≤ i)]
    rfl
theorem QI.pure (l m : List Int) (hl : (qbw l && qbw m) = true) : QI.f (l.length + 1) l m = some (qer l m) := by
 rw [Bool.and_eq_true, qhC, qhC] at hl
 unfold QI.f QI.b
 exact QI.loop _ l m hl.1 _ 0 (by omega) (by omega) (by omega)
theorem qcy.pure (t1 : Int) (d1 : List Int) (t2 : Int) (d2 : List Int) (hl : (qbw d1 && qbw d2) = true) : qcy.f 0 t1 d1 t2 d2 = some (qdJ t1 d1 t2 d2) := by
 unfold qcy.f qcy.b qdJ
 rw [hl]
 split
 ·split <;> rfl
 ·rfl
theorem qlW {b : LF} (h : zo b = true) (i : Nat) (hi : i < b.length) : qbw b[i].2 = true := (qhC _).2 (((Z6 b).1 h).2 _ (List.getElem_mem hi))
theorem ZA.loop (qa : Nat) (a b : LF) (ha : zo a = true) (hb : zo b = true) : ∀ (k i : Nat), i ≤ a.length → i ≤ b.length → a.length - i < k → ZA.l2 qa a b k (i : Int) = some (ZH (a.drop i) (b.drop i)) := by
 have hla := ((Z6 a).1 ha).1
 intro k
 induction k with
 | zero => intro i h1 h2 h3; omega
 | succ k ih =>
  intro i h1 h2 h3
  rw [ZA.l2]
  unfold ZA.b2
  by_cases hi : i < a.length
  ·rw [if_pos (by simp; omega)]
   by_cases hm : i < b.length
   ·rw [if_pos (by simp; omega), Qh, List.getElem?_eq_getElem hi, Qh, List.getElem?_eq_getElem hm, List.drop_eq_getElem_cons hi, List.drop_eq_getElem_cons hm]
    dsimp only
    rw [qlW ha i hi, qlW hb i hm, Bool.and_self, if_pos rfl, qV _ (by omega) (by omega)]
    unfold ZH
    split
    ·rfl
    ·exact ih (i + 1) (by omega) (by omega) (by omega)
   ·rw [if_neg (by simp; omega), List.drop_eq_getElem_cons hi, List.drop_of_length_le (by omega : b.length ≤ i), if_neg (by simp; omega), if_pos (by simp; omega)]
    rfl
  ·rw [if_neg (by simp; omega), List.drop_of_length_le (by omega : a.length ≤ i)]
   by_cases hm : i < b.length
   ·rw [if_pos (by simp; omega), List.drop_eq_getElem_cons hm]
    rfl
   ·rw [if_neg (by simp; omega), if_neg (by simp; omega), List.drop_of_length_le (by omega : b.length ≤ i)]
    rfl
theorem ZA.pure (a b : LF) (hl : (zo a && zo b) = true) : ZA.f (a.length + 1) a b = some (ZH a b) := by
 rw [Bool.and_eq_true] at hl
 unfold ZA.f ZA.b
 exact ZA.loop _ a b hl.1 hl.2 _ 0 (by omega) (by omega) (by omega)
theorem qcz.pure (a b : LF) (hl : (zo a && zo b) = true) : qcz.f 0 a b = some (ZH a b == 0) := by
 unfold qcz.f qcz.b
 rw [hl]; rfl
theorem qln : ∀ (l : List Int), qer l l = 0
 | [] => rfl
 | x :: l => by
  unfold qer
  simp [qln l]
theorem qg8 : ∀ (l : LF), ZH l l = 0
 | [] => rfl
 | x :: l => by
  unfold ZH
  have : qdJ x.1 x.2 x.1 x.2 = 0 := by unfold qdJ; simp [qln]
  rw [this]
  simp [qg8 l]
theorem qmR : SumDet qep := zi fun _ _ _ _ => by
 unfold qep
 simp only
 split
 ·first | rfl | (split <;> rfl)
 ·rfl
theorem qn3 : SumOk Tryz.prog 140 qep := by
 have hE : EnvOk Tryz.prog qnz := env_ok (l := []) th_ok qX trivial _
 refine sum_ok hE Tryz.func140 rfl (by kernel_rfl) qep [.raw] qcv.k ?_
 intro R avs ql κ r h
 unfold qep at h
 simp only at h
 split at h
 ·rename_i x
  refine ⟨0, _, _, _, (qcv.eq (0) x).trans (qcv.pure x), ?_, h⟩
  intro rs ros hk
  unfold qcv.k at hk
  split at hk
  ·first | (cases hk; exact ⟨rfl, rfl⟩) | (rw [← Option.some.inj hk]; exact ⟨rfl, rfl⟩)
  ·cases hk
 ·cases h
theorem qob : SumDet qfy := zi fun _ _ _ _ => by
 unfold qfy
 simp only
 split
 ·first | rfl | (split <;> rfl)
 ·rfl
theorem qpb : SumOk Tryz.prog 138 qfy := by
 have hE : EnvOk Tryz.prog qpS := env_ok (l := [(140, qep)]) th_ok qX ⟨⟨qn3, qmR⟩, trivial⟩ _
 refine sum_ok hE Tryz.func138 rfl (by kernel_rfl) qfy [.raw] qec.k ?_
 intro R avs ql κ r h
 unfold qfy at h
 simp only at h
 split at h
 ·rename_i x y
  refine ⟨0, _, _, _, (qec.eq (0) x y).trans (qec.pure x y), ?_, h⟩
  intro rs ros hk
  unfold qec.k at hk
  split at hk
  ·first | (cases hk; exact ⟨rfl, rfl⟩) | (rw [← Option.some.inj hk]; exact ⟨rfl, rfl⟩)
  ·cases hk
 ·cases h
theorem qmN : SumDet qel := zi fun _ _ _ _ => by
 unfold qel
 simp only
 split
 ·first | rfl | (split <;> rfl)
 ·rfl
theorem qnT : SumOk Tryz.prog 136 qel := by
 have hE : EnvOk Tryz.prog qkY := env_ok (l := [(138, qfy)]) th_ok qX ⟨⟨qpb, qob⟩, trivial⟩ _
 refine sum_ok hE Tryz.func136 rfl (by kernel_rfl) qel [.raw] QI.k ?_
 intro R avs ql κ r h
 unfold qel at h
 simp only at h
 split at h
 ·rename_i l m
  split at h
  case isFalse => cases h
  rename_i hl
  refine ⟨l.length + 1, _, _, _, (QI.eq (l.length + 1) l m).trans (QI.pure l m hl), ?_, h⟩
  intro rs ros hk
  unfold QI.k at hk
  split at hk
  ·first | (cases hk; exact ⟨rfl, rfl⟩) | (rw [← Option.some.inj hk]; exact ⟨rfl, rfl⟩)
  ·cases hk
 ·cases h
theorem qnV : SumDet qfl := zi fun _ _ _ _ => by
 unfold qfl
 simp only
 split
 ·first | rfl | (split <;> rfl)
 ·rfl
theorem qo1 : SumOk Tryz.prog 127 qfl := by
 have hE : EnvOk Tryz.prog qnC := env_ok (l := [(136, qel)]) th_ok qX ⟨⟨qnT, qmN⟩, trivial⟩ _
 refine sum_ok hE Tryz.func127 rfl (by kernel_rfl) qfl [.raw] qcy.k ?_
 intro R avs ql κ r h
 unfold qfl at h
 simp only at h
 split at h
 ·rename_i t1 d1 t2 d2
  split at h
  case isFalse => cases h
  rename_i hl
  refine ⟨0, _, _, _, (qcy.eq (0) t1 d1 t2 d2).trans (qcy.pure t1 d1 t2 d2 hl), ?_, h⟩
  intro rs ros hk
  unfold qcy.k at hk
  split at hk
  ·first | (cases hk; exact ⟨rfl, rfl⟩) | (rw [← Option.some.inj hk]; exact ⟨rfl, rfl⟩)
  ·cases hk
 ·cases h
theorem qoc : SumDet qfz := zi fun _ _ _ _ => by
 unfold qfz
 simp only
 split
 ·first | rfl | (split <;> rfl)
 ·rfl
theorem qpc : SumOk Tryz.prog 108 qfz := by
 have hE : EnvOk Tryz.prog qmE := env_ok (l := [(127, qfl)]) th_ok qX ⟨⟨qo1, qnV⟩, trivial⟩ _
 refine sum_ok hE Tryz.func108 rfl (by kernel_rfl) qfz [.raw] ZA.k ?_
 intro R avs ql κ r h
 unfold qfz at h
 simp only at h
 split at h
 ·rename_i a b
  split at h
  case isFalse => cases h
  rename_i hl
  refine ⟨a.length + 1, _, _, _, (ZA.eq (a.length + 1) a b).trans (ZA.pure a b hl), ?_, h⟩
  intro rs ros hk
  unfold ZA.k at hk
  split at hk
  ·first | (cases hk; exact ⟨rfl, rfl⟩) | (rw [← Option.some.inj hk]; exact ⟨rfl, rfl⟩)
  ·cases hk
 ·cases h
theorem qiD : SumDet qcV := zi fun _ _ _ _ => by
 unfold qcV
 simp only
 split
 ·first | rfl | (split <;> rfl)
 ·rfl
theorem qjS : SumOk Tryz.prog 75 qcV := by
 have hE : EnvOk Tryz.prog qnD := env_ok (l := [(108, qfz)]) th_ok qX ⟨⟨qpc, qoc⟩, trivial⟩ _
 refine sum_ok hE Tryz.func75 rfl (by kernel_rfl) qcV [.raw] qcz.k ?_
 intro R avs ql κ r h
 unfold qcV at h
 simp only at h
 split at h
 ·rename_i a b
  split at h
  case isFalse => cases h
  rename_i hl
  refine ⟨0, _, _, _, (qcz.eq (0) a b).trans (qcz.pure a b hl), ?_, h⟩
  intro rs ros hk
  unfold qcz.k at hk
  split at hk
  ·first | (cases hk; exact ⟨rfl, rfl⟩) | (rw [← Option.some.inj hk]; exact ⟨rfl, rfl⟩)
  ·cases hk
 ·cases h
theorem qkQ : ∀ (n : Nat) (v : Int), 0 ≤ v → v < 256 ^ n → QY (be n v) = v
 | 0, v, h0, h1 => by simp at h1; simp [be, QY]; omega
 | n + 1, v, h0, h1 => by
  have hp : v / 256 < 256 ^ n := by
   rw [Int.pow_succ] at h1
   generalize (256 : Int) ^ n = M at h1 ⊢
   omega
  have ih := qkQ n (v / 256) (by omega) hp
  show QY (be n (v / 256) ++ [v % 256]) = v
  unfold QY at ih ⊢
  rw [List.foldl_append, ih]
  simp
  omega
theorem qkk : ∀ (n : Nat) (v c : Int), c ∈ be n v → 0 ≤ c ∧ c ≤ 255
 | 0, v, c, h => by simp [be] at h
 | n + 1, v, c, h => by
  have h' : c ∈ be n (v / 256) ++ [v % 256] := h
  rcases List.mem_append.1 h' with h | h
  ·exact qkk n _ c h
  ·simp at h; omega
theorem qbs (l : List Int) (n a : Int) (v : Int) (rest : List Int) (hl : zq l a = true) (h1 : 1 ≤ n) (h7 : n ≤ 7) (h0 : 0 ≤ v) (hv : v < 256 ^ n.toNat) (h : l.drop a.toNat = be n.toNat v ++ rest) :
  qy l n a false = (v, a + n, false) ∧ l.drop (a + n).toNat = rest ∧ zq l (a + n) = true := by
 obtain ⟨k1, k2, k3⟩ := (zI l a).1 hl
 have hlen : l.length - a.toNat = n.toNat + rest.length := by
  have := congrArg List.length h
  simpa [zG] using this
 have hn : (if (decide (n < 1) || decide (n > 7)) = true then (-1 : Int) else n) = n := if_neg (by simp; omega)
 have hseg : seg l a n = be n.toNat v := by
  unfold seg
  rw [List.drop_take, show (a + n).toNat = a.toNat + n.toNat from by omega, Nat.add_sub_cancel_left, h]
  exact List.take_left' (zG _ _)
 refine ⟨?_, ?_, (zI l _).2 ⟨k1, by omega, by omega⟩⟩
 ·unfold qy
  dsimp only
  rw [hn]
  have hst : zd l n a false = (seg l a n, true, a + n, false) := by
   unfold zd
   rw [if_neg (by simp), if_neg (by simp; omega)]
  rw [hst]
  dsimp only
  rw [if_pos rfl, hseg, qkQ _ v h0 hv]
 ·rw [show (a + n).toNat = a.toNat + n.toNat from by omega, ← List.drop_drop, h]
  exact List.drop_left' (zG _ _)
theorem qrh (l : List Int) (a : Int) (r : Int × Int × Int × (Int × Int) × Bool × LF) (rest : List Int) (hl : zq l a = true) (hr : zw r = true) (hi : r.2.1 ≤ 65535) (hb : r.2.2.2.2.2 = []) (h : l.drop a.toNat = qdr r ++ rest) :
  QN l a false = (r, a + 5, false) ∧ l.drop (a + 5).toNat = rest ∧ zq l (a + 5) = true := by
 obtain ⟨id, inc, st, ⟨lo, hi'⟩, cut, bag⟩ := r
 obtain ⟨f1, f2, f3, f4, f5, f6, f7, _, _⟩ := zE hr
 obtain ⟨_, s1, s2⟩ := qlU hr
 have f8 := (qag _ _).1 f7
 dsimp only at f1 f2 f3 f5 f6 f7 f8 hi hb
 subst hb
 unfold qdr at h
 dsimp only at h
 rw [List.append_assoc] at h
 obtain ⟨a1, a2, a3⟩ := qbs l 2 a id _ hl (by omega) (by omega) f1 (by simp; omega) h
 rw [List.append_assoc] at a2
 obtain ⟨b1, b2, b3⟩ := qbs l 2 (a + 2) inc _ a3 (by omega) (by omega) f3 (by simp; omega) a2
 obtain ⟨c1, c2, c3⟩ := qbs l 1 (a + 2 + 2) _ rest b3 (by omega) (by omega) s1 (by simpa using s2) b2
 have e5 : a + 2 + 2 + 1 = a + 5 := by omega
 rw [e5] at c1 c2 c3
 refine ⟨?_, c2, c3⟩
 unfold QN
 dsimp only
 rw [a1]
 dsimp only
 rw [b1]
 dsimp only
 rw [c1]
 dsimp only
 have hs : qc6 (id, inc, st, (lo, hi'), cut, ([] : LF)) = (if cut then st + 4 * lo + 16 * hi' + 64 else st + 4 * lo + 16 * hi') := rfl
 rw [hs]
 cases cut
 ·simp only [Bool.false_eq_true, if_false]
  rw [if_neg (by simp; omega)]
  have e1 : (st + 4 * lo + 16 * hi') % 4 = st := by omega
  have e2 : (st + 4 * lo + 16 * hi') / 4 % 4 = lo := by omega
  have e3 : (st + 4 * lo + 16 * hi') / 16 % 4 = hi' := by omega
  have e4 : ((st + 4 * lo + 16 * hi') / 64 % 2 == 1) = false := by simp; omega
  rw [e1, e2, e3, e4]
 ·simp only [if_true]
  rw [if_neg (by simp; omega)]
  have e1 : (st + 4 * lo + 16 * hi' + 64) % 4 = st := by omega
  have e2 : (st + 4 * lo + 16 * hi' + 64) / 4 % 4 = lo := by omega
  have e3 : (st + 4 * lo + 16 * hi' + 64) / 16 % 4 = hi' := by omega
  have e4 : ((st + 4 * lo + 16 * hi' + 64) / 64 % 2 == 1) = true := by simp; omega
  rw [e1, e2, e3, e4]
theorem qpD (l : List Int) : ∀ (qd : LR) (a : Int) (rest : List Int), zq l a = true → (∀ r ∈ qd, zw r = true ∧ r.2.1 ≤ 65535 ∧ r.2.2.2.2.2 = []) → l.drop a.toNat = qd.flatMap qdr ++ rest →
  ∃ a', ZE l qd.length a false = (qd, a', false) ∧ l.drop a'.toNat = rest ∧ zq l a' = true
 | [], a, rest, hl, _, h => ⟨a, rfl, by simpa using h, hl⟩
 | r :: qd, a, rest, hl, hr, h => by
  obtain ⟨r1, r2, r3⟩ := hr r (by simp)
  rw [List.flatMap_cons, List.append_assoc] at h
  obtain ⟨o1, o2, o3⟩ := qrh l a r _ hl r1 r2 r3 h
  obtain ⟨a', d1, d2, d3⟩ := qpD l qd (a + 5) rest o3 (fun x hx => hr x (by simp [hx])) o2
  refine ⟨a', ?_, d2, d3⟩
  rw [List.length_cons, ZE, if_neg (by simp), o1]
  dsimp only
  rw [d1]
theorem qq0 {lo hi : Int} (h : okS lo hi = true) : zR Qp (lo * 16 + hi) = (lo, hi, true) := by
 have := (qag lo hi).1 h
 have h1 : lo = 1 ∨ lo = 2 ∨ lo = 3 := by omega
 have h2 : hi = 1 ∨ hi = 2 ∨ hi = 3 := by omega
 rcases h1 with rfl | rfl | rfl <;> rcases h2 with rfl | rfl | rfl <;> first | omega | rfl
theorem qkj (qk qz inc lo hi seq qp : Int) (qd : LR) (hlen : qd.length ≤ 255) : inB (qcn qk qz inc lo hi seq qp qd) = true := by
 have hm : ∀ (l : LR), (l.flatMap qdr).length = 5 * l.length := by
  intro l
  induction l with
  | nil => rfl
  | cons x l ih => rw [List.flatMap_cons, List.length_append, ih, qiH, List.length_cons]; omega
 refine (QP _).2 ⟨?_, fun c hc => ?_⟩
 ·unfold qcn qgZ
  simp only [List.length_append, zG, hm]
  omega
 ·unfold qcn qgZ at hc
  simp only [List.mem_append, List.mem_flatMap] at hc
  rcases hc with (hc | hc | hc | hc | hc | hc | hc) | ⟨r, _, hc⟩
  all_goals first | exact qkk _ _ c hc | skip
  unfold qdr at hc
  simp only [List.mem_append] at hc
  rcases hc with hc | hc | hc <;> exact qkk _ _ c hc
theorem qrT (qk qz inc lo hi seq qp : Int) (qd : LR) (h : qa2 qk qz inc lo hi seq qp 0 0 0 qd = true) :
  Ql (qcn qk qz inc lo hi seq qp qd) = (qk, qz, inc, lo, hi, seq, qp, qd, 0) := by
 have hf := h
 rw [qdE] at hf
 obtain ⟨hv, hx⟩ := qdZ hf
 obtain ⟨v1, v2, v3, v4, v5, v6, v7, v8, v9, v10, v11, _, v12, v13⟩ := Qj hv
 have v14 := (qag _ _).1 v7
 have hb := qkj qk qz inc lo hi seq qp qd v12
 have h0 : zq (qcn qk qz inc lo hi seq qp qd) 0 = true := (zI _ 0).2 ⟨hb, by omega, by omega⟩
 generalize hl : qcn qk qz inc lo hi seq qp qd = l at *
 have e0 : l.drop (0 : Int).toNat = be (Int.toNat 1) qk ++ (be 2 qz ++ (be 6 inc ++ (be 1 (lo * 16 + hi) ++ (be 2 seq ++ (be 2 qp ++ (be 1 (qd.length : Int) ++ (qd.flatMap qdr ++ []))))))) := by
  rw [← hl]
  simp [qcn, qgZ, n1]
 obtain ⟨a1, a2, a3⟩ := qbs l 1 0 qk _ h0 (by omega) (by omega) (by omega) (by simp; omega) e0
 obtain ⟨b1, b2, b3⟩ := qbs l 2 _ qz _ a3 (by omega) (by omega) v3 (by simp; omega) a2
 obtain ⟨c1, c2, c3⟩ := qbs l 6 _ inc _ b3 (by omega) (by omega) v5 (by simp; omega) b2
 obtain ⟨d1, d2, d3⟩ := qbs l 1 _ (lo * 16 + hi) _ c3 (by omega) (by omega) (by omega) (by simp; omega) c2
 obtain ⟨f1, f2, f3⟩ := qbs l 2 _ seq _ d3 (by omega) (by omega) v8 (by simp; omega) d2
 obtain ⟨g1, g2, g3⟩ := qbs l 2 _ qp _ f3 (by omega) (by omega) v10 (by simp; omega) f2
 obtain ⟨i1, i2, i3⟩ := qbs l 1 _ (qd.length : Int) _ g3 (by omega) (by omega) (by omega) (by simp; omega) g2
 obtain ⟨a', j1, j2, j3⟩ := qpD l qd _ [] i3 (fun r hr => ⟨v13 r hr, hx r hr⟩) i2
 unfold Ql
 dsimp only
 rw [a1]
 dsimp only
 rw [b1]
 dsimp only
 rw [c1]
 dsimp only
 rw [d1]
 dsimp only
 rw [f1]
 dsimp only
 rw [g1]
 dsimp only
 rw [i1]
 dsimp only
 rw [Int.toNat_natCast, j1, qq0 v7]
 dsimp only
 have hleft : ZT l a' false = 0 := by
  unfold ZT
  have := (zI l a').1 j3
  have hz := congrArg List.length j2
  simp at hz
  simp
  omega
 unfold qhZ
 rw [hleft, h]
 rfl
theorem qoz {qk qz inc lo hi seq qp qW qK qb : Int} {qd : LR} (h : qif qk qz inc lo hi seq qp qW qK qb qd = true) : qW = 0 ∧ qK = 0 ∧ qb = 0 := by
 unfold qif at h
 split at h
 ·cases h
 ·rename_i hc
  simp only [Bool.or_eq_true, not_or, bne_iff_ne, ne_eq, Decidable.not_not] at hc
  exact ⟨hc.2.2.1, hc.2.2.2.1, hc.2.2.2.2⟩
theorem be1 (v : Int) (h0 : 0 ≤ v) (h1 : v < 256) : be 1 v = [v] := by
 show be 0 (v / 256) ++ [v % 256] = [v]
 rw [show v % 256 = v from by omega]
 rfl
theorem qml : ∀ (l : LR), (l.flatMap qdr).length = 5 * l.length
 | [] => rfl
 | x :: l => by rw [List.flatMap_cons, List.length_append, qml l, qiH, List.length_cons]; omega
theorem qqz (qk qz inc lo hi seq qp : Int) (qd : LR) : (qcn qk qz inc lo hi seq qp qd).length = 15 + 5 * qd.length := by
 unfold qcn qgZ
 simp only [List.length_append, zG, qml]
theorem qqx (l : List Int) (h : (Ql l).2.2.2.2.2.2.2.2 ≠ 0) : Ql l = (0, 0, 0, 0, 0, 0, 0, [], 4) := by
 unfold Ql qhZ at h ⊢
 dsimp only at h ⊢
 split
 ·rename_i hc
  rw [if_pos hc] at h
  exact absurd rfl h
 ·rfl
def ZU (b : LF) : Int := ((b.map fun x => 3 + x.2.length).sum : Nat)
def qdb (r : (Int × Int × Int × (Int × Int) × Bool × LF)) : Int := 23 + ZU r.2.2.2.2.2
def qbr : LR → Int
 | [] => 0
 | r :: l => qdb r + qbr l
def qex (qk qz inc lo hi seq qp qW qK qb : Int) (qd : LR) : Int :=
 if !q0 qk qz inc lo hi seq qp qW qK qb qd then 0 else 22 + (if qv qk 0 then 5 else 0) + (if qv qk 1 then 5 else 0) + qbr qd
def qcK : LR → Bool
 | [] => true
 | r :: l => if decide (r.2.1 > 4294967295) then false else qcK l
def qbp (qk qz inc lo hi seq qp qW qK qb : Int) (qd : LR) : Bool :=
 if !q0 qk qz inc lo hi seq qp qW qK qb qd || (qk == 9 || (qK != 0 || decide (qex qk qz inc lo hi seq qp qW qK qb qd > 65499))) then false else qcK qd
def qgz (b : LF) : Bool := qbQ b && zo b
def qnL (t : Int) : Bool := decide (0 ≤ t) && decide (t ≤ 255)
def qfm : Den.Sum := ⟨[.dat tQr true], fun qH ql κ => match qH, ql with
 | [.agg [.d (.int .i64) rid, .d (.int .i64) zB, .d (.int .i64) rst, .d (.int .i64) rlo, .d (.int .i64) rhi, .d .bool zD, .d (.sl (.pair (.int .i64) (.sl (.int .u8)))) zu]], [] => if qgz zu = true then κ [.d (.int .i64) (qdb (rid, zB, rst, (rlo, rhi), zD, zu))] [] else none
 | _, _ => none⟩
def qem : Den.Sum := ⟨[.dat (.pair tQi (.pair tQi (.pair tQi (.pair (.pair tQi tQi) (.pair tQi (.pair tQi (.pair tQi (.pair tQi (.pair tQi (.sl tQr)))))))))) true], fun qH ql κ => match qH, ql with
 | [.agg [.d (.int .i64) qG, .d (.int .i64) qu, .d (.int .i64) qQ, .d (.int .i64) mlo, .d (.int .i64) mhi, .d (.int .i64) qR, .d (.int .i64) qn, .d (.int .i64) qJ, .d (.int .i64) qx, .d (.int .i64) qI, .d (.sl (.pair (.int .i64) (.pair (.int .i64) (.pair (.int .i64) (.pair (.pair (.int .i64) (.int .i64)) (.pair .bool (.sl (.pair (.int .i64) (.sl (.int .u8)))))))))) qt]], [] => if za qt = true then κ [.d (.int .i64) (qex qG qu qQ mlo mhi qR qn qJ qx qI qt)] [] else none
 | _, _ => none⟩
def qcS : Den.Sum := ⟨[.dat (.pair tQi (.pair tQi (.pair tQi (.pair (.pair tQi tQi) (.pair tQi (.pair tQi (.pair tQi (.pair tQi (.pair tQi (.sl tQr)))))))))) true], fun qH ql κ => match qH, ql with
 | [.agg [.d (.int .i64) qG, .d (.int .i64) qu, .d (.int .i64) qQ, .d (.int .i64) mlo, .d (.int .i64) mhi, .d (.int .i64) qR, .d (.int .i64) qn, .d (.int .i64) qJ, .d (.int .i64) qx, .d (.int .i64) qI, .d (.sl (.pair (.int .i64) (.pair (.int .i64) (.pair (.int .i64) (.pair (.pair (.int .i64) (.int .i64)) (.pair .bool (.sl (.pair (.int .i64) (.sl (.int .u8)))))))))) qt]], [] => if za qt = true then κ [.d .bool (qbp qG qu qQ mlo mhi qR qn qJ qx qI qt)] [] else none
 | _, _ => none⟩
def qdL : Den.Sum := ⟨[.raw, .raw, .raw], fun qH ql κ => match qH, ql with
 | [.d (.int .i64) t, .d (.int .i64) n, .d (.int .i64) v], [] => if z8 n v = true then κ [.agg [.d (.int .i64) t, .d (.sl (.int .u8)) (be n.toNat v)]] [] else none
 | _, _ => none⟩
def qjj : Env := ⟨th, gam [], fun i => if i = 3 then ⟨[3, 7, 8, 9], [], []⟩ else ⟨[], [], []⟩⟩
def Qm.k (rs : List AV) (os : List Den.Obj) : Option Int :=
 match rs, os with
 | [.d (.int .i64) r0], [] => some r0
 | _, _ => none
def Qm.s3 (rid zB rst rlo rhi : Int) (zD : Bool) (zu : LF) (x0 x1 x2 : Int) : St := ⟨[dD, dD, dD, .d tQi x0, dD, dD, dD, .d (.sl (.pair tQi (.sl (.int .u8)))) (zu), .d tQi x1, .d tQi x2, dD, dD, dD, dD, dD, dD, dD, dD, dD, dD, .dead], ofL [], 0⟩
def Qm.p3 (qa : Nat) (rid zB rst rlo rhi : Int) (zD : Bool) (zu : LF) (k : Nat) := fun x0 x1 x2 => lp qjj qa Tryz.f128 [.raw] 0 Qm.k 3 [] k (Qm.s3 rid zB rst rlo rhi zD zu x0 x1 x2)
def Qm.b3 (rid zB rst rlo rhi : Int) (zD : Bool) (zu : LF) (A3 : Int → Int → Int → Option Int) (x0 x1 x2 : Int) : Option Int :=
 (if (decide (x2 < x1)) then (match (idx zu x2) with | none => none | some y3 => A3 (IntKind.wrap .i64 (x0 + (IntKind.wrap .i64 ((3 : Int) + ((((List.length y3.2)) : Nat) : Int))))) x1 (IntKind.wrap .i64 (x2 + (1 : Int)))) else some (x0))
def Qm.l3 (qa : Nat) (rid zB rst rlo rhi : Int) (zD : Bool) (zu : LF) : Nat → Int → Int → Int → Option Int
 | 0, _, _, _ => none
 | k + 1, x0, x1, x2 => Qm.b3 rid zB rst rlo rhi zD zu (Qm.l3 qa rid zB rst rlo rhi zD zu k) x0 x1 x2
def Qm.b (rid zB rst rlo rhi : Int) (zD : Bool) (zu : LF) (E3 : Int → Int → Int → Option Int) : Option Int :=
 E3 (23 : Int) ((((List.length zu)) : Nat) : Int) (0 : Int)
def Qm.f (qa : Nat) (rid zB rst rlo rhi : Int) (zD : Bool) (zu : LF) : Option Int := Qm.b rid zB rst rlo rhi zD zu (Qm.l3 qa rid zB rst rlo rhi zD zu qa)
theorem Qm.l3_eq (qa : Nat) (rid zB rst rlo rhi : Int) (zD : Bool) (zu : LF) : ∀ k : Nat, Qm.p3 qa rid zB rst rlo rhi zD zu k = Qm.l3 qa rid zB rst rlo rhi zD zu k
 | 0 => by kernel_rfl
 | k + 1 => by
  refine Eq.trans (b := Qm.b3 rid zB rst rlo rhi zD zu (Qm.p3 qa rid zB rst rlo rhi zD zu k)) (by kernel_rfl) ?_
  rw [Qm.l3_eq qa rid zB rst rlo rhi zD zu k]
  kernel_rfl
theorem Qm.eq (qa : Nat) (rid zB rst rlo rhi : Int) (zD : Bool) (zu : LF) : (denF qjj loopN qa Tryz.f128 [.raw] [.agg [.d tQi rid, .d tQi zB, .d tQi rst, .d tQi rlo, .d tQi rhi, .d .bool zD, .d (.sl (.pair tQi (.sl (.int .u8)))) zu]] [] Qm.k) = Qm.f qa rid zB rst rlo rhi zD zu := by
 refine Eq.trans (b := Qm.b rid zB rst rlo rhi zD zu (Qm.p3 qa rid zB rst rlo rhi zD zu qa)) (by kernel_rfl) ?_
 rw [Qm.l3_eq qa rid zB rst rlo rhi zD zu qa]
 kernel_rfl
def qkZ : Env := ⟨th, gam [(76, Q1), (41, qaa), (128, qfm)], fun i => if i = 9 then ⟨[3, 20, 21, 22], [], []⟩ else ⟨[], [], []⟩⟩
def QJ.k (rs : List AV) (os : List Den.Obj) : Option Int :=
 match rs, os with
 | [.d (.int .i64) r0], [] => some r0
 | _, _ => none
def QJ.s9 (qG qu qQ mlo mhi qR qn qJ qx qI : Int) (qt : LR) (x0 x1 x2 : Int) : St := ⟨[dD, dD, dD, .d tQi x0, dD, dD, dD, dD, dD, dD, dD, dD, dD, dD, dD, dD, dD, dD, dD, dD, .d (.sl tQr) (qt), .d tQi x1, .d tQi x2, dD, dD, dD, dD, dD, dD, dD, dD, .dead], ofL [], 0⟩
def QJ.p9 (qa : Nat) (qG qu qQ mlo mhi qR qn qJ qx qI : Int) (qt : LR) (k : Nat) := fun x0 x1 x2 => lp qkZ qa Tryz.f114 [.raw] 0 QJ.k 9 [] k (QJ.s9 qG qu qQ mlo mhi qR qn qJ qx qI qt x0 x1 x2)
def QJ.b9 (qG qu qQ mlo mhi qR qn qJ qx qI : Int) (qt : LR) (A9 : Int → Int → Int → Option Int) (x0 x1 x2 : Int) : Option Int :=
 (if (decide (x2 < x1)) then (match (idx qt x2) with | none => none | some y3 => (if (qgz y3.2.2.2.2.2) then A9 (IntKind.wrap .i64 (x0 + (qdb (y3.1, (y3.2.1, (y3.2.2.1, ((y3.2.2.2.1.1, y3.2.2.2.1.2), (y3.2.2.2.2.1, y3.2.2.2.2.2)))))))) x1 (IntKind.wrap .i64 (x2 + (1 : Int))) else none)) else some (x0))
def QJ.l9 (qa : Nat) (qG qu qQ mlo mhi qR qn qJ qx qI : Int) (qt : LR) : Nat → Int → Int → Int → Option Int
 | 0, _, _, _ => none
 | k + 1, x0, x1, x2 => QJ.b9 qG qu qQ mlo mhi qR qn qJ qx qI qt (QJ.l9 qa qG qu qQ mlo mhi qR qn qJ qx qI qt k) x0 x1 x2
def QJ.b (qG qu qQ mlo mhi qR qn qJ qx qI : Int) (qt : LR) (E9 : Int → Int → Int → Option Int) : Option Int :=
 (if (za qt) then (if (!(q0 qG qu qQ mlo mhi qR qn qJ qx qI qt)) then some ((0 : Int)) else (if (qv qG (0 : Int)) then (if (qv qG (1 : Int)) then E9 (IntKind.wrap .i64 ((IntKind.wrap .i64 ((22 : Int) + (5 : Int))) + (5 : Int))) ((((List.length qt)) : Nat) : Int) (0 : Int) else E9 (IntKind.wrap .i64 ((22 : Int) + (5 : Int))) ((((List.length qt)) : Nat) : Int) (0 : Int)) else (if (qv qG (1 : Int)) then E9 (IntKind.wrap .i64 ((22 : Int) + (5 : Int))) ((((List.length qt)) : Nat) : Int) (0 : Int) else E9 (22 : Int) ((((List.length qt)) : Nat) : Int) (0 : Int)))) else none)
def QJ.f (qa : Nat) (qG qu qQ mlo mhi qR qn qJ qx qI : Int) (qt : LR) : Option Int := QJ.b qG qu qQ mlo mhi qR qn qJ qx qI qt (QJ.l9 qa qG qu qQ mlo mhi qR qn qJ qx qI qt qa)
theorem QJ.l9_eq (qa : Nat) (qG qu qQ mlo mhi qR qn qJ qx qI : Int) (qt : LR) : ∀ k : Nat, QJ.p9 qa qG qu qQ mlo mhi qR qn qJ qx qI qt k = QJ.l9 qa qG qu qQ mlo mhi qR qn qJ qx qI qt k
 | 0 => by kernel_rfl
 | k + 1 => by
  refine Eq.trans (b := QJ.b9 qG qu qQ mlo mhi qR qn qJ qx qI qt (QJ.p9 qa qG qu qQ mlo mhi qR qn qJ qx qI qt k)) (by kernel_rfl) ?_
  rw [QJ.l9_eq qa qG qu qQ mlo mhi qR qn qJ qx qI qt k]
  kernel_rfl
theorem QJ.eq (qa : Nat) (qG qu qQ mlo mhi qR qn qJ qx qI : Int) (qt : LR) : (denF qkZ loopN qa Tryz.f114 [.raw] [.agg [.d tQi qG, .d tQi qu, .d tQi qQ, .d tQi mlo, .d tQi mhi, .d tQi qR, .d tQi qn, .d tQi qJ, .d tQi qx, .d tQi qI, .d (.sl tQr) qt]] [] QJ.k) = QJ.f qa qG qu qQ mlo mhi qR qn qJ qx qI qt := by
 refine Eq.trans (b := QJ.b qG qu qQ mlo mhi qR qn qJ qx qI qt (QJ.p9 qa qG qu qQ mlo mhi qR qn qJ qx qI qt qa)) (by kernel_rfl) ?_
 rw [QJ.l9_eq qa qG qu qQ mlo mhi qR qn qJ qx qI qt qa]
 kernel_rfl
def qk0 : Env := ⟨th, gam [(76, Q1), (114, qem)], fun i => if i = 4 then ⟨[24, 25, 26], [], []⟩ else ⟨[], [], []⟩⟩
def QK.k (rs : List AV) (os : List Den.Obj) : Option Bool :=
 match rs, os with
 | [.d .bool r0], [] => some r0
 | _, _ => none
def QK.s4 (qG qu qQ mlo mhi qR qn qJ qx qI : Int) (qt : LR) (x0 x1 : Int) : St := ⟨[dD, dD, dD, dD, dD, dD, dD, dD, dD, dD, dD, dD, dD, dD, dD, dD, dD, dD, dD, dD, dD, dD, dD, dD, .d (.sl tQr) (qt), .d tQi x0, .d tQi x1, dD, dD, dD, dD, dD, dD, .dead], ofL [], 0⟩
def QK.p4 (qa : Nat) (qG qu qQ mlo mhi qR qn qJ qx qI : Int) (qt : LR) (k : Nat) := fun x0 x1 => lp qk0 qa Tryz.f87 [.raw] 0 QK.k 4 [] k (QK.s4 qG qu qQ mlo mhi qR qn qJ qx qI qt x0 x1)
def QK.b4 (qG qu qQ mlo mhi qR qn qJ qx qI : Int) (qt : LR) (A4 : Int → Int → Option Bool) (x0 x1 : Int) : Option Bool :=
 (if (decide (x1 < x0)) then (match (idx qt x1) with | none => none | some y2 => (if (decide (y2.2.1 > (veil (4294967295 : Int)))) then some (false) else A4 x0 (IntKind.wrap .i64 (x1 + (1 : Int))))) else some (true))
def QK.l4 (qa : Nat) (qG qu qQ mlo mhi qR qn qJ qx qI : Int) (qt : LR) : Nat → Int → Int → Option Bool
 | 0, _, _ => none
 | k + 1, x0, x1 => QK.b4 qG qu qQ mlo mhi qR qn qJ qx qI qt (QK.l4 qa qG qu qQ mlo mhi qR qn qJ qx qI qt k) x0 x1
def QK.b (qG qu qQ mlo mhi qR qn qJ qx qI : Int) (qt : LR) (E4 : Int → Int → Option Bool) : Option Bool :=
 (if (za qt) then (if (!(q0 qG qu qQ mlo mhi qR qn qJ qx qI qt)) then some (false) else (if (qG == (9 : Int)) then some (false) else (if (qx != (0 : Int)) then some (false) else (if (za qt) then (if (decide ((qex qG qu qQ mlo mhi qR qn qJ qx qI qt) > (65499 : Int))) then some (false) else E4 ((((List.length qt)) : Nat) : Int) (0 : Int)) else none)))) else none)
def QK.f (qa : Nat) (qG qu qQ mlo mhi qR qn qJ qx qI : Int) (qt : LR) : Option Bool := QK.b qG qu qQ mlo mhi qR qn qJ qx qI qt (QK.l4 qa qG qu qQ mlo mhi qR qn qJ qx qI qt qa)
theorem QK.l4_eq (qa : Nat) (qG qu qQ mlo mhi qR qn qJ qx qI : Int) (qt : LR) : ∀ k : Nat, QK.p4 qa qG qu qQ mlo mhi qR qn qJ qx qI qt k = QK.l4 qa qG qu qQ mlo mhi qR qn qJ qx qI qt k
 | 0 => by kernel_rfl
 | k + 1 => by
  refine Eq.trans (b := QK.b4 qG qu qQ mlo mhi qR qn qJ qx qI qt (QK.p4 qa qG qu qQ mlo mhi qR qn qJ qx qI qt k)) (by kernel_rfl) ?_
  rw [QK.l4_eq qa qG qu qQ mlo mhi qR qn qJ qx qI qt k]
  kernel_rfl
theorem QK.eq (qa : Nat) (qG qu qQ mlo mhi qR qn qJ qx qI : Int) (qt : LR) : (denF qk0 loopN qa Tryz.f87 [.raw] [.agg [.d tQi qG, .d tQi qu, .d tQi qQ, .d tQi mlo, .d tQi mhi, .d tQi qR, .d tQi qn, .d tQi qJ, .d tQi qx, .d tQi qI, .d (.sl tQr) qt]] [] QK.k) = QK.f qa qG qu qQ mlo mhi qR qn qJ qx qI qt := by
 refine Eq.trans (b := QK.b qG qu qQ mlo mhi qR qn qJ qx qI qt (QK.p4 qa qG qu qQ mlo mhi qR qn qJ qx qI qt qa)) (by kernel_rfl) ?_
 rw [QK.l4_eq qa qG qu qQ mlo mhi qR qn qJ qx qI qt qa]
 kernel_rfl
def qpM : Env := ⟨th, gam [(78, qbT), (79, qcR), (82, qbW)], fun i => ⟨[], [], []⟩⟩
def qd6.k (rs : List AV) (os : List Den.Obj) : Option (Int × (List Int)) :=
 match rs, os with
 | [.agg [.d (.int .i64) r0, .d (.sl (.int .u8)) r1]], [] => some (r0, r1)
 | _, _ => none
def qd6.b (t n v : Int) : Option (Int × (List Int)) :=
 (if (z8 n v) then (if (Zf (be (Int.toNat n) v)) then some (t, (be (Int.toNat n) v)) else none) else none)
def qd6.f (qa : Nat) (t n v : Int) : Option (Int × (List Int)) := qd6.b t n v
theorem qd6.eq (qa : Nat) (t n v : Int) : (denF qpM loopN qa Tryz.f88 [.dat (.pair tQi (.sl (.int .u8))) true] [.d tQi t, .d tQi n, .d tQi v] [] qd6.k) = qd6.f qa t n v := by
 kernel_rfl
theorem qga (x : Int × List Int) (b : LF) : ZU (x :: b) = 3 + (x.2.length : Int) + ZU b := by
 unfold ZU; simp
theorem qht (b : LF) : 0 ≤ ZU b := by unfold ZU; omega
theorem qlx : ∀ (l : LF) (qe size : Int), size ≤ 4096 → qfS l qe size = true → size + ZU l ≤ 4096 + 3 * (l.length : Int)
 | [], qe, size, h0, h => by simp [ZU]; omega
 | x :: l, qe, size, h0, h => by
  unfold qfS at h
  split at h
  ·cases h
  ·split at h
   ·cases h
   ·rename_i h1 h2
    simp at h2
    have ih := qlx l x.1 (size + (x.2.length : Int)) h2 h
    rw [qga]
    simp
    omega
theorem Za {b : LF} (h : qbQ b = true) : b.length ≤ 32 ∧ 0 ≤ ZU b ∧ ZU b ≤ 4192 := by
 unfold qbQ at h
 split at h
 ·cases h
 ·rename_i h1
  simp at h1
  have := qlx b 32 0 (by omega) h
  have := qht b
  omega
theorem qkl (b : LF) : qgz b = true ↔ qbQ b = true ∧ zo b = true := by unfold qgz; simp
theorem Qm.loop (qa : Nat) (id inc st lo hi : Int) (cut : Bool) (bag : LF) (hb : bag.length ≤ 32) : ∀ (k i : Nat) (n : Int), i ≤ bag.length → bag.length - i < k → 0 ≤ n → n + ZU (bag.drop i) < 1000000 →
  Qm.l3 qa id inc st lo hi cut bag k n (bag.length : Int) (i : Int) = some (n + ZU (bag.drop i)) := by
 intro k
 induction k with
 | zero => intro i n h1 h2; omega
 | succ k ih =>
  intro i n h1 h2 h3 h4
  rw [Qm.l3]
  unfold Qm.b3
  by_cases hi' : i < bag.length
  ·rw [if_pos (by simp; omega), Qh, List.getElem?_eq_getElem hi']
   dsimp only
   rw [List.drop_eq_getElem_cons hi', qga] at h4 ⊢
   have hn := qht (bag.drop (i + 1))
   rw [qV (3 + _) (by omega) (by omega), qV (n + _) (by omega) (by omega), qV ((i : Int) + 1) (by omega) (by omega)]
   have := ih (i + 1) (n + (3 + (bag[i].2.length : Int))) (by omega) (by omega) (by omega) (by omega)
   rw [show ((i + 1 : Nat) : Int) = (i : Int) + 1 from by omega] at this
   rw [this]
   congr 1
   omega
  ·rw [if_neg (by simp; omega), List.drop_of_length_le (by omega)]
   simp [ZU]
theorem Qm.pure (id inc st lo hi : Int) (cut : Bool) (bag : LF) (hl : qgz bag = true) :
  Qm.f (bag.length + 1) id inc st lo hi cut bag = some (qdb (id, inc, st, (lo, hi), cut, bag)) := by
 obtain ⟨h1, h2⟩ := (qkl bag).1 hl
 obtain ⟨b1, b2, b3⟩ := Za h1
 unfold Qm.f Qm.b
 have := Qm.loop (bag.length + 1) id inc st lo hi cut bag b1 (bag.length + 1) 0 23 (by omega) (by omega) (by omega) (by rw [List.drop_zero]; omega)
 rw [List.drop_zero] at this
 exact this
theorem qkM (r : Int × Int × Int × (Int × Int) × Bool × LF) : (r.1, r.2.1, r.2.2.1, (r.2.2.2.1.1, r.2.2.2.1.2), r.2.2.2.2.1, r.2.2.2.2.2) = r := rfl
theorem qli {r : Int × Int × Int × (Int × Int) × Bool × LF} (h : zw r = true) : 23 ≤ qdb r ∧ qdb r ≤ 4215 := by
 obtain ⟨_, _, _, _, _, _, _, f8, _⟩ := zE h
 have := Za f8
 unfold qdb
 omega
theorem qgR : ∀ (l : LR), (∀ r ∈ l, zw r = true) → 0 ≤ qbr l ∧ qbr l ≤ 4215 * (l.length : Int)
 | [], h => by simp [qbr]
 | r :: l, h => by
  have h1 := qli (h r (by simp))
  have h2 := qgR l (fun r hr => h r (by simp [hr]))
  simp [qbr]
  omega
theorem QJ.loop (qa : Nat) (qk qz inc lo hi seq qp qW qK qb : Int) (qd : LR) (hr : ∀ r ∈ qd, zw r = true ∧ zo r.2.2.2.2.2 = true) (hlen : qd.length ≤ 255) : ∀ (k i : Nat) (n : Int), i ≤ qd.length → qd.length - i < k → 0 ≤ n → n + qbr (qd.drop i) < 2000000 →
  QJ.l9 qa qk qz inc lo hi seq qp qW qK qb qd k n (qd.length : Int) (i : Int) = some (n + qbr (qd.drop i)) := by
 intro k
 induction k with
 | zero => intro i n h1 h2; omega
 | succ k ih =>
  intro i n h1 h2 h3 h4
  rw [QJ.l9]
  unfold QJ.b9
  by_cases hi' : i < qd.length
  ·rw [if_pos (by simp; omega), Qh, List.getElem?_eq_getElem hi']
   dsimp only
   rw [List.drop_eq_getElem_cons hi'] at h4 ⊢
   have hn := qgR (qd.drop (i + 1)) (fun r hm => (hr r (List.mem_of_mem_drop hm)).1)
   obtain ⟨hok, hs⟩ := hr qd[i] (List.getElem_mem hi')
   have hfit : qgz qd[i].2.2.2.2.2 = true := (qkl _).2 ⟨(zE hok).2.2.2.2.2.2.2.1, hs⟩
   have hq := qli hok
   simp only [qbr] at h4 ⊢
   rw [qkM, if_pos hfit, qV (n + _) (by omega) (by omega), qV ((i : Int) + 1) (by omega) (by omega)]
   have := ih (i + 1) (n + qdb qd[i]) (by omega) (by omega) (by omega) (by omega)
   rw [show ((i + 1 : Nat) : Int) = (i : Int) + 1 from by omega] at this
   rw [this]
   congr 1
   omega
  ·rw [if_neg (by simp; omega), List.drop_of_length_le (by omega)]
   simp [qbr]
theorem QJ.pure (qk qz inc lo hi seq qp qW qK qb : Int) (qd : LR) (hl : za qd = true) :
  QJ.f (qd.length + 1) qk qz inc lo hi seq qp qW qK qb qd = some (qex qk qz inc lo hi seq qp qW qK qb qd) := by
 unfold QJ.f QJ.b qex
 rw [if_pos hl]
 cases hv : q0 qk qz inc lo hi seq qp qW qK qb qd
 ·rfl
 obtain ⟨v1, v2, v3, v4, v5, v6, v7, v8, v9, v10, v11, _, v12, v13⟩ := Qj hv
 have hs := ((QO qd).1 hl).2
 have hn := qgR qd v13
 have hlp := fun n h0 h1 => QJ.loop (qd.length + 1) qk qz inc lo hi seq qp qW qK qb qd (fun r hr => ⟨v13 r hr, hs r hr⟩) v12 (qd.length + 1) 0 n (by omega) (by omega) h0 h1
 simp only [List.drop_zero] at hlp
 have w1 : IntKind.wrap .i64 (22 + 5) = 27 := rfl
 have w2 : IntKind.wrap .i64 (27 + 5) = 32 := rfl
 have hz : ((0 : Nat) : Int) = 0 := rfl
 rw [hz] at hlp
 simp only [w1, w2, hlp 22 (by omega) (by omega), hlp 27 (by omega) (by omega), hlp 32 (by omega) (by omega)]
 cases qv qk 0 <;> cases qv qk 1 <;> simp
theorem QK.loop (qa : Nat) (qk qz inc lo hi seq qp qW qK qb : Int) (qd : LR) (hlen : qd.length < 281474976710656) : ∀ (k i : Nat), i ≤ qd.length → qd.length - i < k →
  QK.l4 qa qk qz inc lo hi seq qp qW qK qb qd k (qd.length : Int) (i : Int) = some (qcK (qd.drop i)) := by
 intro k
 induction k with
 | zero => intro i h1 h2; omega
 | succ k ih =>
  intro i h1 h2
  rw [QK.l4]
  unfold QK.b4
  by_cases hi' : i < qd.length
  ·rw [if_pos (by simp; omega), Qh, List.getElem?_eq_getElem hi', veil_eq]
   dsimp only
   rw [List.drop_eq_getElem_cons hi', qcK]
   have := ih (i + 1) (by omega) (by omega)
   rw [show ((i + 1 : Nat) : Int) = (i : Int) + 1 from by omega] at this
   rw [qV ((i : Int) + 1) (by omega) (by omega), this]
   split <;> rfl
  ·rw [if_neg (by simp; omega), List.drop_of_length_le (by omega)]
   rfl
theorem QK.pure (qk qz inc lo hi seq qp qW qK qb : Int) (qd : LR) (hl : za qd = true) :
  QK.f (qd.length + 1) qk qz inc lo hi seq qp qW qK qb qd = some (qbp qk qz inc lo hi seq qp qW qK qb qd) := by
 unfold QK.f QK.b qbp
 have := QK.loop (qd.length + 1) qk qz inc lo hi seq qp qW qK qb qd ((QO qd).1 hl).1 (qd.length + 1) 0 (by omega) (by omega)
 rw [show ((0 : Nat) : Int) = 0 from rfl, List.drop_zero] at this
 rw [if_pos hl, this]
 cases q0 qk qz inc lo hi seq qp qW qK qb qd <;> cases (qk == 9) <;> cases (qK != 0) <;> cases (decide (qex qk qz inc lo hi seq qp qW qK qb qd > 65499)) <;> simp [hl]
theorem qoQ (t : Int) : qnL t = true ↔ 0 ≤ t ∧ t ≤ 255 := by unfold qnL; simp
theorem qd6.pure (t n v : Int) (hf : z8 n v = true) : qd6.f 0 t n v = some (t, be n.toNat v) := by
 unfold qd6.f qd6.b
 have hr : Zf (be n.toNat v) = true := qbi (by rw [zG]; have := (qbA n v).1 hf; omega)
 rw [if_pos hf, if_pos hr]
theorem qnW : SumDet qfm := zi fun _ _ _ _ => by
 unfold qfm
 simp only
 split
 ·first | rfl | (split <;> rfl)
 ·rfl
theorem qo2 : SumOk Tryz.prog 128 qfm := by
 have hE : EnvOk Tryz.prog qjj := env_ok (l := []) th_ok qX trivial _
 refine sum_ok hE Tryz.func128 rfl (by kernel_rfl) qfm [.raw] Qm.k ?_
 intro R avs ql κ r h
 unfold qfm at h
 simp only at h
 split at h
 ·rename_i rid zB rst rlo rhi zD zu
  split at h
  case isFalse => cases h
  rename_i hl
  refine ⟨zu.length + 1, _, _, _, (Qm.eq (zu.length + 1) rid zB rst rlo rhi zD zu).trans (Qm.pure rid zB rst rlo rhi zD zu hl), ?_, h⟩
  intro rs ros hk
  unfold Qm.k at hk
  split at hk
  ·first | (cases hk; exact ⟨rfl, rfl⟩) | (rw [← Option.some.inj hk]; exact ⟨rfl, rfl⟩)
  ·cases hk
 ·cases h
theorem qmO : SumDet qem := zi fun _ _ _ _ => by
 unfold qem
 simp only
 split
 ·first | rfl | (split <;> rfl)
 ·rfl
theorem qnU : SumOk Tryz.prog 114 qem := by
 have hE : EnvOk Tryz.prog qkZ := env_ok (l := [(76, Q1), (41, qaa), (128, qfm)]) th_ok qX ⟨⟨qaY, qav⟩, ⟨qbJ, qa5⟩, ⟨qo2, qnW⟩, trivial⟩ _
 refine sum_ok hE Tryz.func114 rfl (by kernel_rfl) qem [.raw] QJ.k ?_
 intro R avs ql κ r h
 unfold qem at h
 simp only at h
 split at h
 ·rename_i qG qu qQ mlo mhi qR qn qJ qx qI qt
  split at h
  case isFalse => cases h
  rename_i hl
  refine ⟨qt.length + 1, _, _, _, (QJ.eq (qt.length + 1) qG qu qQ mlo mhi qR qn qJ qx qI qt).trans (QJ.pure qG qu qQ mlo mhi qR qn qJ qx qI qt hl), ?_, h⟩
  intro rs ros hk
  unfold QJ.k at hk
  split at hk
  ·first | (cases hk; exact ⟨rfl, rfl⟩) | (rw [← Option.some.inj hk]; exact ⟨rfl, rfl⟩)
  ·cases hk
 ·cases h
theorem qiA : SumDet qcS := zi fun _ _ _ _ => by
 unfold qcS
 simp only
 split
 ·first | rfl | (split <;> rfl)
 ·rfl
theorem qjQ : SumOk Tryz.prog 87 qcS := by
 have hE : EnvOk Tryz.prog qk0 := env_ok (l := [(76, Q1), (114, qem)]) th_ok qX ⟨⟨qaY, qav⟩, ⟨qnU, qmO⟩, trivial⟩ _
 refine sum_ok hE Tryz.func87 rfl (by kernel_rfl) qcS [.raw] QK.k ?_
 intro R avs ql κ r h
 unfold qcS at h
 simp only at h
 split at h
 ·rename_i qG qu qQ mlo mhi qR qn qJ qx qI qt
  split at h
  case isFalse => cases h
  rename_i hl
  refine ⟨qt.length + 1, _, _, _, (QK.eq (qt.length + 1) qG qu qQ mlo mhi qR qn qJ qx qI qt).trans (QK.pure qG qu qQ mlo mhi qR qn qJ qx qI qt hl), ?_, h⟩
  intro rs ros hk
  unfold QK.k at hk
  split at hk
  ·first | (cases hk; exact ⟨rfl, rfl⟩) | (rw [← Option.some.inj hk]; exact ⟨rfl, rfl⟩)
  ·cases hk
 ·cases h
theorem qjC : SumDet qdL := zi fun _ _ _ _ => by
 unfold qdL
 simp only
 split
 ·first | rfl | (split <;> rfl)
 ·rfl
theorem qk9 : SumOk Tryz.prog 88 qdL := by
 have hE : EnvOk Tryz.prog qpM := env_ok (l := [(78, qbT), (79, qcR), (82, qbW)]) th_ok qX ⟨⟨qgG, qfU⟩, ⟨qgK, qfM⟩, ⟨qgP, qf0⟩, trivial⟩ _
 refine sum_ok hE Tryz.func88 rfl (by kernel_rfl) qdL [.dat (.pair tQi (.sl (.int .u8))) true] qd6.k ?_
 intro R avs ql κ r h
 unfold qdL at h
 simp only at h
 split at h
 ·rename_i t n v
  split at h
  case isFalse => cases h
  rename_i hl
  refine ⟨0, _, _, _, (qd6.eq (0) t n v).trans (qd6.pure t n v hl), ?_, h⟩
  intro rs ros hk
  unfold qd6.k at hk
  split at hk
  ·first | (cases hk; exact ⟨rfl, rfl⟩) | (rw [← Option.some.inj hk]; exact ⟨rfl, rfl⟩)
  ·cases hk
 ·cases h
def Qe (x : (Int × List Int)) : List Int := x.1 :: ((x.2.length / 256 : Nat) : Int) :: ((x.2.length % 256 : Nat) : Int) :: x.2
def itB (t n v : Int) : List Int := t :: 0 :: n :: be n.toNat v
def qd3 (r : (Int × Int × Int × (Int × Int) × Bool × LF)) : Int := if r.2.2.2.2.1 then r.2.2.1 + 128 else r.2.2.1
def Q5 (r : (Int × Int × Int × (Int × Int) × Bool × LF)) : List Int := itB 1 2 r.1 ++ (itB 2 4 r.2.1 ++ (itB 3 1 (qd3 r) ++ (itB 4 1 (r.2.2.2.1.1 * 16 + r.2.2.2.1.2) ++ r.2.2.2.2.2.flatMap Qe)))
def qdR (r : (Int × Int × Int × (Int × Int) × Bool × LF)) : List Int := Qe (7, Q5 r)
def qab (qk qz inc lo hi seq qp : Int) (qd : LR) : List Int :=
 itB 1 1 qk ++ (itB 2 2 qz ++ (itB 3 6 inc ++ (itB 4 1 (lo * 16 + hi) ++ ((if qv qk 0 then itB 5 2 seq else []) ++ ((if qv qk 1 then itB 6 2 qp else []) ++ qd.flatMap qdR)))))
def qjY (r : (Int × Int × Int × (Int × Int) × Bool × LF)) : Bool := zw r && zo r.2.2.2.2.2
def qfc (r : (Int × Int × Int × (Int × Int) × Bool × LF)) : Bool := qjY r && decide (r.2.1 ≤ 4294967295)
def qa9 (r : (Int × Int × Int × (Int × Int) × Bool × LF)) : LF := [(1, be 2 r.1), (2, be 4 r.2.1), (3, be 1 (qd3 r)), (4, be 1 (r.2.2.2.1.1 * 16 + r.2.2.2.1.2))] ++ r.2.2.2.2.2
def qkf (qk qz inc lo hi seq qp qW qK qb : Int) (qd : LR) : Bool :=
 if !q0 qk qz inc lo hi seq qp qW qK qb qd || (qk == 9 || (qW != 0 || (qK != 0 || qb != 0))) then false else if !qcK qd then false else decide (((qab qk qz inc lo hi seq qp qd).length : Int) ≤ 65499)
def qfC (l : LF) : Bool := decide (l.length ≤ 300) && l.all fun x => qnL x.1 && decide (x.2.length ≤ 65535)
def qd1 (qk qz inc lo hi seq qp qW qK qb : Int) (qd : LR) : List Int × Int :=
 if !q0 qk qz inc lo hi seq qp qW qK qb qd then ([], 1) else if !qbp qk qz inc lo hi seq qp qW qK qb qd then ([], 14) else (qab qk qz inc lo hi seq qp qd, 0)
def qcA : Den.Sum := ⟨[.dat tQr true], fun qH ql κ => match qH, ql with
 | [.agg [.d (.int .i64) rid, .d (.int .i64) zB, .d (.int .i64) rst, .d (.int .i64) rlo, .d (.int .i64) rhi, .d .bool zD, .d (.sl (.pair (.int .i64) (.sl (.int .u8)))) zu]], [] => if qfc (rid, zB, rst, (rlo, rhi), zD, zu) = true then κ [.d (.sl (.pair (.int .i64) (.sl (.int .u8)))) (qa9 (rid, zB, rst, (rlo, rhi), zD, zu))] [] else none
 | _, _ => none⟩
def qft : Den.Sum := ⟨[.dat (.sl (.pair tQi (.sl (.int .u8)))) false], fun qH ql κ => match qH, ql with
 | [.d (.sl (.pair (.int .i64) (.sl (.int .u8)))) l], [] => if qfC l = true then κ [.d (.sl (.int .u8)) (l.flatMap Qe), .d (.int .i64) 0] [] else none
 | _, _ => none⟩
def qfx : Den.Sum := ⟨[.dat (.pair tQi (.pair tQi (.pair tQi (.pair (.pair tQi tQi) (.pair tQi (.pair tQi (.pair tQi (.pair tQi (.pair tQi (.sl tQr)))))))))) true], fun qH ql κ => match qH, ql with
 | [.agg [.d (.int .i64) qG, .d (.int .i64) qu, .d (.int .i64) qQ, .d (.int .i64) mlo, .d (.int .i64) mhi, .d (.int .i64) qR, .d (.int .i64) qn, .d (.int .i64) qJ, .d (.int .i64) qx, .d (.int .i64) qI, .d (.sl (.pair (.int .i64) (.pair (.int .i64) (.pair (.int .i64) (.pair (.pair (.int .i64) (.int .i64)) (.pair .bool (.sl (.pair (.int .i64) (.sl (.int .u8)))))))))) qt]], [] => if za qt = true then κ [.d (.sl (.int .u8)) (qd1 qG qu qQ mlo mhi qR qn qJ qx qI qt).1, .d (.int .i64) (qd1 qG qu qQ mlo mhi qR qn qJ qx qI qt).2] [] else none
 | _, _ => none⟩
def qly : Env := ⟨th, gam [(88, qdL), (80, qaD)], fun i => ⟨[], [], []⟩⟩
def qaL.k (rs : List AV) (os : List Den.Obj) : Option LF :=
 match rs, os with
 | [.d (.sl (.pair (.int .i64) (.sl (.int .u8)))) r0], [] => some r0
 | _, _ => none
def qaL.b (rid zB rst rlo rhi : Int) (zD : Bool) (zu : LF) : Option LF :=
 (if zD then (if (z8 (2 : Int) rid) then (if (z8 (4 : Int) zB) then (if (z8 (1 : Int) (IntKind.wrap .i64 (rst + (128 : Int)))) then (if (z8 (1 : Int) (Qk rlo rhi)) then (if ((((List.length (((1 : Int), (be (Int.toNat (2 : Int)) rid)) :: (((2 : Int), (be (Int.toNat (4 : Int)) zB)) :: (((3 : Int), (be (Int.toNat (1 : Int)) (IntKind.wrap .i64 (rst + (128 : Int))))) :: (((4 : Int), (be (Int.toNat (1 : Int)) (Qk rlo rhi))) :: ([] : LF)))))) + (List.length zu)) * (32 : Nat)) ≤ lim) then some (((((1 : Int), (be (Int.toNat (2 : Int)) rid)) :: (((2 : Int), (be (Int.toNat (4 : Int)) zB)) :: (((3 : Int), (be (Int.toNat (1 : Int)) (IntKind.wrap .i64 (rst + (128 : Int))))) :: (((4 : Int), (be (Int.toNat (1 : Int)) (Qk rlo rhi))) :: ([] : LF))))) ++ zu)) else none) else none) else none) else none) else none) else (if (z8 (2 : Int) rid) then (if (z8 (4 : Int) zB) then (if (z8 (1 : Int) rst) then (if (z8 (1 : Int) (Qk rlo rhi)) then (if ((((List.length (((1 : Int), (be (Int.toNat (2 : Int)) rid)) :: (((2 : Int), (be (Int.toNat (4 : Int)) zB)) :: (((3 : Int), (be (Int.toNat (1 : Int)) rst)) :: (((4 : Int), (be (Int.toNat (1 : Int)) (Qk rlo rhi))) :: ([] : LF)))))) + (List.length zu)) * (32 : Nat)) ≤ lim) then some (((((1 : Int), (be (Int.toNat (2 : Int)) rid)) :: (((2 : Int), (be (Int.toNat (4 : Int)) zB)) :: (((3 : Int), (be (Int.toNat (1 : Int)) rst)) :: (((4 : Int), (be (Int.toNat (1 : Int)) (Qk rlo rhi))) :: ([] : LF))))) ++ zu)) else none) else none) else none) else none) else none))
def qaL.f (qa : Nat) (rid zB rst rlo rhi : Int) (zD : Bool) (zu : LF) : Option LF := qaL.b rid zB rst rlo rhi zD zu
theorem qaL.eq (qa : Nat) (rid zB rst rlo rhi : Int) (zD : Bool) (zu : LF) : (denF qly loopN qa Tryz.f90 [.dat (.sl (.pair tQi (.sl (.int .u8)))) false] [.agg [.d tQi rid, .d tQi zB, .d tQi rst, .d tQi rlo, .d tQi rhi, .d .bool zD, .d (.sl (.pair tQi (.sl (.int .u8)))) zu]] [] qaL.k) = qaL.f qa rid zB rst rlo rhi zD zu := by
 kernel_rfl
def qks : Env := ⟨th, gam [], fun i => if i = 3 then ⟨[4, 8, 9, 10], [(4, 5, (.int .u8))], []⟩ else if i = 11 then ⟨[4, 6, 8, 9, 10, 32], [], []⟩ else ⟨[], [], []⟩⟩
def zY.k (rs : List AV) (os : List Den.Obj) : Option ((List Int) × Int) :=
 match rs, os with
 | [.d (.sl (.int .u8)) r0, .d (.int .i64) r1], [] => some (r0, r1)
 | _, _ => none
def zY.s11 (l : LF) (x4 x5 x6 : Int) (x7 : (List Int)) (x8 : Int) (x9 : (List Int)) : St := ⟨[dD, dD, dD, dD, .row 64, .dead, .ptr 65 0, .dead, .d (.sl (.pair tQi (.sl (.int .u8)))) (l), .d tQi x4, .d tQi x5, dD, dD, dD, dD, dD, dD, dD, dD, dD, dD, dD, dD, dD, dD, dD, dD, dD, dD, dD, dD, dD, .d tQi x6, dD, dD, dD, dD, dD, dD, dD, dD, dD, dD, dD, dD, dD, dD, dD, dD, dD, dD, dD, .dead], ofL [(64, .row 5 (.int .u8) x7 false), (65, .box [.d tQi x8, .d (.sl (.int .u8)) x9])], 0⟩
def zY.p11 (qa : Nat) (l : LF) (k3 k : Nat) := fun x4 x5 x6 x7 x8 x9 => lp qks qa Tryz.f89 [.dat (.sl (.int .u8)) false, .raw] 0 zY.k 11 [k3] k (zY.s11 l x4 x5 x6 x7 x8 x9)
def zY.b11 (l : LF) (A3 : Int → Int → (List Int) → Option ((List Int) × Int)) (A11 : Int → Int → Int → (List Int) → Int → (List Int) → Option ((List Int) × Int)) (x4 : Int) (x5 : Int) (x6 : Int) (x7 : (List Int)) (x8 : Int) (x9 : (List Int)) : Option ((List Int) × Int) :=
 (if (decide (x6 < (2 : Int))) then (if ((IntKind.wrap .i64 ((8 : Int) - (IntKind.wrap .i64 ((8 : Int) * x6)))) < (0 : Int)) then none else (if ((((List.length x7) + (List.length ((IntKind.wrap .u8 (Int.fdiv ((((List.length x9)) : Nat) : Int) ((2 : Int) ^ (Min.min (Int.toNat (IntKind.wrap .i64 ((8 : Int) - (IntKind.wrap .i64 ((8 : Int) * x6))))) (IntKind.bits .i64))))) :: ([] : List Int)))) * (1 : Nat)) ≤ lim) then A11 x4 x5 (IntKind.wrap .i64 (x6 + (1 : Int))) (x7 ++ ((IntKind.wrap .u8 (Int.fdiv ((((List.length x9)) : Nat) : Int) ((2 : Int) ^ (Min.min (Int.toNat (IntKind.wrap .i64 ((8 : Int) - (IntKind.wrap .i64 ((8 : Int) * x6))))) (IntKind.bits .i64))))) :: ([] : List Int))) x8 x9 else none)) else (if ((((List.length x7) + (List.length x9)) * (1 : Nat)) ≤ lim) then A3 x4 (IntKind.wrap .i64 (x5 + (1 : Int))) (x7 ++ x9) else none))
def zY.l11 (qa : Nat) (l : LF) (A3 : Int → Int → (List Int) → Option ((List Int) × Int)) : Nat → Int → Int → Int → (List Int) → Int → (List Int) → Option ((List Int) × Int)
 | 0, _, _, _, _, _, _ => none
 | k + 1, x4, x5, x6, x7, x8, x9 => zY.b11 l A3 (zY.l11 qa l A3 k) x4 x5 x6 x7 x8 x9
def zY.s3 (l : LF) (x0 x1 : Int) (x2 : (List Int)) : St := ⟨[dD, dD, dD, dD, .row 64, dD, dD, dD, .d (.sl (.pair tQi (.sl (.int .u8)))) (l), .d tQi x0, .d tQi x1, dD, dD, dD, dD, dD, dD, dD, dD, dD, dD, dD, dD, dD, dD, dD, dD, dD, dD, dD, dD, dD, dD, dD, dD, dD, dD, dD, dD, dD, dD, dD, dD, dD, dD, dD, dD, dD, dD, dD, dD, dD, .dead], ofL [(64, .row 5 (.int .u8) x2 false)], 0⟩
def zY.p3 (qa : Nat) (l : LF) (k : Nat) := fun x0 x1 x2 => lp qks qa Tryz.f89 [.dat (.sl (.int .u8)) false, .raw] 0 zY.k 3 [] k (zY.s3 l x0 x1 x2)
def zY.b3 (l : LF) (A3 : Int → Int → (List Int) → Option ((List Int) × Int)) (E11 : Int → Int → Int → (List Int) → Int → (List Int) → Option ((List Int) × Int)) (x0 : Int) (x1 : Int) (x2 : (List Int)) : Option ((List Int) × Int) :=
 (if (decide (x1 < x0)) then (match (idx l x1) with | none => none | some y3 => (if (decide (y3.1 < (0 : Int))) then some (([] : List Int), (5 : Int)) else (if (decide (y3.1 > (255 : Int))) then some (([] : List Int), (5 : Int)) else (if (decide (((((List.length y3.2)) : Nat) : Int) > (65535 : Int))) then some (([] : List Int), (3 : Int)) else (if ((((List.length x2) + (List.length ((IntKind.wrap .u8 y3.1) :: ([] : List Int)))) * (1 : Nat)) ≤ lim) then E11 x0 x1 (0 : Int) (x2 ++ ((IntKind.wrap .u8 y3.1) :: ([] : List Int))) y3.1 y3.2 else none))))) else some (x2, (0 : Int)))
def zY.l3 (qa : Nat) (l : LF) : Nat → Int → Int → (List Int) → Option ((List Int) × Int)
 | 0, _, _, _ => none
 | k + 1, x0, x1, x2 => zY.b3 l (zY.l3 qa l k) (zY.l11 qa l (zY.l3 qa l k) qa) x0 x1 x2
def zY.b (l : LF) (E3 : Int → Int → (List Int) → Option ((List Int) × Int)) : Option ((List Int) × Int) :=
 E3 ((((List.length l)) : Nat) : Int) (0 : Int) ([] : List Int)
def zY.f (qa : Nat) (l : LF) : Option ((List Int) × Int) := zY.b l (zY.l3 qa l qa)
theorem zY.l11_eq (qa : Nat) (l : LF) (k3 : Nat) : ∀ k : Nat, zY.p11 qa l k3 k = zY.l11 qa l (zY.p3 qa l k3) k
 | 0 => by kernel_rfl
 | k + 1 => by
  refine Eq.trans (b := zY.b11 l (zY.p3 qa l k3) (zY.p11 qa l k3 k)) (by kernel_rfl) ?_
  rw [zY.l11_eq qa l k3 k]
  kernel_rfl
theorem zY.l3_eq (qa : Nat) (l : LF) : ∀ k : Nat, zY.p3 qa l k = zY.l3 qa l k
 | 0 => by kernel_rfl
 | k + 1 => by
  refine Eq.trans (b := zY.b3 l (zY.p3 qa l k) (zY.p11 qa l k qa)) (by kernel_rfl) ?_
  rw [zY.l3_eq qa l k, zY.l11_eq qa l k qa, zY.l3_eq qa l k]
  kernel_rfl
theorem zY.eq (qa : Nat) (l : LF) : (denF qks loopN qa Tryz.f89 [.dat (.sl (.int .u8)) false, .raw] [.d (.sl (.pair tQi (.sl (.int .u8)))) l] [] zY.k) = zY.f qa l := by
 refine Eq.trans (b := zY.b l (zY.p3 qa l qa)) (by kernel_rfl) ?_
 rw [zY.l3_eq qa l qa]
 kernel_rfl
def qh6 : Env := ⟨th, gam [(76, Q1), (87, qcS), (88, qdL), (80, qaD), (41, qaa), (90, qcA), (89, qft)], fun i => if i = 11 then ⟨[4, 48, 49, 50], [], []⟩ else ⟨[], [], []⟩⟩
def Qa.k (rs : List AV) (os : List Den.Obj) : Option ((List Int) × Int) :=
 match rs, os with
 | [.d (.sl (.int .u8)) r0, .d (.int .i64) r1], [] => some (r0, r1)
 | _, _ => none
def Qa.s11 (qG qu qQ mlo mhi qR qn qJ qx qI : Int) (qt : LR) (x0 x1 : Int) (x2 : LF) : St := ⟨[dD, dD, dD, dD, .row 64, dD, dD, dD, dD, dD, dD, dD, dD, dD, dD, dD, dD, dD, dD, dD, dD, dD, dD, dD, dD, dD, dD, dD, dD, dD, dD, dD, dD, dD, dD, dD, dD, dD, dD, dD, dD, dD, dD, dD, dD, dD, dD, dD, .d (.sl tQr) (qt), .d tQi x0, .d tQi x1, dD, dD, dD, dD, dD, dD, dD, dD, dD, dD, dD, dD, dD, dD, dD, dD, dD, dD, .dead], ofL [(64, .row 86 (.pair tQi (.sl (.int .u8))) x2 false)], 0⟩
def Qa.p11 (qa : Nat) (qG qu qQ mlo mhi qR qn qJ qx qI : Int) (qt : LR) (k : Nat) := fun x0 x1 x2 => lp qh6 qa Tryz.f61 [.dat (.sl (.int .u8)) false, .raw] 0 Qa.k 11 [] k (Qa.s11 qG qu qQ mlo mhi qR qn qJ qx qI qt x0 x1 x2)
def Qa.b11 (qG qu qQ mlo mhi qR qn qJ qx qI : Int) (qt : LR) (A11 : Int → Int → LF → Option ((List Int) × Int)) (x0 : Int) (x1 : Int) (x2 : LF) : Option ((List Int) × Int) :=
 (if (decide (x1 < x0)) then (match (idx qt x1) with | none => none | some y3 => (if (qfc (y3.1, (y3.2.1, (y3.2.2.1, ((y3.2.2.2.1.1, y3.2.2.2.1.2), (y3.2.2.2.2.1, y3.2.2.2.2.2)))))) then (if (qfC (qa9 (y3.1, (y3.2.1, (y3.2.2.1, ((y3.2.2.2.1.1, y3.2.2.2.1.2), (y3.2.2.2.2.1, y3.2.2.2.2.2))))))) then (if ((((List.length x2) + (List.length (((7 : Int), (List.flatMap Qe (qa9 (y3.1, (y3.2.1, (y3.2.2.1, ((y3.2.2.2.1.1, y3.2.2.2.1.2), (y3.2.2.2.2.1, y3.2.2.2.2.2)))))))) :: ([] : LF)))) * (32 : Nat)) ≤ lim) then A11 x0 (IntKind.wrap .i64 (x1 + (1 : Int))) (x2 ++ (((7 : Int), (List.flatMap Qe (qa9 (y3.1, (y3.2.1, (y3.2.2.1, ((y3.2.2.2.1.1, y3.2.2.2.1.2), (y3.2.2.2.2.1, y3.2.2.2.2.2)))))))) :: ([] : LF))) else none) else none) else none)) else (if (qfC x2) then some ((List.flatMap Qe x2), 0) else none))
def Qa.l11 (qa : Nat) (qG qu qQ mlo mhi qR qn qJ qx qI : Int) (qt : LR) : Nat → Int → Int → LF → Option ((List Int) × Int)
 | 0, _, _, _ => none
 | k + 1, x0, x1, x2 => Qa.b11 qG qu qQ mlo mhi qR qn qJ qx qI qt (Qa.l11 qa qG qu qQ mlo mhi qR qn qJ qx qI qt k) x0 x1 x2
def Qa.b (qG qu qQ mlo mhi qR qn qJ qx qI : Int) (qt : LR) (E11 : Int → Int → LF → Option ((List Int) × Int)) : Option ((List Int) × Int) :=
 (if (za qt) then (if (!(q0 qG qu qQ mlo mhi qR qn qJ qx qI qt)) then some (([] : List Int), (1 : Int)) else (if (za qt) then (if (!(qbp qG qu qQ mlo mhi qR qn qJ qx qI qt)) then some (([] : List Int), (14 : Int)) else (if (z8 (1 : Int) qG) then (if (z8 (2 : Int) qu) then (if (z8 (6 : Int) qQ) then (if (z8 (1 : Int) (Qk mlo mhi)) then (if (qv qG (0 : Int)) then (if (z8 (2 : Int) qR) then (if (qv qG (1 : Int)) then (if (z8 (2 : Int) qn) then E11 ((((List.length qt)) : Nat) : Int) (0 : Int) (((((1 : Int), (be (Int.toNat (1 : Int)) qG)) :: (((2 : Int), (be (Int.toNat (2 : Int)) qu)) :: (((3 : Int), (be (Int.toNat (6 : Int)) qQ)) :: (((4 : Int), (be (Int.toNat (1 : Int)) (Qk mlo mhi))) :: ([] : LF))))) ++ (((5 : Int), (be (Int.toNat (2 : Int)) qR)) :: ([] : LF))) ++ (((6 : Int), (be (Int.toNat (2 : Int)) qn)) :: ([] : LF))) else none) else E11 ((((List.length qt)) : Nat) : Int) (0 : Int) ((((1 : Int), (be (Int.toNat (1 : Int)) qG)) :: (((2 : Int), (be (Int.toNat (2 : Int)) qu)) :: (((3 : Int), (be (Int.toNat (6 : Int)) qQ)) :: (((4 : Int), (be (Int.toNat (1 : Int)) (Qk mlo mhi))) :: ([] : LF))))) ++ (((5 : Int), (be (Int.toNat (2 : Int)) qR)) :: ([] : LF)))) else none) else (if (qv qG (1 : Int)) then (if (z8 (2 : Int) qn) then E11 ((((List.length qt)) : Nat) : Int) (0 : Int) ((((1 : Int), (be (Int.toNat (1 : Int)) qG)) :: (((2 : Int), (be (Int.toNat (2 : Int)) qu)) :: (((3 : Int), (be (Int.toNat (6 : Int)) qQ)) :: (((4 : Int), (be (Int.toNat (1 : Int)) (Qk mlo mhi))) :: ([] : LF))))) ++ (((6 : Int), (be (Int.toNat (2 : Int)) qn)) :: ([] : LF))) else none) else E11 ((((List.length qt)) : Nat) : Int) (0 : Int) (((1 : Int), (be (Int.toNat (1 : Int)) qG)) :: (((2 : Int), (be (Int.toNat (2 : Int)) qu)) :: (((3 : Int), (be (Int.toNat (6 : Int)) qQ)) :: (((4 : Int), (be (Int.toNat (1 : Int)) (Qk mlo mhi))) :: ([] : LF))))))) else none) else none) else none) else none)) else none)) else none)
def Qa.f (qa : Nat) (qG qu qQ mlo mhi qR qn qJ qx qI : Int) (qt : LR) : Option ((List Int) × Int) := Qa.b qG qu qQ mlo mhi qR qn qJ qx qI qt (Qa.l11 qa qG qu qQ mlo mhi qR qn qJ qx qI qt qa)
theorem Qa.l11_eq (qa : Nat) (qG qu qQ mlo mhi qR qn qJ qx qI : Int) (qt : LR) : ∀ k : Nat, Qa.p11 qa qG qu qQ mlo mhi qR qn qJ qx qI qt k = Qa.l11 qa qG qu qQ mlo mhi qR qn qJ qx qI qt k
 | 0 => by kernel_rfl
 | k + 1 => by
  refine Eq.trans (b := Qa.b11 qG qu qQ mlo mhi qR qn qJ qx qI qt (Qa.p11 qa qG qu qQ mlo mhi qR qn qJ qx qI qt k)) (by kernel_rfl) ?_
  rw [Qa.l11_eq qa qG qu qQ mlo mhi qR qn qJ qx qI qt k]
  kernel_rfl
theorem Qa.eq (qa : Nat) (qG qu qQ mlo mhi qR qn qJ qx qI : Int) (qt : LR) : (denF qh6 loopN qa Tryz.f61 [.dat (.sl (.int .u8)) false, .raw] [.agg [.d tQi qG, .d tQi qu, .d tQi qQ, .d tQi mlo, .d tQi mhi, .d tQi qR, .d tQi qn, .d tQi qJ, .d tQi qx, .d tQi qI, .d (.sl tQr) qt]] [] Qa.k) = Qa.f qa qG qu qQ mlo mhi qR qn qJ qx qI qt := by
 refine Eq.trans (b := Qa.b qG qu qQ mlo mhi qR qn qJ qx qI qt (Qa.p11 qa qG qu qQ mlo mhi qR qn qJ qx qI qt qa)) (by kernel_rfl) ?_
 rw [Qa.l11_eq qa qG qu qQ mlo mhi qR qn qJ qx qI qt qa]
 kernel_rfl
theorem qrO {t : Int} (h : 0 ≤ t ∧ t ≤ 255) : IntKind.wrap .u8 t = t := by rw [qlL]; omega
theorem qg5 (x : Int × List Int) : (Qe x).length = 3 + x.2.length := by unfold Qe; simp; omega
theorem qhV : ∀ (l : LF), (((l.flatMap Qe).length : Nat) : Int) = ZU l
 | [] => by simp [ZU]
 | x :: l => by
  rw [List.flatMap_cons, List.length_append, qga, ← qhV l, qg5]
  omega
theorem qkR (t n v : Int) : (itB t n v).length = 3 + n.toNat := by unfold itB; simp [zG]; omega
theorem qlo (r : Int × Int × Int × (Int × Int) × Bool × LF) : ((Q5 r).length : Int) = 20 + ZU r.2.2.2.2.2 := by
 unfold Q5
 simp only [List.length_append, qkR]
 have := qhV r.2.2.2.2.2
 omega
end
end Go.Proofs.YtneiiplppcjjlaaGreatDoor
