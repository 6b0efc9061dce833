/- DissectLines, part 1: what the row leans on. -/
import Derived.Test.YtneiiplppcjjlaaGreatDoorEw3
import Derived.Test.YtneiiplppcjjlaaGreatDoorRows
import Derived.Test.YtneiiplppcjjlaaGreatDoorTie
import Derived.Test.YtneiiplppcjjlaaGreatDoorCards
import Derived.Test.YtneiiplppcjjlaaGreatDoorTw
import Derived.Laws.BitsLemmas
import Derived.KernelRfl
import Derived.ProofKit
import Derived.LaidMore
import Derived.OpenShut
import Derived.Stop.Joined
import Derived.Lib.LaidTab
import Derived.SevenTiedAt
import Derived.Test.YtneiiplppcjjlaaGreatDoorJw
import Derived.Shelf.Lays
import Derived.Laws.Bits64
import Derived.Test.YtneiiplppcjjlaaGreatDoorJx
set_option linter.unusedVariables false
set_option linter.unusedSimpArgs false
set_option maxRecDepth 100000
namespace Go.Proofs.YtneiiplppcjjlaaGreatDoor
open Go.Den
noncomputable section
abbrev dD : AV := AV.dead
abbrev LF := List (Int × List Int)
abbrev LR := List (Int × Int × Int × (Int × Int) × Bool × LF)
abbrev tQi : Ty := .int .i64
abbrev tQr : Ty := .pair (.int .i64) (.pair (.int .i64) (.pair (.int .i64) (.pair (.pair (.int .i64) (.int .i64)) (.pair .bool (.sl (.pair (.int .i64) (.sl (.int .u8))))))))
theorem zj {S : Den.Sum} (h : ∀ avs qn (R : Type) (κ : List AV × List Den.Obj → Option R), S.run avs qn (two κ) = (S.run avs qn (two some)).bind κ) : SumDet S := h
theorem sj {α : Type} {a b : α} (h : some a = some b) : a = b := Option.some.inj h
theorem qZ : Tryz.prog.follows .mixedOrders = true := by kernel_rfl
theorem qX (n : Int) (h0 : -9223372036854775808 ≤ n) (h1 : n < 9223372036854775808) : IntKind.wrap .i64 n = n := by
 rw [IntKind.wrap_i64]; omega
theorem Qn {α : Type} (l : List α) (i : Nat) : idx l (i : Int) = l[i]? := by
 unfold idx
 rw [if_pos (by omega)]
 simp
theorem qr0 {α : Type} (l : List α) (d : α) (i : Nat) (h : i < l.length) : idx l (i : Int) = some (l.getD i d) := by
 rw [Qn, List.getElem?_eq_getElem h]; simp [List.getD, List.getElem?_eq_getElem h]
def okS (lo hi : Int) : Bool := decide (1 ≤ lo) && decide (lo ≤ hi) && decide (hi ≤ 3)
def Qr (a b : Int) : Int := if !okS a b then 0 else Den.bits .or .i64 (IntKind.wrap .i64 (a * 16)) b
def qka : List (ByteArray × Int) := [(⟨#[]⟩, 0), (⟨#[104, 101, 108, 108, 111]⟩, 1), (⟨#[119, 101, 108, 99, 111, 109, 101]⟩, 1), (⟨#[114, 101, 106, 101, 99, 116]⟩, 2), (⟨#[112, 105, 110, 103]⟩, 17), (⟨#[97, 99, 107]⟩, 17), (⟨#[97, 115, 107]⟩, 19), (⟨#[112, 117, 115, 104]⟩, 28), (⟨#[112, 117, 108, 108]⟩, 20), (⟨#[114, 101, 115, 101, 116]⟩, 4)]
def ofF (k : Int) : ByteArray × Int := if decide (k < 1) || decide (k > 9) then (⟨#[]⟩, 0) else qka.getD k.toNat (⟨#[]⟩, 0)
def zY (had : Bool) (v lo hi : Int) : Bool := if !had then v == 0 else (decide (v ≥ lo) && decide (v ≤ hi))
def qge : LF → Int → Int → Bool
 | [], _, _ => true
 | x :: l, qi, size => if decide (x.1 < qi) || decide (x.1 > 255) then false else if decide (size + (x.2.length : Int) > 4096) then false else qge l x.1 (size + (x.2.length : Int))
def qca (b : LF) : Bool := if decide ((b.length : Int) > 32) then false else qge b 32 0
def qeW (id inc st lo hi : Int) (cut : Bool) (bag : LF) : Bool :=
 if decide (id < 0) || decide (id > 4095) then false else if decide (inc < 0) || decide (inc > 281474976710655) then false else if decide (st < 0) || decide (st > 3) then false else
 if !okS lo hi || !qca bag then false else if cut && decide ((bag.length : Int) > 0) then false else true
def zx (b : LF) : Bool := decide (b.length < 281474976710656) && b.all fun x => decide (x.2.length < 281474976710656)
def qdJ : Den.Sum := ⟨[.dat (.pair tQi tQi) true], fun qK qn κ => match qK, qn with
 | [.agg [.d (.int .i64) lo, .d (.int .i64) hi]], [] => κ [.d .bool (okS lo hi)] []
 | _, _ => none⟩
def qaT : Den.Sum := ⟨[.dat (.pair tQi tQi) true], fun qK qn κ => match qK, qn with
 | [.agg [.d (.int .i64) a, .d (.int .i64) b]], [] => κ [.d (.int .i64) (Qr a b)] []
 | _, _ => none⟩
def qeH : Den.Sum := ⟨[], fun qK qn κ => match qK, qn with
 | [], [] => κ [.d (.arr 10 (.pair .str (.int .u8))) qka] []
 | _, _ => none⟩
def qfH : Den.Sum := ⟨[.raw], fun qK qn κ => match qK, qn with
 | [.d (.int .i64) k], [] => κ [.agg [.d .str (ofF k).1, .d (.int .u8) (ofF k).2]] []
 | _, _ => none⟩
def qcl : Den.Sum := ⟨[.raw, .raw, .raw, .raw], fun qK qn κ => match qK, qn with
 | [.d .bool had, .d (.int .i64) v, .d (.int .i64) lo, .d (.int .i64) hi], [] => κ [.d .bool (zY had v lo hi)] []
 | _, _ => none⟩
def qfQ : Den.Sum := ⟨[.dat (.sl (.pair tQi (.sl (.int .u8)))) false], fun qK qn κ => match qK, qn with
 | [.d (.sl (.pair (.int .i64) (.sl (.int .u8)))) b], [] => if zx b = true then κ [.d .bool (qca b)] [] else none
 | _, _ => none⟩
def qfF : Den.Sum := ⟨[.dat tQr true], fun qK qn κ => match qK, qn with
 | [.agg [.d (.int .i64) rid, .d (.int .i64) zE, .d (.int .i64) rst, .d (.int .i64) rlo, .d (.int .i64) rhi, .d .bool zG, .d (.sl (.pair (.int .i64) (.sl (.int .u8)))) zw]], [] => if zx zw = true then κ [.d .bool (qeW rid zE rst rlo rhi zG zw)] [] else none
 | _, _ => none⟩
def qjr : Env := ⟨th, gam [], fun i => ⟨[], [], []⟩⟩
def Z9.k (rs : List AV) (os : List Den.Obj) : Option Bool :=
 match rs, os with
 | [.d .bool r0], [] => some r0
 | _, _ => none
def Z9.b (lo hi : Int) : Option Bool :=
 (if (decide (lo ≥ (1 : Int))) then (if (decide (lo ≤ hi)) then some ((decide (hi ≤ (3 : Int)))) else some (false)) else some (false))
def Z9.f (qa : Nat) (lo hi : Int) : Option Bool := Z9.b lo hi
theorem Z9.eq (qa : Nat) (lo hi : Int) : (denF qjr loopN qa Tryz.f33 [.raw] [.agg [.d tQi lo, .d tQi hi]] [] Z9.k) = Z9.f qa lo hi := by
 kernel_rfl
def qk8 : Env := ⟨th, gam [(33, qdJ)], fun i => ⟨[], [], []⟩⟩
def qax.k (rs : List AV) (os : List Den.Obj) : Option Int :=
 match rs, os with
 | [.d (.int .i64) r0], [] => some r0
 | _, _ => none
def qax.b (a b : Int) : Option Int :=
 (if (!(okS a b)) then some ((0 : Int)) else some ((bits BinOp.or .i64 (IntKind.wrap .i64 (a * ((2 : Int) ^ (Min.min (Int.toNat (4 : Int)) (IntKind.bits .i64))))) b)))
def qax.f (qa : Nat) (a b : Int) : Option Int := qax.b a b
theorem qax.eq (qa : Nat) (a b : Int) : (denF qk8 loopN qa Tryz.f80 [.raw] [.agg [.d tQi a, .d tQi b]] [] qax.k) = qax.f qa a b := by
 kernel_rfl
def qlc : Env := ⟨th, gam [], fun i => ⟨[], [], []⟩⟩
def qcy.k (rs : List AV) (os : List Den.Obj) : Option (List (ByteArray × Int)) :=
 match rs, os with
 | [.d (.arr 10 (.pair .str (.int .u8))) r0], [] => some r0
 | _, _ => none
def qcy.b (u : Unit) : Option (List (ByteArray × Int)) :=
 some ((((⟨([]).toArray⟩ : ByteArray), 0) :: (((⟨((104 :: (101 :: (108 :: (108 :: (111 :: [])))))).toArray⟩ : ByteArray), (1 : Int)) :: (((⟨((119 :: (101 :: (108 :: (99 :: (111 :: (109 :: (101 :: [])))))))).toArray⟩ : ByteArray), (1 : Int)) :: (((⟨((114 :: (101 :: (106 :: (101 :: (99 :: (116 :: []))))))).toArray⟩ : ByteArray), (2 : Int)) :: (((⟨((112 :: (105 :: (110 :: (103 :: []))))).toArray⟩ : ByteArray), (17 : Int)) :: (((⟨((97 :: (99 :: (107 :: [])))).toArray⟩ : ByteArray), (17 : Int)) :: (((⟨((97 :: (115 :: (107 :: [])))).toArray⟩ : ByteArray), (19 : Int)) :: (((⟨((112 :: (117 :: (115 :: (104 :: []))))).toArray⟩ : ByteArray), (28 : Int)) :: (((⟨((112 :: (117 :: (108 :: (108 :: []))))).toArray⟩ : ByteArray), (20 : Int)) :: (((⟨((114 :: (101 :: (115 :: (101 :: (116 :: [])))))).toArray⟩ : ByteArray), (4 : Int)) :: [])))))))))))
def qcy.f (qa : Nat) (u : Unit) : Option (List (ByteArray × Int)) := qcy.b u
theorem qcy.eq (qa : Nat) (u : Unit) : (denF qlc loopN qa Tryz.f100 [.raw] [] [] qcy.k) = qcy.f qa u := by
 kernel_rfl
def qom : Env := ⟨th, gam [(100, qeH)], fun i => ⟨[], [], []⟩⟩
def qcN.k (rs : List AV) (os : List Den.Obj) : Option (ByteArray × Int) :=
 match rs, os with
 | [.agg [.d .str r0, .d (.int .u8) r1]], [] => some (r0, r1)
 | _, _ => none
def qcN.b (k : Int) : Option (ByteArray × Int) :=
 (if (decide (k < (1 : Int))) then some ((⟨([]).toArray⟩ : ByteArray), 0) else (if (decide (k > (9 : Int))) then some ((⟨([]).toArray⟩ : ByteArray), 0) else (match (idx qka k) with | none => none | some y0 => some (y0.1, y0.2))))
def qcN.f (qa : Nat) (k : Int) : Option (ByteArray × Int) := qcN.b k
theorem qcN.eq (qa : Nat) (k : Int) : (denF qom loopN qa Tryz.f66 [.dat (.pair .str (.int .u8)) true] [.d tQi k] [] qcN.k) = qcN.f qa k := by
 kernel_rfl
def qjs : Env := ⟨th, gam [], fun i => ⟨[], [], []⟩⟩
def qaa.k (rs : List AV) (os : List Den.Obj) : Option Bool :=
 match rs, os with
 | [.d .bool r0], [] => some r0
 | _, _ => none
def qaa.b (had : Bool) (v lo hi : Int) : Option Bool :=
 (if (!had) then some ((v == (0 : Int))) else (if (decide (v ≥ lo)) then some ((decide (v ≤ hi))) else some (false)))
def qaa.f (qa : Nat) (had : Bool) (v lo hi : Int) : Option Bool := qaa.b had v lo hi
theorem qaa.eq (qa : Nat) (had : Bool) (v lo hi : Int) : (denF qjs loopN qa Tryz.f109 [.raw] [.d .bool had, .d tQi v, .d tQi lo, .d tQi hi] [] qaa.k) = qaa.f qa had v lo hi := by
 kernel_rfl
def qhF : Env := ⟨th, gam [], fun i => if i = 5 then ⟨[3, 4, 10, 11, 12], [], []⟩ else ⟨[], [], []⟩⟩
def zM.k (rs : List AV) (os : List Den.Obj) : Option Bool :=
 match rs, os with
 | [.d .bool r0], [] => some r0
 | _, _ => none
def zM.s5 (b : LF) (x0 x1 x2 x3 : Int) : St := ⟨[dD, dD, dD, .d tQi x0, .d tQi x1, dD, dD, dD, dD, dD, .d (.sl (.pair tQi (.sl (.int .u8)))) (b), .d tQi x2, .d tQi x3, dD, dD, dD, dD, dD, dD, dD, dD, dD, dD, dD, dD, dD, dD, dD, dD, dD, dD, dD, dD, dD, .dead], ofL [], 0⟩
def zM.p5 (qa : Nat) (b : LF) (k : Nat) := fun x0 x1 x2 x3 => lp qhF qa Tryz.f129 [.raw] 0 zM.k 5 [] k (zM.s5 b x0 x1 x2 x3)
def zM.b5 (b : LF) (A5 : Int → Int → Int → Int → Option Bool) (x0 x1 x2 x3 : Int) : Option Bool :=
 (if (decide (x3 < x2)) then (match (idx b x3) with | none => none | some y4 => (if (decide (y4.1 < x0)) then some (false) else (if (decide (y4.1 > (255 : Int))) then some (false) else (if (decide ((IntKind.wrap .i64 (x1 + ((((List.length y4.2)) : Nat) : Int))) > (4096 : Int))) then some (false) else A5 y4.1 (IntKind.wrap .i64 (x1 + ((((List.length y4.2)) : Nat) : Int))) x2 (IntKind.wrap .i64 (x3 + (1 : Int))))))) else some (true))
def zM.l5 (qa : Nat) (b : LF) : Nat → Int → Int → Int → Int → Option Bool
 | 0, _, _, _, _ => none
 | k + 1, x0, x1, x2, x3 => zM.b5 b (zM.l5 qa b k) x0 x1 x2 x3
def zM.b (b : LF) (E5 : Int → Int → Int → Int → Option Bool) : Option Bool :=
 (if (decide (((((List.length b)) : Nat) : Int) > (32 : Int))) then some (false) else E5 (32 : Int) (0 : Int) ((((List.length b)) : Nat) : Int) (0 : Int))
def zM.f (qa : Nat) (b : LF) : Option Bool := zM.b b (zM.l5 qa b qa)
theorem zM.l5_eq (qa : Nat) (b : LF) : ∀ k : Nat, zM.p5 qa b k = zM.l5 qa b k
 | 0 => by kernel_rfl
 | k + 1 => by
  refine Eq.trans (b := zM.b5 b (zM.p5 qa b k)) (by kernel_rfl) ?_
  rw [zM.l5_eq qa b k]
  kernel_rfl
theorem zM.eq (qa : Nat) (b : LF) : (denF qhF loopN qa Tryz.f129 [.raw] [.d (.sl (.pair tQi (.sl (.int .u8)))) b] [] zM.k) = zM.f qa b := by
 refine Eq.trans (b := zM.b b (zM.p5 qa b qa)) (by kernel_rfl) ?_
 rw [zM.l5_eq qa b qa]
 kernel_rfl
def qla : Env := ⟨th, gam [(33, qdJ), (129, qfQ)], fun i => ⟨[], [], []⟩⟩
def qay.k (rs : List AV) (os : List Den.Obj) : Option Bool :=
 match rs, os with
 | [.d .bool r0], [] => some r0
 | _, _ => none
def qay.b (rid zE rst rlo rhi : Int) (zG : Bool) (zw : LF) : Option Bool :=
 (if (decide (rid < (0 : Int))) then some (false) else (if (decide (rid > (4095 : Int))) then some (false) else (if (decide (zE < (0 : Int))) then some (false) else (if (decide (zE > (veil (281474976710655 : Int)))) then some (false) else (if (decide (rst < (0 : Int))) then some (false) else (if (decide (rst > (3 : Int))) then some (false) else (if (!(okS rlo rhi)) then some (false) else (if (zx zw) then (if (!(qca zw)) then some (false) else (if zG then (if (decide (((((List.length zw)) : Nat) : Int) > (0 : Int))) then some (false) else some (true)) else some (true))) else none))))))))
def qay.f (qa : Nat) (rid zE rst rlo rhi : Int) (zG : Bool) (zw : LF) : Option Bool := qay.b rid zE rst rlo rhi zG zw
theorem qay.eq (qa : Nat) (rid zE rst rlo rhi : Int) (zG : Bool) (zw : LF) : (denF qla loopN qa Tryz.f118 [.raw] [.agg [.d tQi rid, .d tQi zE, .d tQi rst, .d tQi rlo, .d tQi rhi, .d .bool zG, .d (.sl (.pair tQi (.sl (.int .u8)))) zw]] [] qay.k) = qay.f qa rid zE rst rlo rhi zG zw := by
 kernel_rfl
def qmm : Env := ⟨th, gam [], fun i => ⟨[], [], []⟩⟩
def qa1.k (rs : List AV) (os : List Den.Obj) : Option Bool :=
 match rs, os with
 | [.d .bool r0], [] => some r0
 | _, _ => none
def qa1.b (n v : Int) : Option Bool :=
 (if (decide (n ≥ (1 : Int))) then (if (decide (n ≤ (7 : Int))) then (if (decide (v ≥ (0 : Int))) then (if ((IntKind.wrap .i64 ((8 : Int) * n)) < (0 : Int)) then none else some (((Int.fdiv v ((2 : Int) ^ (Min.min (Int.toNat (IntKind.wrap .i64 ((8 : Int) * n))) (IntKind.bits .i64)))) == (0 : Int)))) else some (false)) else some (false)) else some (false))
def qa1.f (qa : Nat) (n v : Int) : Option Bool := qa1.b n v
theorem qa1.eq (qa : Nat) (n v : Int) : (denF qmm loopN qa Tryz.f111 [.raw] [.d tQi n, .d tQi v] [] qa1.k) = qa1.f qa n v := by
 kernel_rfl
def qnp : Env := ⟨th, gam [(66, qfH)], fun i => ⟨[], [], []⟩⟩
def qbW.k (rs : List AV) (os : List Den.Obj) : Option Bool :=
 match rs, os with
 | [.d .bool r0], [] => some r0
 | _, _ => none
def qbW.b (k p : Int) : Option Bool :=
 (if (decide (p ≥ (0 : Int))) then (if (decide (p ≤ (4 : Int))) then (if (p < (0 : Int)) then none else some (((bits BinOp.and .u8 (Int.fdiv (ofF k).2 ((2 : Int) ^ (Min.min (Int.toNat p) (IntKind.bits .u8)))) (1 : Int)) == (1 : Int)))) else some (false)) else some (false))
def qbW.f (qa : Nat) (k p : Int) : Option Bool := qbW.b k p
theorem qbW.eq (qa : Nat) (k p : Int) : (denF qnp loopN qa Tryz.f41 [.raw] [.d tQi k, .d tQi p] [] qbW.k) = qbW.f qa k p := by
 kernel_rfl
theorem qaq (a b : Int) : okS a b = true ↔ 1 ≤ a ∧ a ≤ b ∧ b ≤ 3 := by
 unfold okS
 simp only [Bool.and_eq_true, decide_eq_true_eq]
 omega
theorem Z9.pure (lo hi : Int) : Z9.f 0 lo hi = some (okS lo hi) := by
 unfold Z9.f Z9.b okS
 by_cases h1 : 1 ≤ lo
 ·by_cases h2 : lo ≤ hi <;> simp [h1, h2]
 ·simp [h1]
theorem qax.pure (a b : Int) : qax.f 0 a b = some (Qr a b) := by
 unfold qax.f qax.b Qr
 cases okS a b <;> rfl
theorem qcN.pure (k : Int) : qcN.f 0 k = some ((ofF k).1, (ofF k).2) := by
 unfold qcN.f qcN.b ofF
 by_cases h1 : k < 1
 ·simp [h1]
 ·by_cases h2 : k > 9
  ·simp [h1, h2]
  ·have := qr0 qka (⟨#[]⟩, 0) k.toNat (by show k.toNat < 10; omega)
   rw [Int.toNat_of_nonneg (by omega)] at this
   simp [h1, h2, this]
theorem qaa.pure (had : Bool) (v lo hi : Int) : qaa.f 0 had v lo hi = some (zY had v lo hi) := by
 unfold qaa.f qaa.b zY
 cases had
 ·rfl
 ·by_cases h : v ≥ lo <;> simp [h]
theorem qaR (b : LF) : zx b = true ↔ b.length < 281474976710656 ∧ ∀ x ∈ b, x.2.length < 281474976710656 := by
 unfold zx
 simp [List.all_eq_true]
theorem zM.loop (qa : Nat) (b : LF) (hl : zx b = true) : ∀ (k i : Nat) (qi size : Int), i ≤ b.length → b.length - i < k → 0 ≤ size → size ≤ 4096 →
  zM.l5 qa b k qi size (b.length : Int) (i : Int) = some (qge (b.drop i) qi size) := by
 obtain ⟨hb, hx⟩ := (qaR b).1 hl
 intro k
 induction k with
 | zero => intro i qi size h1 h2; omega
 | succ k ih =>
  intro i qi size h1 h2 h3 h4
  rw [zM.l5]
  unfold zM.b5
  by_cases hi : i < b.length
  ·rw [if_pos (by simp; omega), Qn, List.getElem?_eq_getElem hi]
   simp only
   rw [List.drop_eq_getElem_cons hi]
   have hxl := hx b[i] (List.getElem_mem hi)
   unfold qge
   rw [qX (size + _) (by omega) (by omega), qX ((i : Int) + 1) (by omega) (by omega)]
   by_cases c1 : b[i].1 < qi
   ·simp [c1]
   ·by_cases c2 : b[i].1 > 255
    ·simp [c1, c2]
    ·by_cases c3 : size + (b[i].2.length : Int) > 4096
     ·simp [c1, c2, c3]
     ·simp only [c1, c2, c3, decide_false, Bool.or_self, Bool.false_eq_true, if_false]
      exact ih (i + 1) _ _ (by omega) (by omega) (by omega) (by omega)
  ·rw [if_neg (by simp; omega)]
   rw [List.drop_of_length_le (by omega)]
   rfl
theorem zM.pure (b : LF) (hl : zx b = true) : zM.f (b.length + 1) b = some (qca b) := by
 unfold zM.f zM.b qca
 split
 ·rfl
 ·exact zM.loop _ b hl _ 0 32 0 (by omega) (by omega) (by omega) (by omega)
theorem qay.pure (id inc st lo hi : Int) (cut : Bool) (bag : LF) (hl : zx bag = true) : qay.f 0 id inc st lo hi cut bag = some (qeW id inc st lo hi cut bag) := by
 unfold qay.f qay.b qeW
 rw [veil_eq, hl]
 by_cases c1 : id < 0
 ·simp [c1]
 by_cases c2 : id > 4095
 ·simp [c1, c2]
 by_cases c3 : inc < 0
 ·simp [c1, c2, c3]
 by_cases c4 : inc > 281474976710655
 ·simp [c1, c2, c3, c4]
 by_cases c5 : st < 0
 ·simp [c1, c2, c3, c4, c5]
 by_cases c6 : st > 3
 ·simp [c1, c2, c3, c4, c5, c6]
 simp only [c1, c2, c3, c4, c5, c6, decide_false, Bool.or_self, Bool.false_eq_true, if_false, if_true]
 cases okS lo hi <;> cases qca bag <;> cases cut <;> simp
 split <;> simp_all
theorem qfB : SumDet qdJ := zj fun _ _ _ _ => by
 unfold qdJ
 simp only
 split
 ·first | rfl | (split <;> rfl)
 ·rfl
theorem qgI : SumOk Tryz.prog 33 qdJ := by
 have hE : EnvOk Tryz.prog qjr := env_ok (l := []) th_ok qZ trivial _
 refine sum_ok hE Tryz.func33 rfl (by kernel_rfl) qdJ [.raw] Z9.k ?_
 intro R avs qn κ r h
 unfold qdJ at h
 simp only at h
 split at h
 ·rename_i lo hi
  refine ⟨0, _, _, _, (Z9.eq (0) lo hi).trans (Z9.pure lo hi), ?_, h⟩
  intro rs ros hk
  unfold Z9.k at hk
  split at hk
  ·first | (cases hk; exact ⟨rfl, rfl⟩) | (rw [← Option.some.inj hk]; exact ⟨rfl, rfl⟩)
  ·cases hk
 ·cases h
theorem qdg : SumDet qaT := zj fun _ _ _ _ => by
 unfold qaT
 simp only
 split
 ·first | rfl | (split <;> rfl)
 ·rfl
theorem qdU : SumOk Tryz.prog 80 qaT := by
 have hE : EnvOk Tryz.prog qk8 := env_ok (l := [(33, qdJ)]) th_ok qZ ⟨⟨qgI, qfB⟩, trivial⟩ _
 refine sum_ok hE Tryz.func80 rfl (by kernel_rfl) qaT [.raw] qax.k ?_
 intro R avs qn κ r h
 unfold qaT at h
 simp only at h
 split at h
 ·rename_i a b
  refine ⟨0, _, _, _, (qax.eq (0) a b).trans (qax.pure a b), ?_, h⟩
  intro rs ros hk
  unfold qax.k at hk
  split at hk
  ·first | (cases hk; exact ⟨rfl, rfl⟩) | (rw [← Option.some.inj hk]; exact ⟨rfl, rfl⟩)
  ·cases hk
 ·cases h
theorem qnB : SumDet qeH := zj fun _ _ _ _ => by
 unfold qeH
 simp only
 split
 ·first | rfl | (split <;> rfl)
 ·rfl
theorem qoE : SumOk Tryz.prog 100 qeH := by
 have hE : EnvOk Tryz.prog qlc := env_ok (l := []) th_ok qZ trivial _
 refine sum_ok hE Tryz.func100 rfl (by kernel_rfl) qeH [.raw] qcy.k ?_
 intro R avs qn κ r h
 unfold qeH at h
 simp only at h
 split at h
 ·skip
  refine ⟨0, _, _, _, (qcy.eq (0) ()).trans (rfl), ?_, h⟩
  intro rs ros hk
  unfold qcy.k at hk
  split at hk
  ·first | (cases hk; exact ⟨rfl, rfl⟩) | (rw [← Option.some.inj hk]; exact ⟨rfl, rfl⟩)
  ·cases hk
 ·cases h
theorem qjC : SumDet qfH := zj fun _ _ _ _ => by
 unfold qfH
 simp only
 split
 ·first | rfl | (split <;> rfl)
 ·rfl
theorem qlo : SumOk Tryz.prog 66 qfH := by
 have hE : EnvOk Tryz.prog qom := env_ok (l := [(100, qeH)]) th_ok qZ ⟨⟨qoE, qnB⟩, trivial⟩ _
 refine sum_ok hE Tryz.func66 rfl (by kernel_rfl) qfH [.dat (.pair .str (.int .u8)) true] qcN.k ?_
 intro R avs qn κ r h
 unfold qfH at h
 simp only at h
 split at h
 ·rename_i k
  refine ⟨0, _, _, _, (qcN.eq (0) k).trans (qcN.pure k), ?_, h⟩
  intro rs ros hk
  unfold qcN.k at hk
  split at hk
  ·first | (cases hk; exact ⟨rfl, rfl⟩) | (rw [← Option.some.inj hk]; exact ⟨rfl, rfl⟩)
  ·cases hk
 ·cases h
theorem qid : SumDet qcl := zj fun _ _ _ _ => by
 unfold qcl
 simp only
 split
 ·first | rfl | (split <;> rfl)
 ·rfl
theorem qi6 : SumOk Tryz.prog 109 qcl := by
 have hE : EnvOk Tryz.prog qjs := env_ok (l := []) th_ok qZ trivial _
 refine sum_ok hE Tryz.func109 rfl (by kernel_rfl) qcl [.raw] qaa.k ?_
 intro R avs qn κ r h
 unfold qcl at h
 simp only at h
 split at h
 ·rename_i had v lo hi
  refine ⟨0, _, _, _, (qaa.eq (0) had v lo hi).trans (qaa.pure had v lo hi), ?_, h⟩
  intro rs ros hk
  unfold qaa.k at hk
  split at hk
  ·first | (cases hk; exact ⟨rfl, rfl⟩) | (rw [← Option.some.inj hk]; exact ⟨rfl, rfl⟩)
  ·cases hk
 ·cases h
theorem qoY : SumDet qfQ := zj fun _ _ _ _ => by
 unfold qfQ
 simp only
 split
 ·first | rfl | (split <;> rfl)
 ·rfl
theorem qpU : SumOk Tryz.prog 129 qfQ := by
 have hE : EnvOk Tryz.prog qhF := env_ok (l := []) th_ok qZ trivial _
 refine sum_ok hE Tryz.func129 rfl (by kernel_rfl) qfQ [.raw] zM.k ?_
 intro R avs qn κ r h
 unfold qfQ at h
 simp only at h
 split at h
 ·rename_i b
  split at h
  case isFalse => cases h
  rename_i hl
  refine ⟨b.length + 1, _, _, _, (zM.eq (b.length + 1) b).trans (zM.pure b hl), ?_, h⟩
  intro rs ros hk
  unfold zM.k at hk
  split at hk
  ·first | (cases hk; exact ⟨rfl, rfl⟩) | (rw [← Option.some.inj hk]; exact ⟨rfl, rfl⟩)
  ·cases hk
 ·cases h
theorem qoL : SumDet qfF := zj fun _ _ _ _ => by
 unfold qfF
 simp only
 split
 ·first | rfl | (split <;> rfl)
 ·rfl
theorem qpM : SumOk Tryz.prog 118 qfF := by
 have hE : EnvOk Tryz.prog qla := env_ok (l := [(33, qdJ), (129, qfQ)]) th_ok qZ ⟨⟨qgI, qfB⟩, ⟨qpU, qoY⟩, trivial⟩ _
 refine sum_ok hE Tryz.func118 rfl (by kernel_rfl) qfF [.raw] qay.k ?_
 intro R avs qn κ r h
 unfold qfF at h
 simp only at h
 split at h
 ·rename_i rid zE rst rlo rhi zG zw
  split at h
  case isFalse => cases h
  rename_i hl
  refine ⟨0, _, _, _, (qay.eq (0) rid zE rst rlo rhi zG zw).trans (qay.pure rid zE rst rlo rhi zG zw hl), ?_, h⟩
  intro rs ros hk
  unfold qay.k at hk
  split at hk
  ·first | (cases hk; exact ⟨rfl, rfl⟩) | (rw [← Option.some.inj hk]; exact ⟨rfl, rfl⟩)
  ·cases hk
 ·cases h
def qy (k p : Int) : Bool := if decide (p ≥ 0) && decide (p ≤ 4) then (bits BinOp.and .u8 (Int.fdiv (ofF k).2 ((2 : Int) ^ (Min.min (Int.toNat p) (IntKind.bits .u8)))) (1 : Int)) == (1 : Int) else false
def qar (qk qP qD qb : Int) : Bool :=
 if !zY (qy qk 2) qP 0 281474976710655 || !zY (qy qk 2) qD 0 65535 then false else
 if qD == 0 && (qP != 0 || qk == 9) then false else qb == 0 || (qy qk 3 && (decide (qb > 0) && decide (qb < qD)))
def qmL (r : (Int × Int × Int × (Int × Int) × Bool × LF)) : Bool := zx r.2.2.2.2.2
def q9 (l : LR) : Bool := decide (l.length < 281474976710656) && l.all qmL
def zA (r : (Int × Int × Int × (Int × Int) × Bool × LF)) : Bool := qeW r.1 r.2.1 r.2.2.1 r.2.2.2.1.1 r.2.2.2.1.2 r.2.2.2.2.1 r.2.2.2.2.2
def qd3 : LR → Int → Int → Int × Int
 | [], i, qi => (i, qi)
 | r :: l, i, qi => if !zA r || decide (r.1 ≤ qi) then (i, r.1) else qd3 l (i + 1) r.1
def Qp (l : LR) : Bool := (qd3 l 0 (-1)).1 == (l.length : Int)
def q0 (qk qx inc lo hi seq qo qP qD qb : Int) (qc : LR) : Bool :=
 if (ofF qk).1.toList == (⟨#[]⟩ : ByteArray).toList || (decide (qx < 0) || (decide (qx > 4095) || (decide (inc < 0) || (decide (inc > 281474976710655) || !okS lo hi)))) then false else
 if !zY (qy qk 0) seq 0 65535 || (!zY (qy qk 1) qo (if qk == 3 then 1 else 0) (if qk == 3 then 3 else 4095) || !qar qk qP qD qb) then false else
 if !qy qk 4 then qc.length == 0 else decide ((qc.length : Int) ≤ 255) && Qp qc
def qhy : LR → Bool
 | [] => true
 | r :: l => if decide (r.2.1 > 65535) || decide ((r.2.2.2.2.2.length : Int) > 0) then false else qhy l
def qbi (qk qx inc lo hi seq qo qP qD qb : Int) (qc : LR) : Bool :=
 if !q0 qk qx inc lo hi seq qo qP qD qb qc || (qk == 9 || qD != 0) then false else qhy qc
def qiS (qk qx inc lo hi seq qo qP qD qb : Int) (qc : LR) : Bool :=
 if !q0 qk qx inc lo hi seq qo qP qD qb qc || (qk == 9 || (qP != 0 || (qD != 0 || qb != 0))) then false else qhy qc
def qgF (st lo hi : Int) (cut : Bool) : Int :=
 let v := bits .or .i64 (bits .or .i64 st (IntKind.wrap .i64 (lo * 4))) (IntKind.wrap .i64 (hi * 16))
 if cut then bits .or .i64 v 64 else v
def be : Nat → Int → List Int
 | 0, _ => []
 | n + 1, v => be n (v / 256) ++ [v % 256]
def Qd (n v : Int) : Bool := decide (1 ≤ n) && (decide (n ≤ 7) && (decide (0 ≤ v) && decide (v < 256 ^ n.toNat)))
def qah : Den.Sum := ⟨[.raw, .raw], fun qK qn κ => match qK, qn with
 | [.d (.int .i64) k, .d (.int .i64) p], [] => κ [.d .bool (qy k p)] []
 | _, _ => none⟩
def qeL : Den.Sum := ⟨[.dat (.pair tQi (.pair tQi (.pair tQi (.pair (.pair tQi tQi) (.pair tQi (.pair tQi (.pair tQi (.pair tQi (.pair tQi (.sl tQr)))))))))) true], fun qK qn κ => match qK, qn with
 | [.agg [.d (.int .i64) qL, .d (.int .i64) qA, .d (.int .i64) qT, .d (.int .i64) mlo, .d (.int .i64) mhi, .d (.int .i64) qW, .d (.int .i64) qt, .d (.int .i64) qN, .d (.int .i64) qC, .d (.int .i64) qM, .d (.sl (.pair (.int .i64) (.pair (.int .i64) (.pair (.int .i64) (.pair (.pair (.int .i64) (.int .i64)) (.pair .bool (.sl (.pair (.int .i64) (.sl (.int .u8)))))))))) qB]], [] => κ [.d .bool (qar qL qN qC qM)] []
 | _, _ => none⟩
def qfC : Den.Sum := ⟨[.dat tQr true, .raw], fun qK qn κ => match qK, qn with
 | [.agg [.d (.int .i64) rid, .d (.int .i64) zE, .d (.int .i64) rst, .d (.int .i64) rlo, .d (.int .i64) rhi, .d .bool zG, .d (.sl (.pair (.int .i64) (.sl (.int .u8)))) zw], .ptr 0 0], [.box [.d (.int .i64) qi]] => if zx zw = true then κ [.d .bool (!qeW rid zE rst rlo rhi zG zw || decide (rid ≤ qi))] [.box [.d (.int .i64) rid]] else none
 | _, _ => none⟩
def qdQ : Den.Sum := ⟨[.dat (.sl tQr) false, .raw], fun qK qn κ => match qK, qn with
 | [.d (.sl (.pair (.int .i64) (.pair (.int .i64) (.pair (.int .i64) (.pair (.pair (.int .i64) (.int .i64)) (.pair .bool (.sl (.pair (.int .i64) (.sl (.int .u8)))))))))) l, .fn (.func 117) [] [.ptr 0 0]], [.box [.d (.int .i64) qi]] => if q9 l = true then κ [.d (.int .i64) (qd3 l 0 qi).1] [.box [.d (.int .i64) (qd3 l 0 qi).2]] else none
 | _, _ => none⟩
def qaF : Den.Sum := ⟨[.dat (.sl tQr) false], fun qK qn κ => match qK, qn with
 | [.d (.sl (.pair (.int .i64) (.pair (.int .i64) (.pair (.int .i64) (.pair (.pair (.int .i64) (.int .i64)) (.pair .bool (.sl (.pair (.int .i64) (.sl (.int .u8)))))))))) l], [] => if q9 l = true then κ [.d .bool (Qp l)] [] else none
 | _, _ => none⟩
def QK : Den.Sum := ⟨[.dat (.pair tQi (.pair tQi (.pair tQi (.pair (.pair tQi tQi) (.pair tQi (.pair tQi (.pair tQi (.pair tQi (.pair tQi (.sl tQr)))))))))) true], fun qK qn κ => match qK, qn with
 | [.agg [.d (.int .i64) qL, .d (.int .i64) qA, .d (.int .i64) qT, .d (.int .i64) mlo, .d (.int .i64) mhi, .d (.int .i64) qW, .d (.int .i64) qt, .d (.int .i64) qN, .d (.int .i64) qC, .d (.int .i64) qM, .d (.sl (.pair (.int .i64) (.pair (.int .i64) (.pair (.int .i64) (.pair (.pair (.int .i64) (.int .i64)) (.pair .bool (.sl (.pair (.int .i64) (.sl (.int .u8)))))))))) qB]], [] => if q9 qB = true then κ [.d .bool (q0 qL qA qT mlo mhi qW qt qN qC qM qB)] [] else none
 | _, _ => none⟩
def qdf : Den.Sum := ⟨[.dat (.pair tQi (.pair tQi (.pair tQi (.pair (.pair tQi tQi) (.pair tQi (.pair tQi (.pair tQi (.pair tQi (.pair tQi (.sl tQr)))))))))) true], fun qK qn κ => match qK, qn with
 | [.agg [.d (.int .i64) qL, .d (.int .i64) qA, .d (.int .i64) qT, .d (.int .i64) mlo, .d (.int .i64) mhi, .d (.int .i64) qW, .d (.int .i64) qt, .d (.int .i64) qN, .d (.int .i64) qC, .d (.int .i64) qM, .d (.sl (.pair (.int .i64) (.pair (.int .i64) (.pair (.int .i64) (.pair (.pair (.int .i64) (.int .i64)) (.pair .bool (.sl (.pair (.int .i64) (.sl (.int .u8)))))))))) qB]], [] => if q9 qB = true then κ [.d .bool (qbi qL qA qT mlo mhi qW qt qN qC qM qB)] [] else none
 | _, _ => none⟩
def qeI : Den.Sum := ⟨[.dat tQr true], fun qK qn κ => match qK, qn with
 | [.agg [.d (.int .i64) rid, .d (.int .i64) zE, .d (.int .i64) rst, .d (.int .i64) rlo, .d (.int .i64) rhi, .d .bool zG, .d (.sl (.pair (.int .i64) (.sl (.int .u8)))) zw]], [] => κ [.d (.int .i64) (qgF rst rlo rhi zG)] []
 | _, _ => none⟩
def qdc : Den.Sum := ⟨[.raw, .raw], fun qK qn κ => match qK, qn with
 | [.d (.int .i64) n, .d (.int .i64) v], [] => if Qd n v = true then κ [.d .bool true] [] else none
 | _, _ => none⟩
def qld : Env := ⟨th, gam [(41, qah), (109, qcl)], fun i => ⟨[], [], []⟩⟩
def qaA.k (rs : List AV) (os : List Den.Obj) : Option Bool :=
 match rs, os with
 | [.d .bool r0], [] => some r0
 | _, _ => none
def qaA.b (qL qA qT mlo mhi qW qt qN qC qM : Int) (qB : LR) : Option Bool :=
 (if (!(zY (qy qL (2 : Int)) qN (0 : Int) (veil (281474976710655 : Int)))) then some (false) else (if (!(zY (qy qL (2 : Int)) qC (0 : Int) (65535 : Int))) then some (false) else (if (qC == (0 : Int)) then (if (qN != (0 : Int)) then some (false) else (if (qL == (9 : Int)) then some (false) else (if (qM == (0 : Int)) then some (true) else (if (qy qL (3 : Int)) then (if (decide (qM > (0 : Int))) then some ((decide (qM < qC))) else some (false)) else some (false))))) else (if (qM == (0 : Int)) then some (true) else (if (qy qL (3 : Int)) then (if (decide (qM > (0 : Int))) then some ((decide (qM < qC))) else some (false)) else some (false))))))
def qaA.f (qa : Nat) (qL qA qT mlo mhi qW qt qN qC qM : Int) (qB : LR) : Option Bool := qaA.b qL qA qT mlo mhi qW qt qN qC qM qB
theorem qaA.eq (qa : Nat) (qL qA qT mlo mhi qW qt qN qC qM : Int) (qB : LR) : (denF qld loopN qa Tryz.f110 [.raw] [.agg [.d tQi qL, .d tQi qA, .d tQi qT, .d tQi mlo, .d tQi mhi, .d tQi qW, .d tQi qt, .d tQi qN, .d tQi qC, .d tQi qM, .d (.sl tQr) qB]] [] qaA.k) = qaA.f qa qL qA qT mlo mhi qW qt qN qC qM qB := by
 kernel_rfl
def qqx : Env := ⟨th, gam [(118, qfF)], fun i => ⟨[], [], []⟩⟩
def qeu.k (rs : List AV) (os : List Den.Obj) : Option (Bool × Int) :=
 match rs, os with
 | [.d .bool r0], [.box [.d (.int .i64) r1]] => some (r0, r1)
 | _, _ => none
def qeu.b (rid zE rst rlo rhi : Int) (zG : Bool) (zw : LF) (qi : Int) : Option (Bool × Int) :=
 (if (zx (zE, (rst, ((rlo, rhi), (zG, zw)))).2.2.2.2) then (if (!(qeW rid (zE, (rst, ((rlo, rhi), (zG, zw)))).1 (zE, (rst, ((rlo, rhi), (zG, zw)))).2.1 (zE, (rst, ((rlo, rhi), (zG, zw)))).2.2.1.1 (zE, (rst, ((rlo, rhi), (zG, zw)))).2.2.1.2 (zE, (rst, ((rlo, rhi), (zG, zw)))).2.2.2.1 (zE, (rst, ((rlo, rhi), (zG, zw)))).2.2.2.2)) then some (true, rid) else some ((decide (rid ≤ qi)), rid)) else none)
def qeu.f (qa : Nat) (rid zE rst rlo rhi : Int) (zG : Bool) (zw : LF) (qi : Int) : Option (Bool × Int) := qeu.b rid zE rst rlo rhi zG zw qi
theorem qeu.eq (qa : Nat) (rid zE rst rlo rhi : Int) (zG : Bool) (zw : LF) (qi : Int) : (denF qqx loopN qa Tryz.f117 [.raw] [.agg [.d tQi rid, .d tQi zE, .d tQi rst, .d tQi rlo, .d tQi rhi, .d .bool zG, .d (.sl (.pair tQi (.sl (.int .u8)))) zw], .ptr 0 0] [.box [.d tQi qi]] qeu.k) = qeu.f qa rid zE rst rlo rhi zG zw qi := by
 kernel_rfl
def qlJ : Env := ⟨th, gam [(117, qfC)], fun i => if i = 2 then ⟨[0, 1, 7, 8, 9], [], []⟩ else ⟨[], [], []⟩⟩
def QN.k (rs : List AV) (os : List Den.Obj) : Option (Int × Int) :=
 match rs, os with
 | [.d (.int .i64) r0], [.box [.d (.int .i64) r1]] => some (r0, r1)
 | _, _ => none
def QN.s2 (l : LR) (qi x0 x1 x2 : Int) : St := ⟨[.d (.sl tQr) (l), .fn (.func 117) [] [.ptr 0 0], dD, dD, dD, dD, dD, .d (.sl tQr) (l), .d tQi x0, .d tQi x1, dD, dD, dD, dD, dD, dD, dD, dD, dD, dD, .dead], ofL [(0, .box [.d tQi x2])], 1⟩
def QN.p2 (qa : Nat) (l : LR) (qi : Int) (k : Nat) := fun x0 x1 x2 => lp qlJ qa Tryz.f116 [.raw] 1 QN.k 2 [] k (QN.s2 l qi x0 x1 x2)
def QN.b2 (l : LR) (qi : Int) (A2 : Int → Int → Int → Option (Int × Int)) (x0 : Int) (x1 : Int) (x2 : Int) : Option (Int × Int) :=
 (if (decide (x1 < x0)) then (match (idx l x1) with | none => none | some y3 => (if (zx (y3.2.1, (y3.2.2.1, ((y3.2.2.2.1.1, y3.2.2.2.1.2), (y3.2.2.2.2.1, y3.2.2.2.2.2)))).2.2.2.2) then (if ((!(qeW y3.1 (y3.2.1, (y3.2.2.1, ((y3.2.2.2.1.1, y3.2.2.2.1.2), (y3.2.2.2.2.1, y3.2.2.2.2.2)))).1 (y3.2.1, (y3.2.2.1, ((y3.2.2.2.1.1, y3.2.2.2.1.2), (y3.2.2.2.2.1, y3.2.2.2.2.2)))).2.1 (y3.2.1, (y3.2.2.1, ((y3.2.2.2.1.1, y3.2.2.2.1.2), (y3.2.2.2.2.1, y3.2.2.2.2.2)))).2.2.1.1 (y3.2.1, (y3.2.2.1, ((y3.2.2.2.1.1, y3.2.2.2.1.2), (y3.2.2.2.2.1, y3.2.2.2.2.2)))).2.2.1.2 (y3.2.1, (y3.2.2.1, ((y3.2.2.2.1.1, y3.2.2.2.1.2), (y3.2.2.2.2.1, y3.2.2.2.2.2)))).2.2.2.1 (y3.2.1, (y3.2.2.1, ((y3.2.2.2.1.1, y3.2.2.2.1.2), (y3.2.2.2.2.1, y3.2.2.2.2.2)))).2.2.2.2)) || (decide (y3.1 ≤ x2))) then some (x1, y3.1) else A2 x0 (IntKind.wrap .i64 (x1 + (1 : Int))) y3.1) else none)) else some (((((List.length l)) : Nat) : Int), x2))
def QN.l2 (qa : Nat) (l : LR) (qi : Int) : Nat → Int → Int → Int → Option (Int × Int)
 | 0, _, _, _ => none
 | k + 1, x0, x1, x2 => QN.b2 l qi (QN.l2 qa l qi k) x0 x1 x2
def QN.b (l : LR) (qi : Int) (E2 : Int → Int → Int → Option (Int × Int)) : Option (Int × Int) :=
 E2 ((((List.length l)) : Nat) : Int) (0 : Int) qi
def QN.f (qa : Nat) (l : LR) (qi : Int) : Option (Int × Int) := QN.b l qi (QN.l2 qa l qi qa)
theorem QN.l2_eq (qa : Nat) (l : LR) (qi : Int) : ∀ k : Nat, QN.p2 qa l qi k = QN.l2 qa l qi k
 | 0 => by kernel_rfl
 | k + 1 => by
  refine Eq.trans (b := QN.b2 l qi (QN.p2 qa l qi k)) (by kernel_rfl) ?_
  rw [QN.l2_eq qa l qi k]
  kernel_rfl
theorem QN.eq (qa : Nat) (l : LR) (qi : Int) : (denF qlJ loopN qa Tryz.f116 [.raw] [.d (.sl tQr) l, .fn (.func 117) [] [.ptr 0 0]] [.box [.d tQi qi]] QN.k) = QN.f qa l qi := by
 refine Eq.trans (b := QN.b l qi (QN.p2 qa l qi qa)) (by kernel_rfl) ?_
 rw [QN.l2_eq qa l qi qa]
 kernel_rfl
def qnj : Env := ⟨th, gam [(116, qdQ)], fun i => ⟨[], [], []⟩⟩
def qbU.k (rs : List AV) (os : List Den.Obj) : Option Bool :=
 match rs, os with
 | [.d .bool r0], [] => some r0
 | _, _ => none
def qbU.b (l : LR) : Option Bool :=
 (if (q9 l) then some (((qd3 l (0 : Int) (-(1 : Int))).1 == ((((List.length l)) : Nat) : Int))) else none)
def qbU.f (qa : Nat) (l : LR) : Option Bool := qbU.b l
theorem qbU.eq (qa : Nat) (l : LR) : (denF qnj loopN qa Tryz.f96 [.raw] [.d (.sl tQr) l] [] qbU.k) = qbU.f qa l := by
 kernel_rfl
def qlb : Env := ⟨th, gam [(66, qfH), (33, qdJ), (109, qcl), (41, qah), (110, qeL), (96, qaF)], fun i => ⟨[], [], []⟩⟩
def qaz.k (rs : List AV) (os : List Den.Obj) : Option Bool :=
 match rs, os with
 | [.d .bool r0], [] => some r0
 | _, _ => none
def qaz.b (qL qA qT mlo mhi qW qt qN qC qM : Int) (qB : LR) : Option Bool :=
 (if ((ByteArray.toList (ofF qL).1) == (ByteArray.toList (⟨([]).toArray⟩ : ByteArray))) then some (false) else (if (decide (qA < (0 : Int))) then some (false) else (if (decide (qA > (4095 : Int))) then some (false) else (if (decide (qT < (0 : Int))) then some (false) else (if (decide (qT > (veil (281474976710655 : Int)))) then some (false) else (if (!(okS mlo mhi)) then some (false) else (if (qL == (3 : Int)) then (if (!(zY (qy qL (0 : Int)) qW (0 : Int) (65535 : Int))) then some (false) else (if (!(zY (qy qL (1 : Int)) qt (1 : Int) (3 : Int))) then some (false) else (if (!(qar qL (qA, (qT, ((mlo, mhi), (qW, (qt, (qN, (qC, (qM, qB)))))))).2.2.2.2.2.1 (qA, (qT, ((mlo, mhi), (qW, (qt, (qN, (qC, (qM, qB)))))))).2.2.2.2.2.2.1 (qA, (qT, ((mlo, mhi), (qW, (qt, (qN, (qC, (qM, qB)))))))).2.2.2.2.2.2.2.1)) then some (false) else (if (!(qy qL (4 : Int))) then some ((((((List.length qB)) : Nat) : Int) == (0 : Int))) else (if (decide (((((List.length qB)) : Nat) : Int) ≤ (255 : Int))) then (if (q9 qB) then some ((Qp qB)) else none) else some (false)))))) else (if (!(zY (qy qL (0 : Int)) qW (0 : Int) (65535 : Int))) then some (false) else (if (!(zY (qy qL (1 : Int)) qt (0 : Int) (4095 : Int))) then some (false) else (if (!(qar qL (qA, (qT, ((mlo, mhi), (qW, (qt, (qN, (qC, (qM, qB)))))))).2.2.2.2.2.1 (qA, (qT, ((mlo, mhi), (qW, (qt, (qN, (qC, (qM, qB)))))))).2.2.2.2.2.2.1 (qA, (qT, ((mlo, mhi), (qW, (qt, (qN, (qC, (qM, qB)))))))).2.2.2.2.2.2.2.1)) then some (false) else (if (!(qy qL (4 : Int))) then some ((((((List.length qB)) : Nat) : Int) == (0 : Int))) else (if (decide (((((List.length qB)) : Nat) : Int) ≤ (255 : Int))) then (if (q9 qB) then some ((Qp qB)) else none) else some (false)))))))))))))
def qaz.f (qa : Nat) (qL qA qT mlo mhi qW qt qN qC qM : Int) (qB : LR) : Option Bool := qaz.b qL qA qT mlo mhi qW qt qN qC qM qB
theorem qaz.eq (qa : Nat) (qL qA qT mlo mhi qW qt qN qC qM : Int) (qB : LR) : (denF qlb loopN qa Tryz.f76 [.raw] [.agg [.d tQi qL, .d tQi qA, .d tQi qT, .d tQi mlo, .d tQi mhi, .d tQi qW, .d tQi qt, .d tQi qN, .d tQi qC, .d tQi qM, .d (.sl tQr) qB]] [] qaz.k) = qaz.f qa qL qA qT mlo mhi qW qt qN qC qM qB := by
 kernel_rfl
def qlP : Env := ⟨th, gam [(76, QK)], fun i => if i = 4 then ⟨[19, 20, 21], [], []⟩ else ⟨[], [], []⟩⟩
def QS.k (rs : List AV) (os : List Den.Obj) : Option Bool :=
 match rs, os with
 | [.d .bool r0], [] => some r0
 | _, _ => none
def QS.s4 (qL qA qT mlo mhi qW qt qN qC qM : Int) (qB : LR) (x0 x1 : Int) : St := ⟨[dD, dD, dD, dD, dD, dD, dD, dD, dD, dD, dD, dD, dD, dD, dD, dD, dD, dD, dD, .d (.sl tQr) (qB), .d tQi x0, .d tQi x1, dD, dD, dD, dD, dD, dD, dD, dD, dD, dD, dD, dD, .dead], ofL [], 0⟩
def QS.p4 (qa : Nat) (qL qA qT mlo mhi qW qt qN qC qM : Int) (qB : LR) (k : Nat) := fun x0 x1 => lp qlP qa Tryz.f77 [.raw] 0 QS.k 4 [] k (QS.s4 qL qA qT mlo mhi qW qt qN qC qM qB x0 x1)
def QS.b4 (qL qA qT mlo mhi qW qt qN qC qM : Int) (qB : LR) (A4 : Int → Int → Option Bool) (x0 x1 : Int) : Option Bool :=
 (if (decide (x1 < x0)) then (match (idx qB x1) with | none => none | some y2 => (if (decide (y2.2.1 > (65535 : Int))) then some (false) else (if (decide (((((List.length y2.2.2.2.2.2)) : Nat) : Int) > (0 : Int))) then some (false) else A4 x0 (IntKind.wrap .i64 (x1 + (1 : Int)))))) else some (true))
def QS.l4 (qa : Nat) (qL qA qT mlo mhi qW qt qN qC qM : Int) (qB : LR) : Nat → Int → Int → Option Bool
 | 0, _, _ => none
 | k + 1, x0, x1 => QS.b4 qL qA qT mlo mhi qW qt qN qC qM qB (QS.l4 qa qL qA qT mlo mhi qW qt qN qC qM qB k) x0 x1
def QS.b (qL qA qT mlo mhi qW qt qN qC qM : Int) (qB : LR) (E4 : Int → Int → Option Bool) : Option Bool :=
 (if (q9 (qA, (qT, ((mlo, mhi), (qW, (qt, (qN, (qC, (qM, qB)))))))).2.2.2.2.2.2.2.2) then (if (!(q0 qL (qA, (qT, ((mlo, mhi), (qW, (qt, (qN, (qC, (qM, qB)))))))).1 (qA, (qT, ((mlo, mhi), (qW, (qt, (qN, (qC, (qM, qB)))))))).2.1 (qA, (qT, ((mlo, mhi), (qW, (qt, (qN, (qC, (qM, qB)))))))).2.2.1.1 (qA, (qT, ((mlo, mhi), (qW, (qt, (qN, (qC, (qM, qB)))))))).2.2.1.2 (qA, (qT, ((mlo, mhi), (qW, (qt, (qN, (qC, (qM, qB)))))))).2.2.2.1 (qA, (qT, ((mlo, mhi), (qW, (qt, (qN, (qC, (qM, qB)))))))).2.2.2.2.1 (qA, (qT, ((mlo, mhi), (qW, (qt, (qN, (qC, (qM, qB)))))))).2.2.2.2.2.1 (qA, (qT, ((mlo, mhi), (qW, (qt, (qN, (qC, (qM, qB)))))))).2.2.2.2.2.2.1 (qA, (qT, ((mlo, mhi), (qW, (qt, (qN, (qC, (qM, qB)))))))).2.2.2.2.2.2.2.1 (qA, (qT, ((mlo, mhi), (qW, (qt, (qN, (qC, (qM, qB)))))))).2.2.2.2.2.2.2.2)) then some (false) else (if (qL == (9 : Int)) then some (false) else (if (qC != (0 : Int)) then some (false) else E4 ((((List.length qB)) : Nat) : Int) (0 : Int)))) else none)
def QS.f (qa : Nat) (qL qA qT mlo mhi qW qt qN qC qM : Int) (qB : LR) : Option Bool := QS.b qL qA qT mlo mhi qW qt qN qC qM qB (QS.l4 qa qL qA qT mlo mhi qW qt qN qC qM qB qa)
theorem QS.l4_eq (qa : Nat) (qL qA qT mlo mhi qW qt qN qC qM : Int) (qB : LR) : ∀ k : Nat, QS.p4 qa qL qA qT mlo mhi qW qt qN qC qM qB k = QS.l4 qa qL qA qT mlo mhi qW qt qN qC qM qB k
 | 0 => by kernel_rfl
 | k + 1 => by
  refine Eq.trans (b := QS.b4 qL qA qT mlo mhi qW qt qN qC qM qB (QS.p4 qa qL qA qT mlo mhi qW qt qN qC qM qB k)) (by kernel_rfl) ?_
  rw [QS.l4_eq qa qL qA qT mlo mhi qW qt qN qC qM qB k]
  kernel_rfl
theorem QS.eq (qa : Nat) (qL qA qT mlo mhi qW qt qN qC qM : Int) (qB : LR) : (denF qlP loopN qa Tryz.f77 [.raw] [.agg [.d tQi qL, .d tQi qA, .d tQi qT, .d tQi mlo, .d tQi mhi, .d tQi qW, .d tQi qt, .d tQi qN, .d tQi qC, .d tQi qM, .d (.sl tQr) qB]] [] QS.k) = QS.f qa qL qA qT mlo mhi qW qt qN qC qM qB := by
 refine Eq.trans (b := QS.b qL qA qT mlo mhi qW qt qN qC qM qB (QS.p4 qa qL qA qT mlo mhi qW qt qN qC qM qB qa)) (by kernel_rfl) ?_
 rw [QS.l4_eq qa qL qA qT mlo mhi qW qt qN qC qM qB qa]
 kernel_rfl
def qog : Env := ⟨th, gam [], fun i => ⟨[], [], []⟩⟩
def qcH.k (rs : List AV) (os : List Den.Obj) : Option Int :=
 match rs, os with
 | [.d (.int .i64) r0], [] => some r0
 | _, _ => none
def qcH.b (rid zE rst rlo rhi : Int) (zG : Bool) (zw : LF) : Option Int :=
 (if zG then some ((bits BinOp.or .i64 (bits BinOp.or .i64 (bits BinOp.or .i64 rst (IntKind.wrap .i64 (rlo * ((2 : Int) ^ (Min.min (Int.toNat (2 : Int)) (IntKind.bits .i64)))))) (IntKind.wrap .i64 (rhi * ((2 : Int) ^ (Min.min (Int.toNat (4 : Int)) (IntKind.bits .i64)))))) (64 : Int))) else some ((bits BinOp.or .i64 (bits BinOp.or .i64 rst (IntKind.wrap .i64 (rlo * ((2 : Int) ^ (Min.min (Int.toNat (2 : Int)) (IntKind.bits .i64)))))) (IntKind.wrap .i64 (rhi * ((2 : Int) ^ (Min.min (Int.toNat (4 : Int)) (IntKind.bits .i64))))))))
def qcH.f (qa : Nat) (rid zE rst rlo rhi : Int) (zG : Bool) (zw : LF) : Option Int := qcH.b rid zE rst rlo rhi zG zw
theorem qcH.eq (qa : Nat) (rid zE rst rlo rhi : Int) (zG : Bool) (zw : LF) : (denF qog loopN qa Tryz.f81 [.raw] [.agg [.d tQi rid, .d tQi zE, .d tQi rst, .d tQi rlo, .d tQi rhi, .d .bool zG, .d (.sl (.pair tQi (.sl (.int .u8)))) zw]] [] qcH.k) = qcH.f qa rid zE rst rlo rhi zG zw := by
 kernel_rfl
theorem qbW.pure (k p : Int) : qbW.f 0 k p = some (qy k p) := by
 unfold qbW.f qbW.b qy
 by_cases h1 : p ≥ 0
 ·by_cases h2 : p ≤ 4
  ·rw [if_pos (by simpa using h1), if_pos (by simpa using h2), if_neg (by omega), if_pos (by simp; omega)]
  ·simp [h1, h2]
 ·simp [h1]
theorem qaA.pure (qk qx inc lo hi seq qo qP qD qb : Int) (qc : LR) : qaA.f 0 qk qx inc lo hi seq qo qP qD qb qc = some (qar qk qP qD qb) := by
 unfold qaA.f qaA.b qar
 rw [veil_eq]
 cases zY (qy qk 2) qP 0 281474976710655
 ·simp
 cases zY (qy qk 2) qD 0 65535
 ·simp
 simp only [Bool.not_true, Bool.false_eq_true, if_false, Bool.or_self]
 by_cases h1 : qD = 0 <;> by_cases h2 : qP = 0 <;> by_cases h3 : qk = 9 <;> by_cases h4 : qb = 0 <;> cases qy qk 3 <;> by_cases h5 : qb > 0 <;> simp [h1, h2, h3, h4, h5]
theorem qeu.pure (id inc st lo hi : Int) (cut : Bool) (bag : LF) (qi : Int) (hl : zx bag = true) : qeu.f 0 id inc st lo hi cut bag qi = some (!qeW id inc st lo hi cut bag || decide (id ≤ qi), id) := by
 unfold qeu.f qeu.b
 dsimp only
 rw [hl]
 cases qeW id inc st lo hi cut bag <;> simp
theorem Zo (l : LR) : q9 l = true ↔ l.length < 281474976710656 ∧ ∀ r ∈ l, zx r.2.2.2.2.2 = true := by
 unfold q9
 simp [List.all_eq_true, qmL]
theorem QN.loop (qa : Nat) (l : LR) (l0 : Int) (hl : q9 l = true) : ∀ (k i : Nat) (qi : Int), i ≤ l.length → l.length - i < k →
  QN.l2 qa l l0 k (l.length : Int) (i : Int) qi = some (qd3 (l.drop i) (i : Int) qi) := by
 obtain ⟨hb, hx⟩ := (Zo l).1 hl
 intro k
 induction k with
 | zero => intro i qi h1 h2; omega
 | succ k ih =>
  intro i qi h1 h2
  rw [QN.l2]
  unfold QN.b2
  by_cases hi : i < l.length
  ·rw [if_pos (by simp; omega), Qn, List.getElem?_eq_getElem hi]
   dsimp only
   rw [List.drop_eq_getElem_cons hi, hx l[i] (List.getElem_mem hi)]
   unfold qd3 zA
   rw [if_pos rfl, qX ((i : Int) + 1) (by omega) (by omega)]
   split
   ·rfl
   ·exact ih (i + 1) _ (by omega) (by omega)
  ·rw [if_neg (by simp; omega)]
   have : i = l.length := by omega
   subst this
   rw [List.drop_of_length_le (by omega)]
   rfl
theorem QN.pure (l : LR) (qi : Int) (hl : q9 l = true) : QN.f (l.length + 1) l qi = some ((qd3 l 0 qi).1, (qd3 l 0 qi).2) := by
 unfold QN.f QN.b
 exact QN.loop _ l qi hl _ 0 qi (by omega) (by omega)
theorem qbU.pure (l : LR) (hl : q9 l = true) : qbU.f 0 l = some (Qp l) := by
 unfold qbU.f qbU.b Qp
 rw [hl]; rfl
theorem qaz.pure (qk qx inc lo hi seq qo qP qD qb : Int) (qc : LR) (hl : q9 qc = true) : qaz.f 0 qk qx inc lo hi seq qo qP qD qb qc = some (q0 qk qx inc lo hi seq qo qP qD qb qc) := by
 unfold qaz.f qaz.b q0
 rw [veil_eq, hl]
 dsimp only
 cases h0 : ((ofF qk).1.toList == (⟨[].toArray⟩ : ByteArray).toList)
 case true => simp [h0]
 by_cases c1 : qx < 0
 ·simp [h0, c1]
 by_cases c2 : qx > 4095
 ·simp [h0, c1, c2]
 by_cases c3 : inc < 0
 ·simp [h0, c1, c2, c3]
 by_cases c4 : inc > 281474976710655
 ·simp [h0, c1, c2, c3, c4]
 cases h1 : okS lo hi
 ·simp [h0, c1, c2, c3, c4]
 simp only [h0, c1, c2, c3, c4, decide_false, Bool.or_self, Bool.not_true, Bool.false_eq_true, if_false]
 cases zY (qy qk 0) seq 0 65535
 ·by_cases h3 : qk = 3 <;> simp [h3]
 by_cases h3 : qk = 3
 ·subst h3
  simp only [beq_self_eq_true, if_true]
  cases zY (qy 3 1) qo 1 3 <;> cases qar 3 qP qD qb <;> cases qy 3 4 <;> simp
  ·exact Bool.eq_iff_iff.2 (by simp)
  ·split
   ·simp_all
   ·simp_all; omega
 ·have h3' : (qk == 3) = false := by simpa using h3
  simp only [h3', Bool.false_eq_true, if_false]
  cases zY (qy qk 1) qo 0 4095 <;> cases qar qk qP qD qb <;> cases qy qk 4 <;> simp
  ·exact Bool.eq_iff_iff.2 (by simp)
  ·split
   ·simp_all
   ·simp_all; omega
theorem QS.loop (qa : Nat) (qk qx inc lo hi seq qo qP qD qb : Int) (l : LR) (hl : l.length < 281474976710656) : ∀ (k i : Nat), i ≤ l.length → l.length - i < k → QS.l4 qa qk qx inc lo hi seq qo qP qD qb l k (l.length : Int) (i : Int) = some (qhy (l.drop i)) := by
 intro k
 induction k with
 | zero => intro i h1 h2; omega
 | succ k ih =>
  intro i h1 h2
  rw [QS.l4]
  unfold QS.b4
  by_cases hi : i < l.length
  ·rw [if_pos (by simp; omega), Qn, List.getElem?_eq_getElem hi]
   dsimp only
   rw [List.drop_eq_getElem_cons hi, qX ((i : Int) + 1) (by omega) (by omega)]
   unfold qhy
   by_cases c1 : l[i].2.1 > 65535
   ·simp [c1]
   ·by_cases c2 : ((l[i].2.2.2.2.2.length : Nat) : Int) > 0
    ·rw [if_neg (by simpa using c1), if_pos (by simpa using c2), if_pos (by simp; right; simpa using c2)]
    ·rw [if_neg (by simpa using c1), if_neg (by simpa using c2), if_neg (by simp; exact ⟨by omega, by simpa using c2⟩)]
     exact ih (i + 1) (by omega) (by omega)
  ·rw [if_neg (by simp; omega), List.drop_of_length_le (by omega)]
   rfl
theorem QS.pure (qk qx inc lo hi seq qo qP qD qb : Int) (qc : LR) (hl : q9 qc = true) : QS.f (qc.length + 1) qk qx inc lo hi seq qo qP qD qb qc = some (qbi qk qx inc lo hi seq qo qP qD qb qc) := by
 unfold QS.f QS.b qbi
 dsimp only
 have := QS.loop (qc.length + 1) qk qx inc lo hi seq qo qP qD qb qc ((Zo qc).1 hl).1 (qc.length + 1) 0 (by omega) (by omega)
 rw [hl, if_pos rfl]
 cases q0 qk qx inc lo hi seq qo qP qD qb qc
 ·rfl
 ·by_cases h1 : qk = 9
  ·simp [h1]
  ·by_cases h2 : qD = 0
   ·subst h2
    have h1' : (qk == 9) = false := by simpa using h1
    simp only [h1', bne_self_eq_false, Bool.false_eq_true, if_false, Bool.or_self, Bool.not_true]
    exact this
   ·have h1' : (qk == 9) = false := by simpa using h1
    simp [h1', h2]
theorem qcH.pure (id inc st lo hi : Int) (cut : Bool) (bag : LF) : qcH.f 0 id inc st lo hi cut bag = some (qgF st lo hi cut) := by
 unfold qcH.f qcH.b qgF
 cases cut <;> rfl
theorem qbS (n v : Int) : Qd n v = true ↔ 1 ≤ n ∧ n ≤ 7 ∧ 0 ≤ v ∧ v < 256 ^ n.toNat := by
 unfold Qd
 simp only [Bool.and_eq_true, decide_eq_true_eq]
theorem qqk (v m : Int) (h0 : 0 ≤ v) (hm : v < m) : Int.fdiv v m = 0 := by
 rw [Int.fdiv_eq_ediv_of_nonneg _ (by omega)]
 exact Int.ediv_eq_zero_of_lt h0 hm
theorem qsH (n : Int) (h1 : 1 ≤ n) (h7 : n ≤ 7) : ((2 : Int) ^ (Min.min (Int.toNat (IntKind.wrap .i64 ((8 : Int) * n))) (IntKind.bits .i64))) = 256 ^ n.toNat := by
 have : n = 1 ∨ n = 2 ∨ n = 3 ∨ n = 4 ∨ n = 5 ∨ n = 6 ∨ n = 7 := by omega
 rcases this with rfl | rfl | rfl | rfl | rfl | rfl | rfl <;> rfl
theorem qa1.pure (n v : Int) (hl : Qd n v = true) : qa1.f 0 n v = some true := by
 obtain ⟨h1, h2, h3, h4⟩ := (qbS n v).1 hl
 unfold qa1.f qa1.b
 rw [if_pos (by simpa using h1), if_pos (by simpa using h2), if_pos (by simpa using h3), if_neg (by rw [qX _ (by omega) (by omega)]; omega), qsH n h1 h2, qqk v _ h3 h4]
 rfl
theorem qbl : SumDet qah := zj fun _ _ _ _ => by
 unfold qah
 simp only
 split
 ·first | rfl | (split <;> rfl)
 ·rfl
theorem qb0 : SumOk Tryz.prog 41 qah := by
 have hE : EnvOk Tryz.prog qnp := env_ok (l := [(66, qfH)]) th_ok qZ ⟨⟨qlo, qjC⟩, trivial⟩ _
 refine sum_ok hE Tryz.func41 rfl (by kernel_rfl) qah [.raw] qbW.k ?_
 intro R avs qn κ r h
 unfold qah at h
 simp only at h
 split at h
 ·rename_i k p
  refine ⟨0, _, _, _, (qbW.eq (0) k p).trans (qbW.pure k p), ?_, h⟩
  intro rs ros hk
  unfold qbW.k at hk
  split at hk
  ·first | (cases hk; exact ⟨rfl, rfl⟩) | (rw [← Option.some.inj hk]; exact ⟨rfl, rfl⟩)
  ·cases hk
 ·cases h
theorem qnF : SumDet qeL := zj fun _ _ _ _ => by
 unfold qeL
 simp only
 split
 ·first | rfl | (split <;> rfl)
 ·rfl
theorem qoP : SumOk Tryz.prog 110 qeL := by
 have hE : EnvOk Tryz.prog qld := env_ok (l := [(41, qah), (109, qcl)]) th_ok qZ ⟨⟨qb0, qbl⟩, ⟨qi6, qid⟩, trivial⟩ _
 refine sum_ok hE Tryz.func110 rfl (by kernel_rfl) qeL [.raw] qaA.k ?_
 intro R avs qn κ r h
 unfold qeL at h
 simp only at h
 split at h
 ·rename_i qL qA qT mlo mhi qW qt qN qC qM qB
  refine ⟨0, _, _, _, (qaA.eq (0) qL qA qT mlo mhi qW qt qN qC qM qB).trans (qaA.pure qL qA qT mlo mhi qW qt qN qC qM qB), ?_, h⟩
  intro rs ros hk
  unfold qaA.k at hk
  split at hk
  ·first | (cases hk; exact ⟨rfl, rfl⟩) | (rw [← Option.some.inj hk]; exact ⟨rfl, rfl⟩)
  ·cases hk
 ·cases h
theorem qoG : SumDet qfC := zj fun _ _ _ _ => by
 unfold qfC
 simp only
 split
 ·first | rfl | (split <;> rfl)
 ·rfl
theorem qpJ : SumOk Tryz.prog 117 qfC := by
 have hE : EnvOk Tryz.prog qqx := env_ok (l := [(118, qfF)]) th_ok qZ ⟨⟨qpM, qoL⟩, trivial⟩ _
 refine sum_ok hE Tryz.func117 rfl (by kernel_rfl) qfC [.raw] qeu.k ?_
 intro R avs qn κ r h
 unfold qfC at h
 simp only at h
 split at h
 ·rename_i rid zE rst rlo rhi zG zw qi
  split at h
  case isFalse => cases h
  rename_i hl
  refine ⟨0, _, _, _, (qeu.eq (0) rid zE rst rlo rhi zG zw qi).trans (qeu.pure rid zE rst rlo rhi zG zw qi hl), ?_, h⟩
  intro rs ros hk
  unfold qeu.k at hk
  split at hk
  ·first | (cases hk; exact ⟨rfl, rfl⟩) | (rw [← Option.some.inj hk]; exact ⟨rfl, rfl⟩)
  ·cases hk
 ·cases h
theorem qi7 : SumDet qdQ := zj fun _ _ _ _ => by
 unfold qdQ
 simp only
 split
 ·first | rfl | (split <;> rfl)
 ·rfl
theorem qg8 : SumOk Tryz.prog 116 qdQ := by
 have hE : EnvOk Tryz.prog qlJ := env_ok (l := [(117, qfC)]) th_ok qZ ⟨⟨qpJ, qoG⟩, trivial⟩ _
 refine sum_ok hE Tryz.func116 rfl (by kernel_rfl) qdQ [.raw] QN.k ?_
 intro R avs qn κ r h
 unfold qdQ at h
 simp only at h
 split at h
 ·rename_i l qi
  split at h
  case isFalse => cases h
  rename_i hl
  refine ⟨l.length + 1, _, _, _, (QN.eq (l.length + 1) l qi).trans (QN.pure l qi hl), ?_, h⟩
  intro rs ros hk
  unfold QN.k at hk
  split at hk
  ·first | (cases hk; exact ⟨rfl, rfl⟩) | (rw [← Option.some.inj hk]; exact ⟨rfl, rfl⟩)
  ·cases hk
 ·cases h
theorem qeb : SumDet qaF := zj fun _ _ _ _ => by
 unfold qaF
 simp only
 split
 ·first | rfl | (split <;> rfl)
 ·rfl
theorem qeU : SumOk Tryz.prog 96 qaF := by
 have hE : EnvOk Tryz.prog qnj := env_ok (l := [(116, qdQ)]) th_ok qZ ⟨⟨qg8, qi7⟩, trivial⟩ _
 refine sum_ok hE Tryz.func96 rfl (by kernel_rfl) qaF [.raw] qbU.k ?_
 intro R avs qn κ r h
 unfold qaF at h
 simp only at h
 split at h
 ·rename_i l
  split at h
  case isFalse => cases h
  rename_i hl
  refine ⟨0, _, _, _, (qbU.eq (0) l).trans (qbU.pure l hl), ?_, h⟩
  intro rs ros hk
  unfold qbU.k at hk
  split at hk
  ·first | (cases hk; exact ⟨rfl, rfl⟩) | (rw [← Option.some.inj hk]; exact ⟨rfl, rfl⟩)
  ·cases hk
 ·cases h
theorem qad : SumDet QK := zj fun _ _ _ _ => by
 unfold QK
 simp only
 split
 ·first | rfl | (split <;> rfl)
 ·rfl
theorem qat : SumOk Tryz.prog 76 QK := by
 have hE : EnvOk Tryz.prog qlb := env_ok (l := [(66, qfH), (33, qdJ), (109, qcl), (41, qah), (110, qeL), (96, qaF)]) th_ok qZ ⟨⟨qlo, qjC⟩, ⟨qgI, qfB⟩, ⟨qi6, qid⟩, ⟨qb0, qbl⟩, ⟨qoP, qnF⟩, ⟨qeU, qeb⟩, trivial⟩ _
 refine sum_ok hE Tryz.func76 rfl (by kernel_rfl) QK [.raw] qaz.k ?_
 intro R avs qn κ r h
 unfold QK at h
 simp only at h
 split at h
 ·rename_i qL qA qT mlo mhi qW qt qN qC qM qB
  split at h
  case isFalse => cases h
  rename_i hl
  refine ⟨0, _, _, _, (qaz.eq (0) qL qA qT mlo mhi qW qt qN qC qM qB).trans (qaz.pure qL qA qT mlo mhi qW qt qN qC qM qB hl), ?_, h⟩
  intro rs ros hk
  unfold qaz.k at hk
  split at hk
  ·first | (cases hk; exact ⟨rfl, rfl⟩) | (rw [← Option.some.inj hk]; exact ⟨rfl, rfl⟩)
  ·cases hk
 ·cases h
theorem qje : SumDet qdf := zj fun _ _ _ _ => by
 unfold qdf
 simp only
 split
 ·first | rfl | (split <;> rfl)
 ·rfl
theorem qkx : SumOk Tryz.prog 77 qdf := by
 have hE : EnvOk Tryz.prog qlP := env_ok (l := [(76, QK)]) th_ok qZ ⟨⟨qat, qad⟩, trivial⟩ _
 refine sum_ok hE Tryz.func77 rfl (by kernel_rfl) qdf [.raw] QS.k ?_
 intro R avs qn κ r h
 unfold qdf at h
 simp only at h
 split at h
 ·rename_i qL qA qT mlo mhi qW qt qN qC qM qB
  split at h
  case isFalse => cases h
  rename_i hl
  refine ⟨qB.length + 1, _, _, _, (QS.eq (qB.length + 1) qL qA qT mlo mhi qW qt qN qC qM qB).trans (QS.pure qL qA qT mlo mhi qW qt qN qC qM qB hl), ?_, h⟩
  intro rs ros hk
  unfold QS.k at hk
  split at hk
  ·first | (cases hk; exact ⟨rfl, rfl⟩) | (rw [← Option.some.inj hk]; exact ⟨rfl, rfl⟩)
  ·cases hk
 ·cases h
theorem qnC : SumDet qeI := zj fun _ _ _ _ => by
 unfold qeI
 simp only
 split
 ·first | rfl | (split <;> rfl)
 ·rfl
theorem qoF : SumOk Tryz.prog 81 qeI := by
 have hE : EnvOk Tryz.prog qog := env_ok (l := []) th_ok qZ trivial _
 refine sum_ok hE Tryz.func81 rfl (by kernel_rfl) qeI [.raw] qcH.k ?_
 intro R avs qn κ r h
 unfold qeI at h
 simp only at h
 split at h
 ·rename_i rid zE rst rlo rhi zG zw
  refine ⟨0, _, _, _, (qcH.eq (0) rid zE rst rlo rhi zG zw).trans (qcH.pure rid zE rst rlo rhi zG zw), ?_, h⟩
  intro rs ros hk
  unfold qcH.k at hk
  split at hk
  ·first | (cases hk; exact ⟨rfl, rfl⟩) | (rw [← Option.some.inj hk]; exact ⟨rfl, rfl⟩)
  ·cases hk
 ·cases h
theorem qja : SumDet qdc := zj fun _ _ _ _ => by
 unfold qdc
 simp only
 split
 ·first | rfl | (split <;> rfl)
 ·rfl
theorem qko : SumOk Tryz.prog 111 qdc := by
 have hE : EnvOk Tryz.prog qmm := env_ok (l := []) th_ok qZ trivial _
 refine sum_ok hE Tryz.func111 rfl (by kernel_rfl) qdc [.raw] qa1.k ?_
 intro R avs qn κ r h
 unfold qdc at h
 simp only at h
 split at h
 ·rename_i n v
  split at h
  case isFalse => cases h
  rename_i hl
  refine ⟨0, _, _, _, (qa1.eq (0) n v).trans (qa1.pure n v hl), ?_, h⟩
  intro rs ros hk
  unfold qa1.k at hk
  split at hk
  ·first | (cases hk; exact ⟨rfl, rfl⟩) | (rw [← Option.some.inj hk]; exact ⟨rfl, rfl⟩)
  ·cases hk
 ·cases h
def Zi (l : List Int) : Bool := decide (l.length < 1099511600000)
def qcc : Den.Sum := ⟨[], fun qK qn κ => match qK, qn with
 | [], [] => κ [.ptr 0 0] [.box [.nilsl, .d .bool false]]
 | _, _ => none⟩
def qdd : Den.Sum := ⟨[.raw, .raw, .raw], fun qK qn κ => match qK, qn with
 | [.ptr 0 0, .d (.int .i64) n, .d (.int .i64) v], [.box [.nilsl, .d .bool false]] => if Qd n v = true then κ [.ptr 0 0] [.box [.row 1, .d .bool false], .row 5 (.int .u8) (be n.toNat v) false] else none
 | [.ptr 0 0, .d (.int .i64) n, .d (.int .i64) v], [.box [.row 1, .d .bool false], .row 5 (.int .u8) l false] => if Qd n v = true ∧ Zi l = true then κ [.ptr 0 0] [.box [.row 2, .d .bool false], .gone, .row 5 (.int .u8) (l ++ be n.toNat v) false] else none
 | _, _ => none⟩
def qcf : Den.Sum := ⟨[.raw], fun qK qn κ => match qK, qn with
 | [.ptr 0 0], [.box [.row 1, .d .bool false], .row 5 (.int .u8) l false] => if Zi l = true then κ [.d (.sl (.int .u8)) l, .d .bool true] [.box [.row 1, .d .bool false], .row 5 (.int .u8) l false] else none
 | _, _ => none⟩
def qnl : Env := ⟨th, gam [], fun i => ⟨[], [], []⟩⟩
def qex.k (rs : List AV) (os : List Den.Obj) : Option Bool :=
 match rs, os with
 | [.ptr 0 0], [.box [.nilsl, .d .bool r0]] => some r0
 | _, _ => none
def qex.b (u : Unit) : Option Bool :=
 some (false)
def qex.f (qa : Nat) (u : Unit) : Option Bool := qex.b u
theorem qex.eq (qa : Nat) (u : Unit) : (denF qnl loopN qa Tryz.f78 [.raw] [] [] qex.k) = qex.f qa u := by
 kernel_rfl
def qno : Env := ⟨th, gam [(111, qdc)], fun i => if i = 7 then ⟨[0, 2, 7], [(1000, 5, (.int .u8))], [1001]⟩ else ⟨[], [], []⟩⟩
def ZO.k (rs : List AV) (os : List Den.Obj) : Option (Bool × (List Int)) :=
 match rs, os with
 | [.ptr 0 0], [.box [.row 1, .d .bool r0], .row 5 (.int .u8) r1 false] => some (r0, r1)
 | _, _ => none
def ZO.s7 (n v x0 : Int) (x1 : (List Int)) : St := ⟨[.ptr 0 0, .dead, .d tQi (v), dD, dD, dD, dD, .d tQi x0, dD, dD, dD, dD, dD, dD, dD, dD, dD, dD, dD, dD, dD, dD, dD, dD, dD, dD, dD, dD, dD, dD, dD, dD, dD, dD, dD, dD, dD, dD, dD, dD, dD, dD, dD, dD, dD, .dead], ofL [(0, .box [.row 64, .d .bool (false)]), (64, .row 5 (.int .u8) x1 false)], 1⟩
def ZO.p7 (qa : Nat) (n v : Int) (k : Nat) := fun x0 x1 => lp qno qa Tryz.f79 [.raw] 1 ZO.k 7 [] k (ZO.s7 n v x0 x1)
def ZO.b7 (n v : Int) (A7 : Int → (List Int) → Option (Bool × (List Int))) (x0 : Int) (x1 : (List Int)) : Option (Bool × (List Int)) :=
 (if (decide (x0 ≥ (0 : Int))) then (if ((IntKind.wrap .i64 ((8 : Int) * x0)) < (0 : Int)) then none else (if ((((List.length x1) + (List.length ((IntKind.wrap .u8 (Int.fdiv v ((2 : Int) ^ (Min.min (Int.toNat (IntKind.wrap .i64 ((8 : Int) * x0))) (IntKind.bits .i64))))) :: []))) * (1 : Nat)) ≤ lim) then A7 (IntKind.wrap .i64 (x0 - (1 : Int))) (x1 ++ ((IntKind.wrap .u8 (Int.fdiv v ((2 : Int) ^ (Min.min (Int.toNat (IntKind.wrap .i64 ((8 : Int) * x0))) (IntKind.bits .i64))))) :: [])) else none)) else some (false, x1))
def ZO.l7 (qa : Nat) (n v : Int) : Nat → Int → (List Int) → Option (Bool × (List Int))
 | 0, _, _ => none
 | k + 1, x0, x1 => ZO.b7 n v (ZO.l7 qa n v k) x0 x1
def ZO.b (n v : Int) (E7 : Int → (List Int) → Option (Bool × (List Int))) : Option (Bool × (List Int)) :=
 (if (Qd n v) then E7 (IntKind.wrap .i64 (n - (1 : Int))) [] else none)
def ZO.f (qa : Nat) (n v : Int) : Option (Bool × (List Int)) := ZO.b n v (ZO.l7 qa n v qa)
theorem ZO.l7_eq (qa : Nat) (n v : Int) : ∀ k : Nat, ZO.p7 qa n v k = ZO.l7 qa n v k
 | 0 => by kernel_rfl
 | k + 1 => by
  refine Eq.trans (b := ZO.b7 n v (ZO.p7 qa n v k)) (by kernel_rfl) ?_
  rw [ZO.l7_eq qa n v k]
  kernel_rfl
theorem ZO.eq (qa : Nat) (n v : Int) : (denF qno loopN qa Tryz.f79 [.raw] [.ptr 0 0, .d tQi n, .d tQi v] [.box [.nilsl, .d .bool false]] ZO.k) = ZO.f qa n v := by
 refine Eq.trans (b := ZO.b n v (ZO.p7 qa n v qa)) (by kernel_rfl) ?_
 rw [ZO.l7_eq qa n v qa]
 kernel_rfl
def qnn : Env := ⟨th, gam [(111, qdc)], fun i => if i = 7 then ⟨[0, 2, 7], [(1000, 5, (.int .u8))], [1001]⟩ else ⟨[], [], []⟩⟩
def ZN.k (rs : List AV) (os : List Den.Obj) : Option (Bool × (List Int)) :=
 match rs, os with
 | [.ptr 0 0], [.box [.row 2, .d .bool r0], .gone, .row 5 (.int .u8) r1 false] => some (r0, r1)
 | _, _ => none
def ZN.s7 (n v : Int) (l : List Int) (x0 : Int) (x1 : (List Int)) : St := ⟨[.ptr 0 0, .dead, .d tQi (v), dD, dD, dD, dD, .d tQi x0, dD, dD, dD, dD, dD, dD, dD, dD, dD, dD, dD, dD, dD, dD, dD, dD, dD, dD, dD, dD, dD, dD, dD, dD, dD, dD, dD, dD, dD, dD, dD, dD, dD, dD, dD, dD, dD, .dead], ofL [(0, .box [.row 64, .d .bool (false)]), (1, .gone), (64, .row 5 (.int .u8) x1 false)], 2⟩
def ZN.p7 (qa : Nat) (n v : Int) (l : List Int) (k : Nat) := fun x0 x1 => lp qnn qa Tryz.f79 [.raw] 2 ZN.k 7 [] k (ZN.s7 n v l x0 x1)
def ZN.b7 (n v : Int) (l : List Int) (A7 : Int → (List Int) → Option (Bool × (List Int))) (x0 : Int) (x1 : (List Int)) : Option (Bool × (List Int)) :=
 (if (decide (x0 ≥ (0 : Int))) then (if ((IntKind.wrap .i64 ((8 : Int) * x0)) < (0 : Int)) then none else (if ((((List.length x1) + (List.length ((IntKind.wrap .u8 (Int.fdiv v ((2 : Int) ^ (Min.min (Int.toNat (IntKind.wrap .i64 ((8 : Int) * x0))) (IntKind.bits .i64))))) :: []))) * (1 : Nat)) ≤ lim) then A7 (IntKind.wrap .i64 (x0 - (1 : Int))) (x1 ++ ((IntKind.wrap .u8 (Int.fdiv v ((2 : Int) ^ (Min.min (Int.toNat (IntKind.wrap .i64 ((8 : Int) * x0))) (IntKind.bits .i64))))) :: [])) else none)) else some (false, x1))
def ZN.l7 (qa : Nat) (n v : Int) (l : List Int) : Nat → Int → (List Int) → Option (Bool × (List Int))
 | 0, _, _ => none
 | k + 1, x0, x1 => ZN.b7 n v l (ZN.l7 qa n v l k) x0 x1
def ZN.b (n v : Int) (l : List Int) (E7 : Int → (List Int) → Option (Bool × (List Int))) : Option (Bool × (List Int)) :=
 (if (Qd n v) then E7 (IntKind.wrap .i64 (n - (1 : Int))) l else none)
def ZN.f (qa : Nat) (n v : Int) (l : List Int) : Option (Bool × (List Int)) := ZN.b n v l (ZN.l7 qa n v l qa)
theorem ZN.l7_eq (qa : Nat) (n v : Int) (l : List Int) : ∀ k : Nat, ZN.p7 qa n v l k = ZN.l7 qa n v l k
 | 0 => by kernel_rfl
 | k + 1 => by
  refine Eq.trans (b := ZN.b7 n v l (ZN.p7 qa n v l k)) (by kernel_rfl) ?_
  rw [ZN.l7_eq qa n v l k]
  kernel_rfl
theorem ZN.eq (qa : Nat) (n v : Int) (l : List Int) : (denF qnn loopN qa Tryz.f79 [.raw] [.ptr 0 0, .d tQi n, .d tQi v] [.box [.row 1, .d .bool false], .row 5 (.int .u8) l false] ZN.k) = ZN.f qa n v l := by
 refine Eq.trans (b := ZN.b n v l (ZN.p7 qa n v l qa)) (by kernel_rfl) ?_
 rw [ZN.l7_eq qa n v l qa]
 kernel_rfl
def qnm : Env := ⟨th, gam [], fun i => ⟨[], [], []⟩⟩
def qbV.k (rs : List AV) (os : List Den.Obj) : Option ((List Int) × Bool × Bool × (List Int)) :=
 match rs, os with
 | [.d (.sl (.int .u8)) r0, .d .bool r1], [.box [.row 1, .d .bool r2], .row 5 (.int .u8) r3 false] => some (r0, r1, r2, r3)
 | _, _ => none
def qbV.b (l : List Int) : Option ((List Int) × Bool × Bool × (List Int)) :=
 (if (((0 : Int) ≤ ((((List.length l)) : Nat) : Int)) ∧ ((((((List.length l)) : Nat) : Int) ≤ ((((List.length l)) : Nat) : Int)) ∧ (((((((List.length l)) : Nat) : Int) * ((((1 : Nat)) : Nat) : Int)) ≤ (1099511627776 : Int)) ∧ (((((List.length l)) : Nat) : Int) ≤ (1099511627776 : Int))))) then (if ((false = false) ∧ ((List.length l) ≤ (List.length (List.replicate (Int.toNat ((((List.length l)) : Nat) : Int)) (zeroI (Go.Den.Ty.int .u8)))))) then some ((l ++ (List.drop (List.length l) (List.replicate (Int.toNat ((((List.length l)) : Nat) : Int)) (zeroI (Go.Den.Ty.int .u8))))), true, false, l) else none) else none)
def qbV.f (qa : Nat) (l : List Int) : Option ((List Int) × Bool × Bool × (List Int)) := qbV.b l
theorem qbV.eq (qa : Nat) (l : List Int) : (denF qnm loopN qa Tryz.f82 [.dat (.sl (.int .u8)) false, .raw] [.ptr 0 0] [.box [.row 1, .d .bool false], .row 5 (.int .u8) l false] qbV.k) = qbV.f qa l := by
 kernel_rfl
theorem qlI : ∀ (n : Nat) (v : Int), be (n + 1) v = (v / 256 ^ n % 256) :: be n v
 | 0, v => by simp [be]
 | n + 1, v => by
  have ih := qlI n (v / 256)
  show be (n + 1) (v / 256) ++ [v % 256] = _
  rw [ih, Int.ediv_ediv_of_nonneg (by omega)]
  show ((v / (256 * 256 ^ n)) % 256 :: be n (v / 256)) ++ [v % 256] = (v / 256 ^ (n + 1) % 256) :: (be n (v / 256) ++ [v % 256])
  rw [Int.pow_succ, Int.mul_comm (256 ^ n) 256]
  rfl
theorem zL : ∀ (n : Nat) (v : Int), (be n v).length = n
 | 0, v => rfl
 | n + 1, v => by
  show (be n (v / 256) ++ [v % 256]).length = n + 1
  rw [List.length_append, zL n]; rfl
theorem qmz (x : Int) : IntKind.wrap .u8 x = x % 256 := by
 rw [IntKind.wrap_u8]
theorem qrC (n : Int) (h1 : 0 ≤ n) (h7 : n ≤ 6) : ((2 : Int) ^ (Min.min (Int.toNat (IntKind.wrap .i64 ((8 : Int) * n))) (IntKind.bits .i64))) = 256 ^ n.toNat := by
 have : n = 0 ∨ n = 1 ∨ n = 2 ∨ n = 3 ∨ n = 4 ∨ n = 5 ∨ n = 6 := by omega
 rcases this with rfl | rfl | rfl | rfl | rfl | rfl | rfl <;> rfl
theorem qbR (l : List Int) : Zi l = true ↔ l.length < 1099511600000 := by unfold Zi; simp
theorem qqq (v : Int) (i : Nat) : IntKind.wrap .u8 (Int.fdiv v (256 ^ i)) = v / 256 ^ i % 256 := by
 rw [qmz, Int.fdiv_eq_ediv_of_nonneg _ (Int.pow_nonneg (by omega))]
theorem ZN.loop (qa : Nat) (n v : Int) (l0 : List Int) : ∀ (k i : Nat) (acc : List Int), i ≤ 7 → i < k → acc.length + i < 1099511620000 → ZN.l7 qa n v l0 k ((i : Int) - 1) acc = some (false, acc ++ be i v) := by
 intro k
 induction k with
 | zero => intro i acc h1 h2; omega
 | succ k ih =>
  intro i acc h1 h2 h3
  rw [ZN.l7]
  unfold ZN.b7
  cases i with
  | zero => rw [if_neg (by simp)]; simp [be]
  | succ i =>
   rw [show ((i + 1 : Nat) : Int) - 1 = (i : Int) from by omega]
   rw [if_pos (by simp), if_neg (by rw [qX _ (by omega) (by omega)]; omega), qrC (i : Int) (by omega) (by omega), Int.toNat_natCast, qqq, if_pos (by simp [lim]; omega), qX _ (by omega) (by omega), ih i _ (by omega) (by omega) (by simp; omega), qlI i v]
   simp
theorem ZN.pure (n v : Int) (l : List Int) (hf : Qd n v = true) (hr : Zi l = true) : ZN.f 9 n v l = some (false, l ++ be n.toNat v) := by
 obtain ⟨h1, h2, h3, h4⟩ := (qbS n v).1 hf
 have hr' := (qbR l).1 hr
 unfold ZN.f ZN.b
 rw [hf, if_pos rfl, qX _ (by omega) (by omega)]
 have := ZN.loop 9 n v l 9 n.toNat l (by omega) (by omega) (by omega)
 rw [Int.toNat_of_nonneg (by omega)] at this
 exact this
theorem ZO.loop (qa : Nat) (n v : Int) : ∀ (k i : Nat) (acc : List Int), i ≤ 7 → i < k → acc.length + i < 1099511620000 → ZO.l7 qa n v k ((i : Int) - 1) acc = some (false, acc ++ be i v) := by
 intro k
 induction k with
 | zero => intro i acc h1 h2; omega
 | succ k ih =>
  intro i acc h1 h2 h3
  rw [ZO.l7]
  unfold ZO.b7
  cases i with
  | zero => rw [if_neg (by simp)]; simp [be]
  | succ i =>
   rw [show ((i + 1 : Nat) : Int) - 1 = (i : Int) from by omega]
   rw [if_pos (by simp), if_neg (by rw [qX _ (by omega) (by omega)]; omega), qrC (i : Int) (by omega) (by omega), Int.toNat_natCast, qqq, if_pos (by simp [lim]; omega), qX _ (by omega) (by omega), ih i _ (by omega) (by omega) (by simp; omega), qlI i v]
   simp
theorem ZO.pure (n v : Int) (hf : Qd n v = true) : ZO.f 9 n v = some (false, be n.toNat v) := by
 obtain ⟨h1, h2, h3, h4⟩ := (qbS n v).1 hf
 unfold ZO.f ZO.b
 rw [hf, if_pos rfl, qX _ (by omega) (by omega)]
 have := ZO.loop 9 n v 9 n.toNat [] (by omega) (by omega) (by simp; omega)
 rw [Int.toNat_of_nonneg (by omega), List.nil_append] at this
 exact this
theorem qbV.pure (l : List Int) (hr : Zi l = true) : qbV.f 0 l = some (l, true, false, l) := by
 have hr' := (qbR l).1 hr
 unfold qbV.f qbV.b
 rw [if_pos (by refine ⟨by omega, by omega, by omega, by omega⟩), if_pos (by simp)]
 simp
theorem qgh : SumDet qcc := zj fun _ _ _ _ => by
 unfold qcc
 simp only
 split
 ·first | rfl | (split <;> rfl)
 ·rfl
theorem qg7 : SumOk Tryz.prog 78 qcc := by
 have hE : EnvOk Tryz.prog qnl := env_ok (l := []) th_ok qZ trivial _
 refine sum_ok hE Tryz.func78 rfl (by kernel_rfl) qcc [.raw] qex.k ?_
 intro R avs qn κ r h
 unfold qcc at h
 simp only at h
 split at h
 ·skip
  refine ⟨0, _, _, _, (qex.eq (0) ()).trans (rfl), ?_, h⟩
  intro rs ros hk
  unfold qex.k at hk
  split at hk
  ·first | (cases hk; exact ⟨rfl, rfl⟩) | (rw [← Option.some.inj hk]; exact ⟨rfl, rfl⟩)
  ·cases hk
 ·cases h
theorem qgm : SumDet qcf := zj fun _ _ _ _ => by
 unfold qcf
 simp only
 split
 ·first | rfl | (split <;> rfl)
 ·rfl
theorem qhg : SumOk Tryz.prog 82 qcf := by
 have hE : EnvOk Tryz.prog qnm := env_ok (l := []) th_ok qZ trivial _
 refine sum_ok hE Tryz.func82 rfl (by kernel_rfl) qcf [.dat (.sl (.int .u8)) false, .raw] qbV.k ?_
 intro R avs qn κ r h
 unfold qcf at h
 simp only at h
 split at h
 ·rename_i l
  split at h
  case isFalse => cases h
  rename_i hl
  refine ⟨0, _, _, _, (qbV.eq (0) l).trans (qbV.pure l hl), ?_, h⟩
  intro rs ros hk
  unfold qbV.k at hk
  split at hk
  ·first | (cases hk; exact ⟨rfl, rfl⟩) | (rw [← Option.some.inj hk]; exact ⟨rfl, rfl⟩)
  ·cases hk
 ·cases h
theorem qf4 : SumDet qdd := zj fun _ _ _ _ => by
 unfold qdd
 simp only
 split
 ·split <;> rfl
 ·split <;> rfl
 ·rfl
theorem qhb : SumOk Tryz.prog 79 qdd := by
 have hN : EnvOk Tryz.prog qno := env_ok (l := [(111, qdc)]) th_ok qZ ⟨⟨qko, qja⟩, trivial⟩ _
 have hR : EnvOk Tryz.prog qnn := env_ok (l := [(111, qdc)]) th_ok qZ ⟨⟨qko, qja⟩, trivial⟩ _
 refine sum_of hN (drawOk hN) Tryz.func79 rfl (by kernel_rfl) qdd [.raw] ?_
 intro R avs qn κ r h
 unfold qdd at h
 simp only at h
 split at h
 ·rename_i n v
  split at h
  case isFalse => cases h
  rename_i hl
  refine ⟨9, ?_⟩
  rw [denF_any hN.D ((ZO.eq 9 n v).trans (ZO.pure n v hl)) (out := [.ptr 0 0]) (os := [.box [.row 1, .d .bool false], .row 5 (.int .u8) (be n.toNat v) false]) (fun rs ros hk => by
   unfold ZO.k at hk
   split at hk
   ·have e := Option.some.inj hk; cases e; exact ⟨rfl, rfl⟩
   ·cases hk)]
  exact h
 ·rename_i n v l
  split at h
  case isFalse => cases h
  rename_i hl
  refine ⟨9, ?_⟩
  have := denF_any hR.D ((ZN.eq 9 n v l).trans (ZN.pure n v l hl.1 hl.2)) (out := [.ptr 0 0]) (os := [.box [.row 2, .d .bool false], .gone, .row 5 (.int .u8) (l ++ be n.toNat v) false]) (fun rs ros hk => by
   unfold ZN.k at hk
   split at hk
   ·have e := Option.some.inj hk; cases e; exact ⟨rfl, rfl⟩
   ·cases hk) κ
  exact this.trans h
 ·cases h
def qdt (r : (Int × Int × Int × (Int × Int) × Bool × LF)) : Int := if r.2.2.2.2.1 then r.2.2.1 + 4 * r.2.2.2.1.1 + 16 * r.2.2.2.1.2 + 64 else r.2.2.1 + 4 * r.2.2.2.1.1 + 16 * r.2.2.2.1.2
def qdO (r : (Int × Int × Int × (Int × Int) × Bool × LF)) : List Int := be 2 r.1 ++ (be 2 r.2.1 ++ be 1 (qdt r))
def qht (qk qx inc lo hi seq qo len : Int) : List Int := be 1 qk ++ (be 2 qx ++ (be 6 inc ++ (be 1 (lo * 16 + hi) ++ (be 2 seq ++ (be 2 qo ++ be 1 len)))))
def qcG (qk qx inc lo hi seq qo : Int) (qc : LR) : List Int := qht qk qx inc lo hi seq qo (qc.length : Int) ++ qc.flatMap qdO
def qen (qk qx inc lo hi seq qo qP qD qb : Int) (qc : LR) : List Int × Int :=
 if !q0 qk qx inc lo hi seq qo qP qD qb qc then ([], 1) else if !qbi qk qx inc lo hi seq qo qP qD qb qc then ([], 14) else (qcG qk qx inc lo hi seq qo qc, 0)
def qhe : Den.Sum := ⟨[.dat (.pair tQi (.pair tQi (.pair tQi (.pair (.pair tQi tQi) (.pair tQi (.pair tQi (.pair tQi (.pair tQi (.pair tQi (.sl tQr)))))))))) true], fun qK qn κ => match qK, qn with
 | [.agg [.d (.int .i64) qL, .d (.int .i64) qA, .d (.int .i64) qT, .d (.int .i64) mlo, .d (.int .i64) mhi, .d (.int .i64) qW, .d (.int .i64) qt, .d (.int .i64) qN, .d (.int .i64) qC, .d (.int .i64) qM, .d (.sl (.pair (.int .i64) (.pair (.int .i64) (.pair (.int .i64) (.pair (.pair (.int .i64) (.int .i64)) (.pair .bool (.sl (.pair (.int .i64) (.sl (.int .u8)))))))))) qB]], [] => if q9 qB = true then κ [.d (.sl (.int .u8)) (qen qL qA qT mlo mhi qW qt qN qC qM qB).1, .d (.int .i64) (qen qL qA qT mlo mhi qW qt qN qC qM qB).2] [] else none
 | _, _ => none⟩
def qiI : Env := ⟨th, gam [(76, QK), (77, qdf), (78, qcc), (80, qaT), (81, qeI), (79, qdd), (82, qcf)], fun i => if i = 15 then ⟨[4, 5, 50, 51, 52], [], []⟩ else ⟨[], [], []⟩⟩
def Qg.k (rs : List AV) (os : List Den.Obj) : Option ((List Int) × Int) :=
 match rs, os with
 | [.d (.sl (.int .u8)) r0, .d (.int .i64) r1], [] => some (r0, r1)
 | _, _ => none
def Qg.s15 (qL qA qT mlo mhi qW qt qN qC qM : Int) (qB : LR) (x0 x1 : Int) (x2 : (List Int)) : St := ⟨[dD, dD, dD, dD, .ptr 64 0, .fn (.func 79) [.ptr 64 0] [], dD, dD, dD, dD, dD, dD, dD, dD, dD, dD, dD, dD, dD, dD, dD, dD, dD, dD, dD, dD, dD, dD, dD, dD, dD, dD, dD, dD, dD, dD, dD, dD, dD, dD, dD, dD, dD, dD, dD, dD, dD, dD, dD, dD, .d (.sl tQr) (qB), .d tQi x0, .d tQi x1, dD, dD, dD, dD, dD, dD, dD, dD, dD, dD, dD, dD, dD, dD, dD, dD, dD, dD, dD, dD, dD, .dead], ofL [(64, .box [.row 65, .d .bool (false)]), (65, .row 5 (.int .u8) x2 false)], 0⟩
def Qg.p15 (qa : Nat) (qL qA qT mlo mhi qW qt qN qC qM : Int) (qB : LR) (k : Nat) := fun x0 x1 x2 => lp qiI qa Tryz.f57 [.dat (.sl (.int .u8)) false, .raw] 0 Qg.k 15 [] k (Qg.s15 qL qA qT mlo mhi qW qt qN qC qM qB x0 x1 x2)
def Qg.b15 (qL qA qT mlo mhi qW qt qN qC qM : Int) (qB : LR) (A15 : Int → Int → (List Int) → Option ((List Int) × Int)) (x0 : Int) (x1 : Int) (x2 : (List Int)) : Option ((List Int) × Int) :=
 (if (decide (x1 < x0)) then (match (idx qB x1) with | none => none | some y3 => (if ((Qd (2 : Int) y3.1) ∧ (Zi x2)) then (if ((Qd (2 : Int) y3.2.1) ∧ (Zi (x2 ++ (be (Int.toNat (2 : Int)) y3.1)))) then (if ((Qd (1 : Int) (qgF y3.2.2.1 y3.2.2.2.1.1 y3.2.2.2.1.2 y3.2.2.2.2.1)) ∧ (Zi ((x2 ++ (be (Int.toNat (2 : Int)) y3.1)) ++ (be (Int.toNat (2 : Int)) y3.2.1)))) then A15 x0 (IntKind.wrap .i64 (x1 + (1 : Int))) (((x2 ++ (be (Int.toNat (2 : Int)) y3.1)) ++ (be (Int.toNat (2 : Int)) y3.2.1)) ++ (be (Int.toNat (1 : Int)) (qgF y3.2.2.1 y3.2.2.2.1.1 y3.2.2.2.1.2 y3.2.2.2.2.1))) else none) else none) else none)) else (if (Zi x2) then some (x2, (0 : Int)) else none))
def Qg.l15 (qa : Nat) (qL qA qT mlo mhi qW qt qN qC qM : Int) (qB : LR) : Nat → Int → Int → (List Int) → Option ((List Int) × Int)
 | 0, _, _, _ => none
 | k + 1, x0, x1, x2 => Qg.b15 qL qA qT mlo mhi qW qt qN qC qM qB (Qg.l15 qa qL qA qT mlo mhi qW qt qN qC qM qB k) x0 x1 x2
def Qg.b (qL qA qT mlo mhi qW qt qN qC qM : Int) (qB : LR) (E15 : Int → Int → (List Int) → Option ((List Int) × Int)) : Option ((List Int) × Int) :=
 (if (q9 qB) then (if (!(q0 qL qA qT mlo mhi qW qt qN qC qM qB)) then some ([], (1 : Int)) else (if (q9 qB) then (if (!(qbi qL qA qT mlo mhi qW qt qN qC qM qB)) then some ([], (14 : Int)) else (if (Qd (1 : Int) qL) then (if ((Qd (2 : Int) qA) ∧ (Zi (be (Int.toNat (1 : Int)) qL))) then (if ((Qd (6 : Int) qT) ∧ (Zi ((be (Int.toNat (1 : Int)) qL) ++ (be (Int.toNat (2 : Int)) qA)))) then (if ((Qd (1 : Int) (Qr mlo mhi)) ∧ (Zi (((be (Int.toNat (1 : Int)) qL) ++ (be (Int.toNat (2 : Int)) qA)) ++ (be (Int.toNat (6 : Int)) qT)))) then (if ((Qd (2 : Int) qW) ∧ (Zi ((((be (Int.toNat (1 : Int)) qL) ++ (be (Int.toNat (2 : Int)) qA)) ++ (be (Int.toNat (6 : Int)) qT)) ++ (be (Int.toNat (1 : Int)) (Qr mlo mhi))))) then (if ((Qd (2 : Int) qt) ∧ (Zi (((((be (Int.toNat (1 : Int)) qL) ++ (be (Int.toNat (2 : Int)) qA)) ++ (be (Int.toNat (6 : Int)) qT)) ++ (be (Int.toNat (1 : Int)) (Qr mlo mhi))) ++ (be (Int.toNat (2 : Int)) qW)))) then (if ((Qd (1 : Int) ((((List.length qB)) : Nat) : Int)) ∧ (Zi ((((((be (Int.toNat (1 : Int)) qL) ++ (be (Int.toNat (2 : Int)) qA)) ++ (be (Int.toNat (6 : Int)) qT)) ++ (be (Int.toNat (1 : Int)) (Qr mlo mhi))) ++ (be (Int.toNat (2 : Int)) qW)) ++ (be (Int.toNat (2 : Int)) qt)))) then E15 ((((List.length qB)) : Nat) : Int) (0 : Int) (((((((be (Int.toNat (1 : Int)) qL) ++ (be (Int.toNat (2 : Int)) qA)) ++ (be (Int.toNat (6 : Int)) qT)) ++ (be (Int.toNat (1 : Int)) (Qr mlo mhi))) ++ (be (Int.toNat (2 : Int)) qW)) ++ (be (Int.toNat (2 : Int)) qt)) ++ (be (Int.toNat (1 : Int)) ((((List.length qB)) : Nat) : Int))) else none) else none) else none) else none) else none) else none) else none)) else none)) else none)
def Qg.f (qa : Nat) (qL qA qT mlo mhi qW qt qN qC qM : Int) (qB : LR) : Option ((List Int) × Int) := Qg.b qL qA qT mlo mhi qW qt qN qC qM qB (Qg.l15 qa qL qA qT mlo mhi qW qt qN qC qM qB qa)
theorem Qg.l15_eq (qa : Nat) (qL qA qT mlo mhi qW qt qN qC qM : Int) (qB : LR) : ∀ k : Nat, Qg.p15 qa qL qA qT mlo mhi qW qt qN qC qM qB k = Qg.l15 qa qL qA qT mlo mhi qW qt qN qC qM qB k
 | 0 => by kernel_rfl
 | k + 1 => by
  refine Eq.trans (b := Qg.b15 qL qA qT mlo mhi qW qt qN qC qM qB (Qg.p15 qa qL qA qT mlo mhi qW qt qN qC qM qB k)) (by kernel_rfl) ?_
  rw [Qg.l15_eq qa qL qA qT mlo mhi qW qt qN qC qM qB k]
  kernel_rfl
theorem Qg.eq (qa : Nat) (qL qA qT mlo mhi qW qt qN qC qM : Int) (qB : LR) : (denF qiI loopN qa Tryz.f57 [.dat (.sl (.int .u8)) false, .raw] [.agg [.d tQi qL, .d tQi qA, .d tQi qT, .d tQi mlo, .d tQi mhi, .d tQi qW, .d tQi qt, .d tQi qN, .d tQi qC, .d tQi qM, .d (.sl tQr) qB]] [] Qg.k) = Qg.f qa qL qA qT mlo mhi qW qt qN qC qM qB := by
 refine Eq.trans (b := Qg.b qL qA qT mlo mhi qW qt qN qC qM qB (Qg.p15 qa qL qA qT mlo mhi qW qt qN qC qM qB qa)) (by kernel_rfl) ?_
 rw [Qg.l15_eq qa qL qA qT mlo mhi qW qt qN qC qM qB qa]
 kernel_rfl
theorem qrT {k : Int} (h : ((ofF k).1.toList == (⟨#[]⟩ : ByteArray).toList) = false) : 1 ≤ k ∧ k ≤ 9 := by
 unfold ofF at h
 split at h
 ·simp at h
 ·rename_i hc
  simp only [Bool.or_eq_true, decide_eq_true_eq, not_or] at hc
  omega
theorem qju : ∀ (l : LR) (i qi : Int), (qd3 l i qi).1 = i + (l.length : Int) → ∀ r ∈ l, zA r = true
 | [], _, _, _, r, hr => by simp at hr
 | x :: l, i, qi, h, r, hr => by
  unfold qd3 at h
  split at h
  ·simp at h; omega
  ·rename_i hc
   simp only [Bool.or_eq_true, not_or, Bool.not_eq_true', Bool.not_eq_false] at hc
   rcases List.mem_cons.1 hr with rfl | hr
   ·exact hc.1
   ·exact qju l (i + 1) x.1 (by simp only [List.length_cons] at h; omega) r hr
theorem zH {r : Int × Int × Int × (Int × Int) × Bool × LF} (h : zA r = true) : 0 ≤ r.1 ∧ r.1 ≤ 4095 ∧ 0 ≤ r.2.1 ∧ r.2.1 ≤ 281474976710655 ∧ 0 ≤ r.2.2.1 ∧ r.2.2.1 ≤ 3 ∧ okS r.2.2.2.1.1 r.2.2.2.1.2 = true ∧ qca r.2.2.2.2.2 = true ∧ (r.2.2.2.2.1 = true → r.2.2.2.2.2 = []) := by
 unfold zA qeW at h
 split at h
 ·cases h
 split at h
 ·cases h
 split at h
 ·cases h
 split at h
 ·cases h
 split at h
 ·cases h
 rename_i h1 h2 h3 h4 h5
 simp only [Bool.or_eq_true, decide_eq_true_eq, not_or, Bool.not_eq_true', Bool.not_eq_false] at h1 h2 h3 h4
 simp only [Bool.and_eq_true, decide_eq_true_eq, not_and] at h5
 refine ⟨by omega, by omega, by omega, by omega, by omega, by omega, h4.1, h4.2, fun hc => ?_⟩
 have := h5 hc
 exact List.eq_nil_of_length_eq_zero (by omega)
theorem qfy {had : Bool} {v hi : Int} (h : zY had v 0 hi = true) (h0 : 0 ≤ hi) : 0 ≤ v ∧ v ≤ hi := by
 unfold zY at h
 cases had
 ·simp at h; omega
 ·simp at h; exact h
theorem Ql {qk qx inc lo hi seq qo qP qD qb : Int} {qc : LR} (h : q0 qk qx inc lo hi seq qo qP qD qb qc = true) :
  1 ≤ qk ∧ qk ≤ 9 ∧ 0 ≤ qx ∧ qx ≤ 4095 ∧ 0 ≤ inc ∧ inc ≤ 281474976710655 ∧ okS lo hi = true ∧ 0 ≤ seq ∧ seq ≤ 65535 ∧ 0 ≤ qo ∧ qo ≤ 4095 ∧ qar qk qP qD qb = true ∧ qc.length ≤ 255 ∧ ∀ r ∈ qc, zA r = true := by
 unfold q0 at h
 have h1 : ((ofF qk).1.toList == (⟨#[]⟩ : ByteArray).toList || (decide (qx < 0) || (decide (qx > 4095) || (decide (inc < 0) || (decide (inc > 281474976710655) || !okS lo hi))))) = false := by
  cases hc : ((ofF qk).1.toList == (⟨#[]⟩ : ByteArray).toList || (decide (qx < 0) || (decide (qx > 4095) || (decide (inc < 0) || (decide (inc > 281474976710655) || !okS lo hi))))) with
  | false => rfl
  | true => rw [hc] at h; cases h
 rw [h1] at h
 have h2 : (!zY (qy qk 0) seq 0 65535 || (!zY (qy qk 1) qo (if qk == 3 then 1 else 0) (if qk == 3 then 3 else 4095) || !qar qk qP qD qb)) = false := by
  cases hc : (!zY (qy qk 0) seq 0 65535 || (!zY (qy qk 1) qo (if qk == 3 then 1 else 0) (if qk == 3 then 3 else 4095) || !qar qk qP qD qb)) with
  | false => rfl
  | true => rw [hc] at h; cases h
 rw [h2] at h
 simp only [Bool.false_eq_true, if_false] at h
 simp only [Bool.or_eq_false_iff, decide_eq_false_iff_not, Bool.not_eq_false'] at h1 h2
 obtain ⟨k1, k2, k3, k4, k5, k6⟩ := h1
 obtain ⟨m1, m2, m3⟩ := h2
 have hk := qrT k1
 have hs := qfy m1 (by omega)
 have ht : 0 ≤ qo ∧ qo ≤ 4095 := by
  unfold zY at m2
  cases hh : qy qk 1
  ·rw [hh] at m2
   simp at m2; omega
  ·rw [hh] at m2
   by_cases h3 : qk = 3
   ·simp [h3] at m2; omega
   ·simp [h3] at m2; exact m2
 refine ⟨hk.1, hk.2, by omega, by omega, by omega, by omega, k6, hs.1, hs.2, ht.1, ht.2, m3, ?_⟩
 split at h
 ·have : qc = [] := List.eq_nil_of_length_eq_zero (by simpa using h)
  subst this
  simp
 ·simp only [Bool.and_eq_true, decide_eq_true_eq] at h
  refine ⟨by omega, ?_⟩
  have hs := h.2
  unfold Qp at hs
  exact qju qc 0 (-1) (by simpa using hs)
theorem qkP {qk qP qb : Int} (h : qar qk qP 0 qb = true) : qP = 0 ∧ qb = 0 := by
 unfold qar at h
 split at h
 ·cases h
 split at h
 ·cases h
 rename_i h1 h2
 simp only [beq_self_eq_true, Bool.true_and, Bool.or_eq_true, not_or, bne_iff_ne, ne_eq, Decidable.not_not] at h2
 refine ⟨h2.1, ?_⟩
 simp only [Bool.or_eq_true, Bool.and_eq_true, beq_iff_eq, decide_eq_true_eq] at h
 rcases h with h | h
 ·exact h
 ·omega
theorem qd1 (qk qx inc lo hi seq qo qP qD qb : Int) (qc : LR) : qbi qk qx inc lo hi seq qo qP qD qb qc = qiS qk qx inc lo hi seq qo qP qD qb qc := by
 unfold qbi qiS
 cases hv : q0 qk qx inc lo hi seq qo qP qD qb qc
 ·rfl
 ·by_cases he : qD = 0
  ·subst he
   obtain ⟨_, _, _, _, _, _, _, _, _, _, _, hl, _⟩ := Ql hv
   obtain ⟨rfl, rfl⟩ := qkP hl
   simp
  ·by_cases h9 : qk = 9
   ·simp [h9]
   ·simp [he, h9]
theorem qmf : ∀ (l : LR), qhy l = true → ∀ r ∈ l, r.2.1 ≤ 65535 ∧ r.2.2.2.2.2 = []
 | [], _, r, hr => by simp at hr
 | x :: l, h, r, hr => by
  unfold qhy at h
  split at h
  ·cases h
  ·rename_i hc
   simp only [Bool.or_eq_true, not_or, decide_eq_true_eq] at hc
   rcases List.mem_cons.1 hr with rfl | hr
   ·exact ⟨by omega, List.eq_nil_of_length_eq_zero (by omega)⟩
   ·exact qmf l h r hr
theorem qel {qk qx inc lo hi seq qo qP qD qb : Int} {qc : LR} (h : qiS qk qx inc lo hi seq qo qP qD qb qc = true) :
  q0 qk qx inc lo hi seq qo qP qD qb qc = true ∧ ∀ r ∈ qc, r.2.1 ≤ 65535 ∧ r.2.2.2.2.2 = [] := by
 unfold qiS at h
 split at h
 ·cases h
 ·rename_i hc
  simp only [Bool.or_eq_true, not_or, Bool.not_eq_true', Bool.not_eq_false] at hc
  exact ⟨hc.1, qmf qc h⟩
theorem qbo {v : Int} (h0 : 0 ≤ v) (h1 : v < 256) : Qd 1 v = true := (qbS 1 v).2 ⟨by omega, by omega, h0, by simpa using h1⟩
theorem qb5 {v : Int} (h0 : 0 ≤ v) (h1 : v < 65536) : Qd 2 v = true := (qbS 2 v).2 ⟨by omega, by omega, h0, by simpa using h1⟩
theorem qnc {v : Int} (h0 : 0 ≤ v) (h1 : v < 281474976710656) : Qd 6 v = true := (qbS 6 v).2 ⟨by omega, by omega, h0, by simpa using h1⟩
theorem qeQ {lo hi : Int} (h : okS lo hi = true) : Qr lo hi = lo * 16 + hi := by
 have := (qaq lo hi).1 h
 have h1 : lo = 1 ∨ lo = 2 ∨ lo = 3 := by omega
 have h2 : hi = 1 ∨ hi = 2 ∨ hi = 3 := by omega
 rcases h1 with rfl | rfl | rfl <;> rcases h2 with rfl | rfl | rfl <;> first | omega | rfl | kernel_rfl
theorem qmI {r : Int × Int × Int × (Int × Int) × Bool × LF} (h : zA r = true) : qgF r.2.2.1 r.2.2.2.1.1 r.2.2.2.1.2 r.2.2.2.2.1 = qdt r ∧ 0 ≤ qdt r ∧ qdt r < 256 := by
 obtain ⟨id, inc, st, ⟨lo, hi⟩, cut, bag⟩ := r
 obtain ⟨_, _, _, _, h5, h6, h7, _, _⟩ := zH h
 have := (qaq lo hi).1 h7
 dsimp only at h5 h6 h7 ⊢
 have h0 : st = 0 ∨ st = 1 ∨ st = 2 ∨ st = 3 := by omega
 have h1 : lo = 1 ∨ lo = 2 ∨ lo = 3 := by omega
 have h2 : hi = 1 ∨ hi = 2 ∨ hi = 3 := by omega
 refine ⟨?_, by unfold qdt; dsimp only; split <;> omega, by unfold qdt; dsimp only; split <;> omega⟩
 rcases h0 with rfl | rfl | rfl | rfl <;> rcases h1 with rfl | rfl | rfl <;> rcases h2 with rfl | rfl | rfl <;> cases cut <;> kernel_rfl
theorem n1 : Int.toNat (1 : Int) = 1 := rfl
theorem n2 : Int.toNat (2 : Int) = 2 := rfl
theorem n6 : Int.toNat (6 : Int) = 6 := rfl
theorem qbA {l : List Int} (h : l.length < 1099511600000) : Zi l = true := (qbR l).2 h
theorem qjk (r : (Int × Int × Int × (Int × Int) × Bool × LF)) : (qdO r).length = 5 := by unfold qdO; simp [zL]
theorem Qg.loop (qa : Nat) (qk qx inc lo hi seq qo qP qD qb : Int) (qc : LR) (hr : ∀ r ∈ qc, zA r = true ∧ r.2.1 ≤ 65535) (hlen : qc.length ≤ 255) : ∀ (k i : Nat) (acc : List Int), i ≤ qc.length → qc.length - i < k → acc.length + 5 * (qc.length - i) < 2000 →
  Qg.l15 qa qk qx inc lo hi seq qo qP qD qb qc k (qc.length : Int) (i : Int) acc = some (acc ++ (qc.drop i).flatMap qdO, 0) := by
 intro k
 induction k with
 | zero => intro i acc h1 h2; omega
 | succ k ih =>
  intro i acc h1 h2 h3
  rw [Qg.l15]
  unfold Qg.b15
  by_cases hi' : i < qc.length
  ·rw [if_pos (by simp; omega), Qn, List.getElem?_eq_getElem hi']
   dsimp only
   rw [List.drop_eq_getElem_cons hi', List.flatMap_cons]
   obtain ⟨hok, hinc⟩ := hr qc[i] (List.getElem_mem hi')
   generalize qc[i] = r at hok hinc ⊢
   obtain ⟨f1, f2, f3, f4, f5, f6, f7, _, _⟩ := zH hok
   obtain ⟨s0, s1, s2⟩ := qmI hok
   have r1 : Zi acc = true := qbA (by omega)
   have r2 : Zi (acc ++ be 2 r.1) = true := qbA (by simp [zL]; omega)
   have r3 : Zi ((acc ++ be 2 r.1) ++ be 2 r.2.1) = true := qbA (by simp [zL]; omega)
   have hnext := ih (i + 1) (((acc ++ be 2 r.1) ++ be 2 r.2.1) ++ be 1 (qdt r)) (by omega) (by omega) (by simp [zL]; omega)
   have hw : IntKind.wrap .i64 ((i : Int) + 1) = ((i + 1 : Nat) : Int) := by rw [qX _ (by omega) (by omega)]; omega
   rw [n1, n2, s0, if_pos ⟨qb5 f1 (by omega), r1⟩, if_pos ⟨qb5 f3 (by omega), r2⟩, if_pos ⟨qbo s1 s2, r3⟩, hw, hnext]
   simp [qdO, List.append_assoc]
  ·rw [if_neg (by simp; omega), List.drop_of_length_le (by omega), if_pos (qbA (by omega))]
   simp
theorem Qg.pure (qk qx inc lo hi seq qo qP qD qb : Int) (qc : LR) (hl : q9 qc = true) :
  Qg.f (qc.length + 1) qk qx inc lo hi seq qo qP qD qb qc = some ((qen qk qx inc lo hi seq qo qP qD qb qc).1, (qen qk qx inc lo hi seq qo qP qD qb qc).2) := by
 unfold Qg.f Qg.b qen
 rw [if_pos hl]
 cases hv0 : q0 qk qx inc lo hi seq qo qP qD qb qc
 ·rfl
 rw [if_neg (by simp), if_pos hl]
 cases hf : qbi qk qx inc lo hi seq qo qP qD qb qc
 ·rfl
 have hf' := hf
 rw [qd1] at hf'
 obtain ⟨hv, hx⟩ := qel hf'
 obtain ⟨v1, v2, v3, v4, v5, v6, v7, v8, v9, v10, v11, _, v12, v13⟩ := Ql hv
 have v14 := (qaq _ _).1 v7
 have hlp := Qg.loop (qc.length + 1) qk qx inc lo hi seq qo qP qD qb qc (fun r hr => ⟨v13 r hr, (hx r hr).1⟩) v12 (qc.length + 1) 0 (((((((be 1 qk) ++ be 2 qx) ++ be 6 inc) ++ be 1 (lo * 16 + hi)) ++ be 2 seq) ++ be 2 qo) ++ be 1 (qc.length : Int)) (by omega) (by omega) (by simp [zL]; omega)
 rw [show ((0 : Nat) : Int) = 0 from rfl] at hlp
 rw [if_neg (by simp), qeQ v7, n1, n2, n6]
 rw [if_pos (qbo (by omega) (by omega)), if_pos ⟨qb5 v3 (by omega), qbA (by simp [zL])⟩, if_pos ⟨qnc v5 (by omega), qbA (by simp [zL])⟩,
  if_pos ⟨qbo (by omega) (by omega), qbA (by simp [zL])⟩, if_pos ⟨qb5 v8 (by omega), qbA (by simp [zL])⟩, if_pos ⟨qb5 v10 (by omega), qbA (by simp [zL])⟩, if_pos ⟨qbo (by omega) (by omega), qbA (by simp [zL])⟩]
 rw [hlp]
 simp [qcG, qht, List.append_assoc]
theorem qpP : SumDet qhe := zj fun _ _ _ _ => by
 unfold qhe
 simp only
 split
 ·first | rfl | (split <;> rfl)
 ·rfl
theorem qqR : SumOk Tryz.prog 57 qhe := by
 have hE : EnvOk Tryz.prog qiI := env_ok (l := [(76, QK), (77, qdf), (78, qcc), (80, qaT), (81, qeI), (79, qdd), (82, qcf)]) th_ok qZ ⟨⟨qat, qad⟩, ⟨qkx, qje⟩, ⟨qg7, qgh⟩, ⟨qdU, qdg⟩, ⟨qoF, qnC⟩, ⟨qhb, qf4⟩, ⟨qhg, qgm⟩, trivial⟩ _
 refine sum_ok hE Tryz.func57 rfl (by kernel_rfl) qhe [.dat (.sl (.int .u8)) false, .raw] Qg.k ?_
 intro R avs qn κ r h
 unfold qhe at h
 simp only at h
 split at h
 ·rename_i qL qA qT mlo mhi qW qt qN qC qM qB
  split at h
  case isFalse => cases h
  rename_i hl
  refine ⟨qB.length + 1, _, _, _, (Qg.eq (qB.length + 1) qL qA qT mlo mhi qW qt qN qC qM qB).trans (Qg.pure qL qA qT mlo mhi qW qt qN qC qM qB hl), ?_, h⟩
  intro rs ros hk
  unfold Qg.k at hk
  split at hk
  ·first | (cases hk; exact ⟨rfl, rfl⟩) | (rw [← Option.some.inj hk]; exact ⟨rfl, rfl⟩)
  ·cases hk
 ·cases h
theorem Tryz.own : ownKnob Tryz.prog.godebug = none := by kernel_rfl
theorem Tryz.laidOut : laidOutB Tryz.prog = true := by kernel_rfl
theorem Tryz.mapsRow : mapsRowed Tryz.prog = true := by kernel_rfl
theorem Tryz.slicesSize : slicesSized Tryz.prog = true := by kernel_rfl
abbrev qkQ : List (String × DataW Unit) := [("polyglot/crc.halves", Rows.laid_polyglot_crc_halves)]
theorem qn5 : Tryz.prog.globalNamed "polyglot/crc.halves" = some 0 := by kernel_rfl
theorem qrj (os : Os) (qK : Array Value) : laidMetH Tryz.prog qkQ ((World.doorLaid Tryz.prog 400 os).forCall (fun _ _ => 0) ⟨#[], qK, []⟩).memory :=
 laidMetH_of_parts3 (fuel := 8) (laidMet_of_run' 8 (by kernel_rfl) (by kernel_rfl)) (by kernel_rfl) (by kernel_rfl)
theorem qp8 {W : World} (h : laidMetH Tryz.prog qkQ W) : GlobIn W := by
 rw [MakeChecks.laidMetH_plain _ _ _ (by kernel_rfl)] at h
 have hT : Lib.TabIs Tryz.prog W "polyglot/crc.halves" .u32 halves := Lib.tabIs_of_head (k := .u32) (zs := halves) (rest := []) qn5 (show (Tryz.prog.globals[0]?).map (·.type) = some 160 by kernel_rfl) Tryz.underlying160 Tryz.underlying99 (by kernel_rfl) (by kernel_rfl) h
 intro n k l hn j x hj
 unfold gtab at hn
 split at hn
 ·rename_i h0
  subst h0
  cases hn
  have hlt : j < halves.length := by
   rcases Nat.lt_or_ge j halves.length with h | h
   ·exact h
   ·rw [List.getElem?_eq_none h] at hj; cases hj
  have := hT.cell qn5 j hlt
  rw [this]
  have e : halves.getD j 0 = x := by
   show (halves[j]?).getD 0 = x
   rw [hj]; rfl
  rw [e]
 ·cases hn
theorem qpg {l : List Int} (h : Go.Den.Good (.sl (.int .u8)) l) : ∀ c ∈ l, 0 ≤ c ∧ c ≤ 255 := by
 intro c hc
 have h1 := h.2 c hc
 have h2 : (Lit.int .u8 c).wf = true := h1
 simp [Lit.wf, IntKind.min, IntKind.max, IntKind.signed, IntKind.bits] at h2
 omega
def BIG : Nat := veil 1099511627776
theorem Zx : BIG = 1099511627776 := veil_eq _
def Qw : List (Int × Int) := [(1, 1), (1, 2), (1, 3), (2, 2), (2, 3), (3, 3)]
def zW : List (Int × Int) → Int → Int × Int × Bool
 | [], c => (0, 0, false)
 | s :: l, c => if (Qr s.1 s.2 == c) = true then (s.1, s.2, true) else zW l c
def inB (l : List Int) : Bool := Zi l && l.all fun c => decide (0 ≤ c) && decide (c ≤ 255)
def zt (l : List Int) (a : Int) : Bool := inB l && (decide (0 ≤ a) && decide (a ≤ (l.length : Int)))
def seg (l : List Int) (a n : Int) : List Int := (l.take (a + n).toNat).drop a.toNat
def zf (l : List Int) (n a : Int) (bad : Bool) : List Int × Bool × Int × Bool :=
 if bad then ([], false, a, true) else if decide (n < 0) || decide (n > (l.length : Int) - a) then ([], false, a, true) else (seg l a n, true, a + n, false)
def Q6 (p : List Int) : Int := p.foldl (fun v c => v * 256 + c) 0
def qz (l : List Int) (n a : Int) (bad : Bool) : Int × Int × Bool :=
 let n' := if decide (n < 1) || decide (n > 7) then -1 else n
 ((if (zf l n' a bad).2.1 then Q6 (zf l n' a bad).1 else 0), (zf l n' a bad).2.2.1, (zf l n' a bad).2.2.2)
def ZZ (l : List Int) (a : Int) (bad : Bool) : Int := if bad then 0 else (l.length : Int) - a
def QX (l : List Int) (a : Int) (bad : Bool) : (Int × Int × Int × (Int × Int) × Bool × LF) × Int × Bool :=
 let r1 := qz l 2 a bad
 let r2 := qz l 2 r1.2.1 r1.2.2
 let r3 := qz l 1 r2.2.1 r2.2.2
 (((if decide (r3.1 > 127) then -1 else r1.1), r2.1, r3.1 % 4, (r3.1 / 4 % 4, r3.1 / 16 % 4), r3.1 / 64 % 2 == 1, []), r3.2.1, r3.2.2)
def qhh : Den.Sum := ⟨[], fun qK qn κ => match qK, qn with
 | [], [] => κ [.row 0] [.row 23 (.pair (.int .i64) (.int .i64)) Qw false]
 | _, _ => none⟩
def qoH : Den.Sum := ⟨[.raw], fun qK qn κ => match qK, qn with
 | [.d (.int .i64) c], [] => κ [.agg [.d (.int .i64) (zW Qw c).1, .d (.int .i64) (zW Qw c).2.1], .d .bool (zW Qw c).2.2] []
 | _, _ => none⟩
def qaS : Den.Sum := ⟨[.dat (.sl (.int .u8)) false], fun qK qn κ => match qK, qn with
 | [.d (.sl (.int .u8)) l], [] => if inB l = true then κ [.ptr 0 0] [.box [.d (.sl (.int .u8)) l, .d (.int .i64) 0, .d .bool false]] else none
 | _, _ => none⟩
def qea : Den.Sum := ⟨[.raw, .raw], fun qK qn κ => match qK, qn with
 | [.ptr 0 0, .d (.int .i64) n], [.box [.d (.sl (.int .u8)) l, .d (.int .i64) a, .d .bool bad]] => if zt l a = true then κ [.d (.sl (.int .u8)) (zf l n a bad).1, .d .bool (zf l n a bad).2.1] [.box [.d (.sl (.int .u8)) l, .d (.int .i64) (zf l n a bad).2.2.1, .d .bool (zf l n a bad).2.2.2]] else none
 | _, _ => none⟩
def qec : Den.Sum := ⟨[.raw, .raw], fun qK qn κ => match qK, qn with
 | [.ptr 0 0, .d (.int .i64) n], [.box [.d (.sl (.int .u8)) l, .d (.int .i64) a, .d .bool bad]] => if zt l a = true then κ [.d (.int .i64) (qz l n a bad).1] [.box [.d (.sl (.int .u8)) l, .d (.int .i64) (qz l n a bad).2.1, .d .bool (qz l n a bad).2.2]] else none
 | _, _ => none⟩
def qaP : Den.Sum := ⟨[.raw], fun qK qn κ => match qK, qn with
 | [.ptr 0 0], [.box [.d (.sl (.int .u8)) l, .d (.int .i64) a, .d .bool bad]] => κ [.d .bool bad] [.box [.d (.sl (.int .u8)) l, .d (.int .i64) a, .d .bool bad]]
 | _, _ => none⟩
def qed : Den.Sum := ⟨[.raw], fun qK qn κ => match qK, qn with
 | [.ptr 0 0], [.box [.d (.sl (.int .u8)) l, .d (.int .i64) a, .d .bool bad]] => if zt l a = true then κ [.d (.int .i64) (ZZ l a bad)] [.box [.d (.sl (.int .u8)) l, .d (.int .i64) a, .d .bool bad]] else none
 | _, _ => none⟩
def qcX : Den.Sum := ⟨[.raw], fun qK qn κ => match qK, qn with
 | [.ptr 0 0], [.box [.d (.sl (.int .u8)) l, .d (.int .i64) a, .d .bool bad]] => if zt l a = true then κ [.d .bool (!bad && (ZZ l a bad == 0))] [.box [.d (.sl (.int .u8)) l, .d (.int .i64) a, .d .bool bad]] else none
 | _, _ => none⟩
def qoO : Den.Sum := ⟨[.raw], fun qK qn κ => match qK, qn with
 | [.fn (.func 52) [.ptr 0 0] []], [.box [.d (.sl (.int .u8)) l, .d (.int .i64) a, .d .bool bad]] => if zt l a = true then κ [.agg [.d (.int .i64) (QX l a bad).1.1, .d (.int .i64) (QX l a bad).1.2.1, .d (.int .i64) (QX l a bad).1.2.2.1, .d (.int .i64) (QX l a bad).1.2.2.2.1.1, .d (.int .i64) (QX l a bad).1.2.2.2.1.2, .d .bool (QX l a bad).1.2.2.2.2.1, .d (.sl (.pair (.int .i64) (.sl (.int .u8)))) []]] [.box [.d (.sl (.int .u8)) l, .d (.int .i64) (QX l a bad).2.1, .d .bool (QX l a bad).2.2]] else none
 | _, _ => none⟩
def qk9 : Env := ⟨th, gam [], fun i => if i = 3 then ⟨[1, 2], [(1, 23, (.pair tQi tQi))], []⟩ else if i = 6 then ⟨[1, 2, 3], [], []⟩ else ⟨[], [], []⟩⟩
def QC.k (rs : List AV) (os : List Den.Obj) : Option (List (Int × Int)) :=
 match rs, os with
 | [.row 0], [.row 23 (.pair (.int .i64) (.int .i64)) r0 false] => some r0
 | _, _ => none
def QC.s6 (u : Unit) (x2 x3 : Int) (x4 : (List (Int × Int))) : St := ⟨[.dead, .row 64, .d tQi x2, .d tQi x3, dD, dD, dD, dD, dD, dD, dD, dD, dD, dD, dD, dD, dD, dD, dD, .dead], ofL [(64, .row 23 (.pair tQi tQi) x4 false)], 0⟩
def QC.p6 (qa : Nat) (u : Unit) (k3 k : Nat) := fun x2 x3 x4 => lp qk9 qa Tryz.f112 [.own 23 (.pair tQi tQi)] 0 QC.k 6 [k3] k (QC.s6 u x2 x3 x4)
def QC.b6 (u : Unit) (A3 : Int → (List (Int × Int)) → Option (List (Int × Int))) (A6 : Int → Int → (List (Int × Int)) → Option (List (Int × Int))) (x2 : Int) (x3 : Int) (x4 : (List (Int × Int))) : Option (List (Int × Int)) :=
 (if (decide (x3 ≤ (3 : Int))) then (if ((((List.length x4) + (List.length ((x2, x3) :: []))) * (16 : Nat)) ≤ lim) then A6 x2 (IntKind.wrap .i64 (x3 + (1 : Int))) (x4 ++ ((x2, x3) :: [])) else none) else A3 (IntKind.wrap .i64 (x2 + (1 : Int))) x4)
def QC.l6 (qa : Nat) (u : Unit) (A3 : Int → (List (Int × Int)) → Option (List (Int × Int))) : Nat → Int → Int → (List (Int × Int)) → Option (List (Int × Int))
 | 0, _, _, _ => none
 | k + 1, x2, x3, x4 => QC.b6 u A3 (QC.l6 qa u A3 k) x2 x3 x4
def QC.s3 (u : Unit) (x0 : Int) (x1 : (List (Int × Int))) : St := ⟨[.dead, .row 64, .d tQi x0, dD, dD, dD, dD, dD, dD, dD, dD, dD, dD, dD, dD, dD, dD, dD, dD, .dead], ofL [(64, .row 23 (.pair tQi tQi) x1 false)], 0⟩
def QC.p3 (qa : Nat) (u : Unit) (k : Nat) := fun x0 x1 => lp qk9 qa Tryz.f112 [.own 23 (.pair tQi tQi)] 0 QC.k 3 [] k (QC.s3 u x0 x1)
def QC.b3 (u : Unit) (A3 : Int → (List (Int × Int)) → Option (List (Int × Int))) (E6 : Int → Int → (List (Int × Int)) → Option (List (Int × Int))) (x0 : Int) (x1 : (List (Int × Int))) : Option (List (Int × Int)) :=
 (if (decide (x0 ≤ (3 : Int))) then E6 x0 x0 x1 else some (x1))
def QC.l3 (qa : Nat) (u : Unit) : Nat → Int → (List (Int × Int)) → Option (List (Int × Int))
 | 0, _, _ => none
 | k + 1, x0, x1 => QC.b3 u (QC.l3 qa u k) (QC.l6 qa u (QC.l3 qa u k) qa) x0 x1
def QC.b (u : Unit) (E3 : Int → (List (Int × Int)) → Option (List (Int × Int))) : Option (List (Int × Int)) :=
 E3 (1 : Int) []
def QC.f (qa : Nat) (u : Unit) : Option (List (Int × Int)) := QC.b u (QC.l3 qa u qa)
theorem QC.l6_eq (qa : Nat) (u : Unit) (k3 : Nat) : ∀ k : Nat, QC.p6 qa u k3 k = QC.l6 qa u (QC.p3 qa u k3) k
 | 0 => by kernel_rfl
 | k + 1 => by
  refine Eq.trans (b := QC.b6 u (QC.p3 qa u k3) (QC.p6 qa u k3 k)) (by kernel_rfl) ?_
  rw [QC.l6_eq qa u k3 k]
  kernel_rfl
theorem QC.l3_eq (qa : Nat) (u : Unit) : ∀ k : Nat, QC.p3 qa u k = QC.l3 qa u k
 | 0 => by kernel_rfl
 | k + 1 => by
  refine Eq.trans (b := QC.b3 u (QC.p3 qa u k) (QC.p6 qa u k qa)) (by kernel_rfl) ?_
  rw [QC.l3_eq qa u k, QC.l6_eq qa u k qa, QC.l3_eq qa u k]
  kernel_rfl
theorem QC.eq (qa : Nat) (u : Unit) : (denF qk9 loopN qa Tryz.f112 [.own 23 (.pair tQi tQi)] [] [] QC.k) = QC.f qa u := by
 refine Eq.trans (b := QC.b u (QC.p3 qa u qa)) (by kernel_rfl) ?_
 rw [QC.l3_eq qa u qa]
 kernel_rfl
def qpu : Env := ⟨th, gam [(112, qhh), (80, qaT)], fun i => if i = 2 then ⟨[0, 2, 6, 7, 8], [], []⟩ else ⟨[], [], []⟩⟩
def SOf.k (rs : List AV) (os : List Den.Obj) : Option (Int × Int × Bool) :=
 match rs, os with
 | [.agg [.d (.int .i64) r0, .d (.int .i64) r1], .d .bool r2], [] => some (r0, r1, r2)
 | _, _ => none
def SOf.s2 (c x0 x1 : Int) : St := ⟨[.d tQi (c), .dead, .ptr 64 0, dD, dD, dD, .row 65, .d tQi x0, .d tQi x1, dD, dD, dD, dD, dD, dD, dD, dD, dD, .dead], ofL [(64, .box [.d tQi (0), .d tQi (0)]), (65, .row 23 (.pair tQi tQi) (Qw) false)], 0⟩
def SOf.p2 (qa : Nat) (c : Int) (k : Nat) := fun x0 x1 => lp qpu qa Tryz.f83 [.dat (.pair tQi tQi) true, .raw] 0 SOf.k 2 [] k (SOf.s2 c x0 x1)
def SOf.b2 (c : Int) (A2 : Int → Int → Option (Int × Int × Bool)) (x0 : Int) (x1 : Int) : Option (Int × Int × Bool) :=
 (if (decide (x1 < x0)) then (match (idx Qw x1) with | none => none | some y2 => (match (idx Qw x1) with | none => none | some y3 => (if ((Qr y3.1 y3.2) == c) then some (y3.1, y3.2, true) else A2 x0 (IntKind.wrap .i64 (x1 + (1 : Int)))))) else some (0, 0, false))
def SOf.l2 (qa : Nat) (c : Int) : Nat → Int → Int → Option (Int × Int × Bool)
 | 0, _, _ => none
 | k + 1, x0, x1 => SOf.b2 c (SOf.l2 qa c k) x0 x1
def SOf.b (c : Int) (E2 : Int → Int → Option (Int × Int × Bool)) : Option (Int × Int × Bool) :=
 E2 ((((List.length Qw)) : Nat) : Int) (0 : Int)
def SOf.f (qa : Nat) (c : Int) : Option (Int × Int × Bool) := SOf.b c (SOf.l2 qa c qa)
theorem SOf.l2_eq (qa : Nat) (c : Int) : ∀ k : Nat, SOf.p2 qa c k = SOf.l2 qa c k
 | 0 => by kernel_rfl
 | k + 1 => by
  refine Eq.trans (b := SOf.b2 c (SOf.p2 qa c k)) (by kernel_rfl) ?_
  rw [SOf.l2_eq qa c k]
  kernel_rfl
theorem SOf.eq (qa : Nat) (c : Int) : (denF qpu loopN qa Tryz.f83 [.dat (.pair tQi tQi) true, .raw] [.d tQi c] [] SOf.k) = SOf.f qa c := by
 refine Eq.trans (b := SOf.b c (SOf.p2 qa c qa)) (by kernel_rfl) ?_
 rw [SOf.l2_eq qa c qa]
 kernel_rfl
def qol : Env := ⟨th, gam [], fun i => ⟨[], [], []⟩⟩
def qcM.k (rs : List AV) (os : List Den.Obj) : Option ((List Int) × Int × Bool) :=
 match rs, os with
 | [.ptr 0 0], [.box [.d (.sl (.int .u8)) r0, .d (.int .i64) r1, .d .bool r2]] => some (r0, r1, r2)
 | _, _ => none
def qcM.b (l : List Int) : Option ((List Int) × Int × Bool) :=
 (if (((0 : Int) ≤ ((((List.length l)) : Nat) : Int)) ∧ ((((((List.length l)) : Nat) : Int) ≤ ((((List.length l)) : Nat) : Int)) ∧ (((((((List.length l)) : Nat) : Int) * ((((1 : Nat)) : Nat) : Int)) ≤ (1099511627776 : Int)) ∧ (((((List.length l)) : Nat) : Int) ≤ (1099511627776 : Int))))) then (if ((false = false) ∧ ((List.length l) ≤ (List.length (List.replicate (Int.toNat ((((List.length l)) : Nat) : Int)) (zeroI (Go.Den.Ty.int .u8)))))) then some ((l ++ (List.drop (List.length l) (List.replicate (Int.toNat ((((List.length l)) : Nat) : Int)) (zeroI (Go.Den.Ty.int .u8))))), 0, false) else none) else none)
def qcM.f (qa : Nat) (l : List Int) : Option ((List Int) × Int × Bool) := qcM.b l
theorem qcM.eq (qa : Nat) (l : List Int) : (denF qol loopN qa Tryz.f51 [.fz] [.d (.sl (.int .u8)) l] [] qcM.k) = qcM.f qa l := by
 kernel_rfl
def qok : Env := ⟨th, gam [], fun i => ⟨[], [], []⟩⟩
def qcL.k (rs : List AV) (os : List Den.Obj) : Option ((List Int) × Bool × (List Int) × Int × Bool) :=
 match rs, os with
 | [.d (.sl (.int .u8)) r0, .d .bool r1], [.box [.d (.sl (.int .u8)) r2, .d (.int .i64) r3, .d .bool r4]] => some (r0, r1, r2, r3, r4)
 | _, _ => none
def qcL.b (n : Int) (l : List Int) (a : Int) (bad : Bool) : Option ((List Int) × Bool × (List Int) × Int × Bool) :=
 (if bad then some ([], false, l, a, bad) else (if (decide (n < (0 : Int))) then some ([], false, l, a, true) else (if (decide (n > (IntKind.wrap .i64 (((((List.length l)) : Nat) : Int) - a)))) then some ([], false, l, a, true) else (if (((0 : Int) ≤ a) ∧ ((a ≤ (IntKind.wrap .i64 (a + n))) ∧ ((IntKind.wrap .i64 (a + n)) ≤ ((((List.length l)) : Nat) : Int)))) then some ((List.drop (Int.toNat a) (List.take (Int.toNat (IntKind.wrap .i64 (a + n))) l)), true, l, (IntKind.wrap .i64 (a + n)), bad) else none))))
def qcL.f (qa : Nat) (n : Int) (l : List Int) (a : Int) (bad : Bool) : Option ((List Int) × Bool × (List Int) × Int × Bool) := qcL.b n l a bad
theorem qcL.eq (qa : Nat) (n : Int) (l : List Int) (a : Int) (bad : Bool) : (denF qok loopN qa Tryz.f73 [.dat (.sl (.int .u8)) false, .raw] [.ptr 0 0, .d tQi n] [.box [.d (.sl (.int .u8)) l, .d tQi a, .d .bool bad]] qcL.k) = qcL.f qa n l a bad := by
 kernel_rfl
def qnk : Env := ⟨th, gam [(73, qea)], fun i => if i = 8 then ⟨[7, 24, 25, 26], [], []⟩ else ⟨[], [], []⟩⟩
def ZH.k (rs : List AV) (os : List Den.Obj) : Option (Int × (List Int) × Int × Bool) :=
 match rs, os with
 | [.d (.int .i64) r0], [.box [.d (.sl (.int .u8)) r1, .d (.int .i64) r2, .d .bool r3]] => some (r0, r1, r2, r3)
 | _, _ => none
def ZH.s8 (n : Int) (l : List Int) (a : Int) (bad : Bool) (x0 : Int) (x1 : (List Int)) (x2 x3 x4 : Int) (x5 : Bool) : St := ⟨[dD, dD, dD, dD, dD, dD, dD, .d tQi x0, dD, dD, dD, dD, dD, dD, dD, dD, dD, dD, dD, dD, dD, dD, dD, dD, .d (.sl (.int .u8)) x1, .d tQi x2, .d tQi x3, dD, dD, dD, dD, dD, dD, dD, dD, dD, .dead], ofL [(0, .box [.d (.sl (.int .u8)) (l), .d tQi x4, .d .bool x5])], 1⟩
def ZH.p8 (qa : Nat) (n : Int) (l : List Int) (a : Int) (bad : Bool) (k : Nat) := fun x0 x1 x2 x3 x4 x5 => lp qnk qa Tryz.f52 [.raw] 1 ZH.k 8 [] k (ZH.s8 n l a bad x0 x1 x2 x3 x4 x5)
def ZH.b8 (n : Int) (l : List Int) (a : Int) (bad : Bool) (A8 : Int → (List Int) → Int → Int → Int → Bool → Option (Int × (List Int) × Int × Bool)) (x0 : Int) (x1 : (List Int)) (x2 : Int) (x3 : Int) (x4 : Int) (x5 : Bool) : Option (Int × (List Int) × Int × Bool) :=
 (if (decide (x3 < x2)) then (match (idx x1 x3) with | none => none | some y6 => A8 (bits BinOp.or .i64 (IntKind.wrap .i64 (x0 * ((2 : Int) ^ (Min.min (Int.toNat (8 : Int)) (IntKind.bits .i64))))) (IntKind.wrap .i64 y6)) x1 x2 (IntKind.wrap .i64 (x3 + (1 : Int))) x4 x5) else some (x0, l, x4, x5))
def ZH.l8 (qa : Nat) (n : Int) (l : List Int) (a : Int) (bad : Bool) : Nat → Int → (List Int) → Int → Int → Int → Bool → Option (Int × (List Int) × Int × Bool)
 | 0, _, _, _, _, _, _ => none
 | k + 1, x0, x1, x2, x3, x4, x5 => ZH.b8 n l a bad (ZH.l8 qa n l a bad k) x0 x1 x2 x3 x4 x5
def ZH.b (n : Int) (l : List Int) (a : Int) (bad : Bool) (E8 : Int → (List Int) → Int → Int → Int → Bool → Option (Int × (List Int) × Int × Bool)) : Option (Int × (List Int) × Int × Bool) :=
 (if (decide (n < (1 : Int))) then (if (zt l a) then (if (!(zf l (-(1 : Int)) a bad).2.1) then some ((0 : Int), l, (zf l (-(1 : Int)) a bad).2.2.1, (zf l (-(1 : Int)) a bad).2.2.2) else E8 (0 : Int) (zf l (-(1 : Int)) a bad).1 ((((List.length (zf l (-(1 : Int)) a bad).1)) : Nat) : Int) (0 : Int) (zf l (-(1 : Int)) a bad).2.2.1 (zf l (-(1 : Int)) a bad).2.2.2) else none) else (if (decide (n > (7 : Int))) then (if (zt l a) then (if (!(zf l (-(1 : Int)) a bad).2.1) then some ((0 : Int), l, (zf l (-(1 : Int)) a bad).2.2.1, (zf l (-(1 : Int)) a bad).2.2.2) else E8 (0 : Int) (zf l (-(1 : Int)) a bad).1 ((((List.length (zf l (-(1 : Int)) a bad).1)) : Nat) : Int) (0 : Int) (zf l (-(1 : Int)) a bad).2.2.1 (zf l (-(1 : Int)) a bad).2.2.2) else none) else (if (zt l a) then (if (!(zf l n a bad).2.1) then some ((0 : Int), l, (zf l n a bad).2.2.1, (zf l n a bad).2.2.2) else E8 (0 : Int) (zf l n a bad).1 ((((List.length (zf l n a bad).1)) : Nat) : Int) (0 : Int) (zf l n a bad).2.2.1 (zf l n a bad).2.2.2) else none)))
def ZH.f (qa : Nat) (n : Int) (l : List Int) (a : Int) (bad : Bool) : Option (Int × (List Int) × Int × Bool) := ZH.b n l a bad (ZH.l8 qa n l a bad qa)
theorem ZH.l8_eq (qa : Nat) (n : Int) (l : List Int) (a : Int) (bad : Bool) : ∀ k : Nat, ZH.p8 qa n l a bad k = ZH.l8 qa n l a bad k
 | 0 => by kernel_rfl
 | k + 1 => by
  refine Eq.trans (b := ZH.b8 n l a bad (ZH.p8 qa n l a bad k)) (by kernel_rfl) ?_
  rw [ZH.l8_eq qa n l a bad k]
  kernel_rfl
theorem ZH.eq (qa : Nat) (n : Int) (l : List Int) (a : Int) (bad : Bool) : (denF qnk loopN qa Tryz.f52 [.raw] [.ptr 0 0, .d tQi n] [.box [.d (.sl (.int .u8)) l, .d tQi a, .d .bool bad]] ZH.k) = ZH.f qa n l a bad := by
 refine Eq.trans (b := ZH.b n l a bad (ZH.p8 qa n l a bad qa)) (by kernel_rfl) ?_
 rw [ZH.l8_eq qa n l a bad qa]
 kernel_rfl
def qqA : Env := ⟨th, gam [], fun i => ⟨[], [], []⟩⟩
def qff.k (rs : List AV) (os : List Den.Obj) : Option (Bool × (List Int) × Int × Bool) :=
 match rs, os with
 | [.d .bool r0], [.box [.d (.sl (.int .u8)) r1, .d (.int .i64) r2, .d .bool r3]] => some (r0, r1, r2, r3)
 | _, _ => none
def qff.b (l : List Int) (a : Int) (bad : Bool) : Option (Bool × (List Int) × Int × Bool) :=
 some (bad, l, a, bad)
def qff.f (qa : Nat) (l : List Int) (a : Int) (bad : Bool) : Option (Bool × (List Int) × Int × Bool) := qff.b l a bad
theorem qff.eq (qa : Nat) (l : List Int) (a : Int) (bad : Bool) : (denF qqA loopN qa Tryz.f84 [.raw] [.ptr 0 0] [.box [.d (.sl (.int .u8)) l, .d tQi a, .d .bool bad]] qff.k) = qff.f qa l a bad := by
 kernel_rfl
def qoi : Env := ⟨th, gam [(84, qaP)], fun i => ⟨[], [], []⟩⟩
def qcJ.k (rs : List AV) (os : List Den.Obj) : Option (Int × (List Int) × Int × Bool) :=
 match rs, os with
 | [.d (.int .i64) r0], [.box [.d (.sl (.int .u8)) r1, .d (.int .i64) r2, .d .bool r3]] => some (r0, r1, r2, r3)
 | _, _ => none
def qcJ.b (l : List Int) (a : Int) (bad : Bool) : Option (Int × (List Int) × Int × Bool) :=
 (if bad then some ((0 : Int), l, a, bad) else some ((IntKind.wrap .i64 (((((List.length l)) : Nat) : Int) - a)), l, a, bad))
def qcJ.f (qa : Nat) (l : List Int) (a : Int) (bad : Bool) : Option (Int × (List Int) × Int × Bool) := qcJ.b l a bad
theorem qcJ.eq (qa : Nat) (l : List Int) (a : Int) (bad : Bool) : (denF qoi loopN qa Tryz.f113 [.raw] [.ptr 0 0] [.box [.d (.sl (.int .u8)) l, .d tQi a, .d .bool bad]] qcJ.k) = qcJ.f qa l a bad := by
 kernel_rfl
def qoj : Env := ⟨th, gam [(84, qaP), (113, qed)], fun i => ⟨[], [], []⟩⟩
def qcK.k (rs : List AV) (os : List Den.Obj) : Option (Bool × (List Int) × Int × Bool) :=
 match rs, os with
 | [.d .bool r0], [.box [.d (.sl (.int .u8)) r1, .d (.int .i64) r2, .d .bool r3]] => some (r0, r1, r2, r3)
 | _, _ => none
def qcK.b (l : List Int) (a : Int) (bad : Bool) : Option (Bool × (List Int) × Int × Bool) :=
 (if (!bad) then (if (zt l a) then some (((ZZ l a bad) == (0 : Int)), l, a, bad) else none) else some (false, l, a, bad))
def qcK.f (qa : Nat) (l : List Int) (a : Int) (bad : Bool) : Option (Bool × (List Int) × Int × Bool) := qcK.b l a bad
theorem qcK.eq (qa : Nat) (l : List Int) (a : Int) (bad : Bool) : (denF qoj loopN qa Tryz.f86 [.raw] [.ptr 0 0] [.box [.d (.sl (.int .u8)) l, .d tQi a, .d .bool bad]] qcK.k) = qcK.f qa l a bad := by
 kernel_rfl
def qqB : Env := ⟨th, gam [(52, qec)], fun i => ⟨[], [], []⟩⟩
def qew.k (rs : List AV) (os : List Den.Obj) : Option (Int × Int × Int × Int × Int × Bool × LF × (List Int) × Int × Bool) :=
 match rs, os with
 | [.agg [.d (.int .i64) r0, .d (.int .i64) r1, .d (.int .i64) r2, .d (.int .i64) r3, .d (.int .i64) r4, .d .bool r5, .d (.sl (.pair (.int .i64) (.sl (.int .u8)))) r6]], [.box [.d (.sl (.int .u8)) r7, .d (.int .i64) r8, .d .bool r9]] => some (r0, r1, r2, r3, r4, r5, r6, r7, r8, r9)
 | _, _ => none
def qew.b (l : List Int) (a : Int) (bad : Bool) : Option (Int × Int × Int × Int × Int × Bool × LF × (List Int) × Int × Bool) :=
 (if (zt l a) then (if (zt l (qz l (2 : Int) a bad).2.1) then (if (zt l (qz l (2 : Int) (qz l (2 : Int) a bad).2.1 (qz l (2 : Int) a bad).2.2).2.1) then (if (decide ((qz l (1 : Int) (qz l (2 : Int) (qz l (2 : Int) a bad).2.1 (qz l (2 : Int) a bad).2.2).2.1 (qz l (2 : Int) (qz l (2 : Int) a bad).2.1 (qz l (2 : Int) a bad).2.2).2.2).1 > (127 : Int))) then some ((-(1 : Int)), (qz l (2 : Int) (qz l (2 : Int) a bad).2.1 (qz l (2 : Int) a bad).2.2).1, (bits BinOp.and .i64 (qz l (1 : Int) (qz l (2 : Int) (qz l (2 : Int) a bad).2.1 (qz l (2 : Int) a bad).2.2).2.1 (qz l (2 : Int) (qz l (2 : Int) a bad).2.1 (qz l (2 : Int) a bad).2.2).2.2).1 (3 : Int)), (bits BinOp.and .i64 (Int.fdiv (qz l (1 : Int) (qz l (2 : Int) (qz l (2 : Int) a bad).2.1 (qz l (2 : Int) a bad).2.2).2.1 (qz l (2 : Int) (qz l (2 : Int) a bad).2.1 (qz l (2 : Int) a bad).2.2).2.2).1 ((2 : Int) ^ (Min.min (Int.toNat (2 : Int)) (IntKind.bits .i64)))) (3 : Int)), (bits BinOp.and .i64 (Int.fdiv (qz l (1 : Int) (qz l (2 : Int) (qz l (2 : Int) a bad).2.1 (qz l (2 : Int) a bad).2.2).2.1 (qz l (2 : Int) (qz l (2 : Int) a bad).2.1 (qz l (2 : Int) a bad).2.2).2.2).1 ((2 : Int) ^ (Min.min (Int.toNat (4 : Int)) (IntKind.bits .i64)))) (3 : Int)), ((bits BinOp.and .i64 (qz l (1 : Int) (qz l (2 : Int) (qz l (2 : Int) a bad).2.1 (qz l (2 : Int) a bad).2.2).2.1 (qz l (2 : Int) (qz l (2 : Int) a bad).2.1 (qz l (2 : Int) a bad).2.2).2.2).1 (64 : Int)) != (0 : Int)), [], l, (qz l (1 : Int) (qz l (2 : Int) (qz l (2 : Int) a bad).2.1 (qz l (2 : Int) a bad).2.2).2.1 (qz l (2 : Int) (qz l (2 : Int) a bad).2.1 (qz l (2 : Int) a bad).2.2).2.2).2.1, (qz l (1 : Int) (qz l (2 : Int) (qz l (2 : Int) a bad).2.1 (qz l (2 : Int) a bad).2.2).2.1 (qz l (2 : Int) (qz l (2 : Int) a bad).2.1 (qz l (2 : Int) a bad).2.2).2.2).2.2) else some ((qz l (2 : Int) a bad).1, (qz l (2 : Int) (qz l (2 : Int) a bad).2.1 (qz l (2 : Int) a bad).2.2).1, (bits BinOp.and .i64 (qz l (1 : Int) (qz l (2 : Int) (qz l (2 : Int) a bad).2.1 (qz l (2 : Int) a bad).2.2).2.1 (qz l (2 : Int) (qz l (2 : Int) a bad).2.1 (qz l (2 : Int) a bad).2.2).2.2).1 (3 : Int)), (bits BinOp.and .i64 (Int.fdiv (qz l (1 : Int) (qz l (2 : Int) (qz l (2 : Int) a bad).2.1 (qz l (2 : Int) a bad).2.2).2.1 (qz l (2 : Int) (qz l (2 : Int) a bad).2.1 (qz l (2 : Int) a bad).2.2).2.2).1 ((2 : Int) ^ (Min.min (Int.toNat (2 : Int)) (IntKind.bits .i64)))) (3 : Int)), (bits BinOp.and .i64 (Int.fdiv (qz l (1 : Int) (qz l (2 : Int) (qz l (2 : Int) a bad).2.1 (qz l (2 : Int) a bad).2.2).2.1 (qz l (2 : Int) (qz l (2 : Int) a bad).2.1 (qz l (2 : Int) a bad).2.2).2.2).1 ((2 : Int) ^ (Min.min (Int.toNat (4 : Int)) (IntKind.bits .i64)))) (3 : Int)), ((bits BinOp.and .i64 (qz l (1 : Int) (qz l (2 : Int) (qz l (2 : Int) a bad).2.1 (qz l (2 : Int) a bad).2.2).2.1 (qz l (2 : Int) (qz l (2 : Int) a bad).2.1 (qz l (2 : Int) a bad).2.2).2.2).1 (64 : Int)) != (0 : Int)), [], l, (qz l (1 : Int) (qz l (2 : Int) (qz l (2 : Int) a bad).2.1 (qz l (2 : Int) a bad).2.2).2.1 (qz l (2 : Int) (qz l (2 : Int) a bad).2.1 (qz l (2 : Int) a bad).2.2).2.2).2.1, (qz l (1 : Int) (qz l (2 : Int) (qz l (2 : Int) a bad).2.1 (qz l (2 : Int) a bad).2.2).2.1 (qz l (2 : Int) (qz l (2 : Int) a bad).2.1 (qz l (2 : Int) a bad).2.2).2.2).2.2)) else none) else none) else none)
def qew.f (qa : Nat) (l : List Int) (a : Int) (bad : Bool) : Option (Int × Int × Int × Int × Int × Bool × LF × (List Int) × Int × Bool) := qew.b l a bad
theorem qew.eq (qa : Nat) (l : List Int) (a : Int) (bad : Bool) : (denF qqB loopN qa Tryz.f85 [.dat tQr true] [.fn (.func 52) [.ptr 0 0] []] [.box [.d (.sl (.int .u8)) l, .d tQi a, .d .bool bad]] qew.k) = qew.f qa l a bad := by
 kernel_rfl
theorem QC.pure : QC.f 9 () = some Qw := by kernel_rfl
theorem SOf.flat (c : Int) : SOf.f 9 c = (if (Qr 1 1 == c) = true then some (1, 1, true) else if (Qr 1 2 == c) = true then some (1, 2, true) else if (Qr 1 3 == c) = true then some (1, 3, true) else
 if (Qr 2 2 == c) = true then some (2, 2, true) else if (Qr 2 3 == c) = true then some (2, 3, true) else if (Qr 3 3 == c) = true then some (3, 3, true) else some (0, 0, false)) := by kernel_rfl
theorem SOf.pure (c : Int) : SOf.f 9 c = some ((zW Qw c).1, (zW Qw c).2.1, (zW Qw c).2.2) := by
 rw [SOf.flat]
 unfold Qw zW zW zW zW zW zW zW
 repeat' split
 all_goals rfl
theorem QY (l : List Int) : inB l = true ↔ l.length < 1099511600000 ∧ ∀ c ∈ l, 0 ≤ c ∧ c ≤ 255 := by
 unfold inB
 rw [Bool.and_eq_true, qbR]
 simp [List.all_eq_true]
theorem zN (l : List Int) (a : Int) : zt l a = true ↔ inB l = true ∧ 0 ≤ a ∧ a ≤ (l.length : Int) := by
 unfold zt
 simp only [Bool.and_eq_true, decide_eq_true_eq]
theorem qcM.pure (l : List Int) (hl : inB l = true) : qcM.f 0 l = some (l, 0, false) := by
 have hr' := ((QY l).1 hl).1
 unfold qcM.f qcM.b
 rw [if_pos (by refine ⟨by omega, by omega, by omega, by omega⟩), if_pos (by simp)]
 simp
theorem qcL.pure (n : Int) (l : List Int) (a : Int) (bad : Bool) (hl : zt l a = true) : qcL.f 0 n l a bad = some ((zf l n a bad).1, (zf l n a bad).2.1, l, (zf l n a bad).2.2.1, (zf l n a bad).2.2.2) := by
 obtain ⟨h1, h2, h3⟩ := (zN l a).1 hl
 have h4 := ((QY l).1 h1).1
 unfold qcL.f qcL.b zf
 cases bad
 ·simp only [Bool.false_eq_true, if_false]
  by_cases c1 : n < 0
  ·simp [c1]
  ·rw [qX ((l.length : Int) - a) (by omega) (by omega)]
   by_cases c2 : n > (l.length : Int) - a
   ·simp [c1, c2]
   ·rw [qX (a + n) (by omega) (by omega)]
    rw [if_neg (by simpa using c1), if_neg (by simpa using c2), if_pos ⟨h2, by omega, by omega⟩, if_neg (by simp [c1]; omega)]
    rfl
 ·rfl
theorem qff.pure (l : List Int) (a : Int) (bad : Bool) : qff.f 0 l a bad = some (bad, l, a, bad) := rfl
theorem qcJ.pure (l : List Int) (a : Int) (bad : Bool) (hl : zt l a = true) : qcJ.f 0 l a bad = some (ZZ l a bad, l, a, bad) := by
 obtain ⟨h1, h2, h3⟩ := (zN l a).1 hl
 have h4 := ((QY l).1 h1).1
 unfold qcJ.f qcJ.b ZZ
 rw [qX _ (by omega) (by omega)]
 cases bad <;> rfl
theorem qcK.pure (l : List Int) (a : Int) (bad : Bool) (hl : zt l a = true) : qcK.f 0 l a bad = some (!bad && (ZZ l a bad == 0), l, a, bad) := by
 unfold qcK.f qcK.b
 rw [hl]
 cases bad <;> rfl
theorem or8 (x c : Int) (h0 : 0 ≤ x) (h1 : x < 281474976710656) (c0 : 0 ≤ c) (c1 : c ≤ 255) : bits BinOp.or .i64 (IntKind.wrap .i64 (x * ((2 : Int) ^ (Min.min (Int.toNat (8 : Int)) (IntKind.bits .i64))))) (IntKind.wrap .i64 c) = x * 256 + c := by
 have hp : ((2 : Int) ^ (Min.min (Int.toNat (8 : Int)) (IntKind.bits .i64))) = 256 := rfl
 rw [hp, qX (x * 256) (by omega) (by omega), qX c (by omega) (by omega)]
 obtain ⟨X, rfl⟩ := Int.eq_ofNat_of_zero_le h0
 obtain ⟨C, rfl⟩ := Int.eq_ofNat_of_zero_le c0
 unfold bits
 dsimp only
 have e1 : ((X : Int) * 256) = ((X * 256 : Nat) : Int) := by omega
 rw [e1]
 have b64 : IntKind.bits .i64 = 64 := rfl
 have t1 : (BitVec.ofInt (IntKind.bits .i64) ((X * 256 : Nat) : Int)).toNat = X * 256 := by
  rw [b64, BitVec.ofInt_natCast, BitVec.toNat_ofNat, Nat.mod_eq_of_lt (by omega)]
 have t2 : (BitVec.ofInt (IntKind.bits .i64) (C : Int)).toNat = C := by
  rw [b64, BitVec.ofInt_natCast, BitVec.toNat_ofNat, Nat.mod_eq_of_lt (by omega)]
 rw [BitVec.toNat_or, t1, t2]
 have t3 : X * 256 ||| C = X * 256 + C := by
  have := Nat.shiftLeft_add_eq_or_of_lt (a := X) (b := C) (i := 8) (by omega)
  rw [Nat.shiftLeft_eq] at this
  exact this.symm
 rw [t3, qX _ (by omega) (by omega)]
 omega
theorem ZH.loop (qa : Nat) (n : Int) (l : List Int) (a0 : Int) (bad0 : Bool) (p : List Int) (hp : p.length ≤ 7) (hb : ∀ c ∈ p, 0 ≤ c ∧ c ≤ 255) (a : Int) (bad : Bool) : ∀ (k i : Nat) (v : Int), i ≤ p.length → p.length - i < k → 0 ≤ v → v < 256 ^ i →
  ZH.l8 qa n l a0 bad0 k v p (p.length : Int) (i : Int) a bad = some ((p.drop i).foldl (fun v c => v * 256 + c) v, l, a, bad) := by
 intro k
 induction k with
 | zero => intro i v h1 h2; omega
 | succ k ih =>
  intro i v h1 h2 h3 h4
  rw [ZH.l8]
  unfold ZH.b8
  by_cases hi : i < p.length
  ·rw [if_pos (by simp; omega), Qn, List.getElem?_eq_getElem hi]
   dsimp only
   obtain ⟨b1, b2⟩ := hb p[i] (List.getElem_mem hi)
   have hv : v < 281474976710656 := by
    have : i = 0 ∨ i = 1 ∨ i = 2 ∨ i = 3 ∨ i = 4 ∨ i = 5 ∨ i = 6 := by omega
    rcases this with rfl | rfl | rfl | rfl | rfl | rfl | rfl <;> simp at h4 <;> omega
   rw [or8 v _ h3 hv b1 b2, qX _ (by omega) (by omega), List.drop_eq_getElem_cons hi]
   rw [show ((i : Int) + 1) = ((i + 1 : Nat) : Int) from by omega]
   exact ih (i + 1) _ (by omega) (by omega) (by omega) (by rw [Int.pow_succ]; generalize (256 : Int) ^ i = M at h4 ⊢; omega)
  ·rw [if_neg (by simp; omega), List.drop_of_length_le (by omega)]
   rfl
theorem qfm (l : List Int) (a n : Int) (h2 : 0 ≤ a) (h0 : 0 ≤ n) (h3 : n ≤ (l.length : Int) - a) : (seg l a n).length = n.toNat := by
 unfold seg
 simp
 omega
theorem qli {l : List Int} {a n c : Int} (h : c ∈ seg l a n) : c ∈ l := List.mem_of_mem_take (List.mem_of_mem_drop h)
theorem qh8 (l : List Int) (a : Int) (bad : Bool) : zf l (-1) a bad = ([], false, a, true) := by
 unfold zf
 cases bad
 ·simp
 ·rfl
theorem ZH.pure (n : Int) (l : List Int) (a : Int) (bad : Bool) (hl : zt l a = true) : ZH.f 9 n l a bad = some ((qz l n a bad).1, l, (qz l n a bad).2.1, (qz l n a bad).2.2) := by
 obtain ⟨h1, h2, h3⟩ := (zN l a).1 hl
 obtain ⟨h4, h5⟩ := (QY l).1 h1
 unfold ZH.f ZH.b qz
 rw [hl, qh8]
 by_cases c1 : n < 1
 ·simp [c1, qh8]
 ·by_cases c2 : n > 7
  ·simp [c1, c2, qh8]
  ·simp only [c1, c2, decide_false, Bool.or_self, Bool.false_eq_true, if_false, if_true]
   cases hs : (zf l n a bad).2.1
   ·simp
   ·simp only [Bool.not_true, Bool.false_eq_true, if_false, if_true]
    have hp : (zf l n a bad).1 = seg l a n ∧ n ≤ (l.length : Int) - a := by
     unfold zf at hs ⊢
     split at hs
     ·cases hs
     ·split at hs
      ·cases hs
      ·rename_i k1 k2
       rw [if_neg k1, if_neg k2]
       simp only [Bool.or_eq_true, decide_eq_true_eq, not_or] at k2
       exact ⟨rfl, by omega⟩
    rw [hp.1]
    have := ZH.loop 9 n l a bad (seg l a n) (by rw [qfm l a n h2 (by omega) hp.2]; omega) (fun c hc => h5 c (qli hc)) (zf l n a bad).2.2.1 (zf l n a bad).2.2.2 9 0 0 (by omega) (by rw [qfm l a n h2 (by omega) hp.2]; omega) (by omega) (by simp)
    exact this
theorem QE (l : List Int) (n a : Int) (bad : Bool) (hl : zt l a = true) : zt l (qz l n a bad).2.1 = true := by
 obtain ⟨h1, h2, h3⟩ := (zN l a).1 hl
 refine (zN _ _).2 ⟨h1, ?_⟩
 have key : ∀ m, 0 ≤ (zf l m a bad).2.2.1 ∧ (zf l m a bad).2.2.1 ≤ (l.length : Int) := by
  intro m
  unfold zf
  cases bad
  ·rw [if_neg (by simp)]
   split
   ·exact ⟨h2, h3⟩
   ·rename_i k2
    simp only [Bool.or_eq_true, decide_eq_true_eq, not_or] at k2
    dsimp only
    omega
  ·exact ⟨h2, h3⟩
 exact key _
theorem qfp (l : List Int) (a : Int) (bad : Bool) (hl : zt l a = true) : 0 ≤ (qz l 1 a bad).1 ∧ (qz l 1 a bad).1 ≤ 255 := by
 obtain ⟨h1, h2, h3⟩ := (zN l a).1 hl
 obtain ⟨h4, h5⟩ := (QY l).1 h1
 unfold qz
 have hn : (if (decide ((1 : Int) < 1) || decide ((1 : Int) > 7)) = true then (-1 : Int) else 1) = 1 := by decide
 dsimp only
 rw [hn]
 split
 ·rename_i hs
  unfold zf at hs ⊢
  split at hs
  ·cases hs
  ·split at hs
   ·cases hs
   ·rename_i k1 k2
    rw [if_neg k1, if_neg k2]
    simp only [Bool.or_eq_true, decide_eq_true_eq, not_or] at k2
    have hlen := qfm l a 1 h2 (by omega) (by omega)
    have : ∃ c, seg l a 1 = [c] := by
     match hh : seg l a 1, hlen with
     | [c], _ => exact ⟨c, rfl⟩
    obtain ⟨c, hc⟩ := this
    have := h5 c (qli (a := a) (n := 1) (by rw [hc]; simp))
    dsimp only
    rw [hc]
    simp [Q6]
    omega
 ·omega
def qob : Bool := (List.range 256).all fun v => bits BinOp.and .i64 (v : Int) 3 == (v : Int) % 4 && bits BinOp.and .i64 (Int.fdiv (v : Int) 4) 3 == (v : Int) / 4 % 4 && bits BinOp.and .i64 (Int.fdiv (v : Int) 16) 3 == (v : Int) / 16 % 4 && ((bits BinOp.and .i64 (v : Int) 64 != 0) == ((v : Int) / 64 % 2 == 1))
theorem qrp : qob = true := by kernel_rfl
theorem qr3 (v : Int) (h0 : 0 ≤ v) (h1 : v ≤ 255) : bits BinOp.and .i64 v 3 = v % 4 ∧ bits BinOp.and .i64 (Int.fdiv v 4) 3 = v / 4 % 4 ∧ bits BinOp.and .i64 (Int.fdiv v 16) 3 = v / 16 % 4 ∧ (bits BinOp.and .i64 v 64 != 0) = (v / 64 % 2 == 1) := by
 have := qrp
 unfold qob at this
 have h := List.all_eq_true.1 this v.toNat (List.mem_range.2 (by omega))
 rw [Int.toNat_of_nonneg h0] at h
 simp only [Bool.and_eq_true, beq_iff_eq] at h
 exact ⟨h.1.1.1, h.1.1.2, h.1.2, h.2⟩
theorem qew.pure (l : List Int) (a : Int) (bad : Bool) (hl : zt l a = true) : qew.f 0 l a bad = some ((QX l a bad).1.1, (QX l a bad).1.2.1, (QX l a bad).1.2.2.1, (QX l a bad).1.2.2.2.1.1, (QX l a bad).1.2.2.2.1.2, (QX l a bad).1.2.2.2.2.1, [], l, (QX l a bad).2.1, (QX l a bad).2.2) := by
 unfold qew.f qew.b QX
 have h2 := QE l 2 a bad hl
 have h3 := QE l 2 _ (qz l 2 a bad).2.2 h2
 have hb := qfp l _ (qz l 2 (qz l 2 a bad).2.1 (qz l 2 a bad).2.2).2.2 h3
 rw [if_pos hl, if_pos h2, if_pos h3]
 obtain ⟨e1, e2, e3, e4⟩ := qr3 _ hb.1 hb.2
 have p1 : ((2 : Int) ^ (Min.min (Int.toNat (2 : Int)) (IntKind.bits .i64))) = 4 := rfl
 have p2 : ((2 : Int) ^ (Min.min (Int.toNat (4 : Int)) (IntKind.bits .i64))) = 16 := rfl
 rw [p1, p2, e1, e2, e3, e4]
 dsimp only
 split <;> rfl
theorem qpV : SumDet qhh := zj fun _ _ _ _ => by
 unfold qhh
 simp only
 split
 ·first | rfl | (split <;> rfl)
 ·rfl
theorem qqS : SumOk Tryz.prog 112 qhh := by
 have hE : EnvOk Tryz.prog qk9 := env_ok (l := []) th_ok qZ trivial _
 refine sum_ok hE Tryz.func112 rfl (by kernel_rfl) qhh [.own 23 (.pair tQi tQi)] QC.k ?_
 intro R avs qn κ r h
 unfold qhh at h
 simp only at h
 split at h
 ·skip
  refine ⟨9, _, _, _, (QC.eq (9) ()).trans (QC.pure), ?_, h⟩
  intro rs ros hk
  unfold QC.k at hk
  split at hk
  ·first | (cases hk; exact ⟨rfl, rfl⟩) | (rw [← Option.some.inj hk]; exact ⟨rfl, rfl⟩)
  ·cases hk
 ·cases h
theorem qmP : SumOk Tryz.prog 83 qoH := by
 have hE : EnvOk Tryz.prog qpu := env_ok (l := [(112, qhh), (80, qaT)]) th_ok qZ ⟨⟨qqS, qpV⟩, ⟨qdU, qdg⟩, trivial⟩ _
 refine sum_ok hE Tryz.func83 rfl (by kernel_rfl) qoH [.dat (.pair tQi tQi) true, .raw] SOf.k ?_
 intro R avs qn κ r h
 unfold qoH at h
 simp only at h
 split at h
 ·rename_i c
  refine ⟨9, _, _, _, (SOf.eq (9) c).trans (SOf.pure c), ?_, h⟩
  intro rs ros hk
  unfold SOf.k at hk
  split at hk
  ·first | (cases hk; exact ⟨rfl, rfl⟩) | (rw [← Option.some.inj hk]; exact ⟨rfl, rfl⟩)
  ·cases hk
 ·cases h
theorem qdb : SumDet qaS := zj fun _ _ _ _ => by
 unfold qaS
 simp only
 split
 ·first | rfl | (split <;> rfl)
 ·rfl
theorem qdR : SumOk Tryz.prog 51 qaS := by
 have hE : EnvOk Tryz.prog qol := env_ok (l := []) th_ok qZ trivial _
 refine sum_ok hE Tryz.func51 rfl (by kernel_rfl) qaS [.fz] qcM.k ?_
 intro R avs qn κ r h
 unfold qaS at h
 simp only at h
 split at h
 ·rename_i l
  split at h
  case isFalse => cases h
  rename_i hl
  refine ⟨0, _, _, _, (qcM.eq (0) l).trans (qcM.pure l hl), ?_, h⟩
  intro rs ros hk
  unfold qcM.k at hk
  split at hk
  ·first | (cases hk; exact ⟨rfl, rfl⟩) | (rw [← Option.some.inj hk]; exact ⟨rfl, rfl⟩)
  ·cases hk
 ·cases h
theorem qki : SumDet qea := zj fun _ _ _ _ => by
 unfold qea
 simp only
 split
 ·first | rfl | (split <;> rfl)
 ·rfl
theorem qlZ : SumOk Tryz.prog 73 qea := by
 have hE : EnvOk Tryz.prog qok := env_ok (l := []) th_ok qZ trivial _
 refine sum_ok hE Tryz.func73 rfl (by kernel_rfl) qea [.dat (.sl (.int .u8)) false, .raw] qcL.k ?_
 intro R avs qn κ r h
 unfold qea at h
 simp only at h
 split at h
 ·rename_i n l a bad
  split at h
  case isFalse => cases h
  rename_i hl
  refine ⟨0, _, _, _, (qcL.eq (0) n l a bad).trans (qcL.pure n l a bad hl), ?_, h⟩
  intro rs ros hk
  unfold qcL.k at hk
  split at hk
  ·first | (cases hk; exact ⟨rfl, rfl⟩) | (rw [← Option.some.inj hk]; exact ⟨rfl, rfl⟩)
  ·cases hk
 ·cases h
theorem qkl : SumDet qec := zj fun _ _ _ _ => by
 unfold qec
 simp only
 split
 ·first | rfl | (split <;> rfl)
 ·rfl
theorem qf3 : SumOk Tryz.prog 52 qec := by
 have hE : EnvOk Tryz.prog qnk := env_ok (l := [(73, qea)]) th_ok qZ ⟨⟨qlZ, qki⟩, trivial⟩ _
 refine sum_ok hE Tryz.func52 rfl (by kernel_rfl) qec [.raw] ZH.k ?_
 intro R avs qn κ r h
 unfold qec at h
 simp only at h
 split at h
 ·rename_i n l a bad
  split at h
  case isFalse => cases h
  rename_i hl
  refine ⟨9, _, _, _, (ZH.eq (9) n l a bad).trans (ZH.pure n l a bad hl), ?_, h⟩
  intro rs ros hk
  unfold ZH.k at hk
  split at hk
  ·first | (cases hk; exact ⟨rfl, rfl⟩) | (rw [← Option.some.inj hk]; exact ⟨rfl, rfl⟩)
  ·cases hk
 ·cases h
theorem qcj : SumDet qaP := zj fun _ _ _ _ => by
 unfold qaP
 simp only
 split
 ·first | rfl | (split <;> rfl)
 ·rfl
theorem qcZ : SumOk Tryz.prog 84 qaP := by
 have hE : EnvOk Tryz.prog qqA := env_ok (l := []) th_ok qZ trivial _
 refine sum_ok hE Tryz.func84 rfl (by kernel_rfl) qaP [.raw] qff.k ?_
 intro R avs qn κ r h
 unfold qaP at h
 simp only at h
 split at h
 ·rename_i l a bad
  refine ⟨0, _, _, _, (qff.eq (0) l a bad).trans (qff.pure l a bad), ?_, h⟩
  intro rs ros hk
  unfold qff.k at hk
  split at hk
  ·first | (cases hk; exact ⟨rfl, rfl⟩) | (rw [← Option.some.inj hk]; exact ⟨rfl, rfl⟩)
  ·cases hk
 ·cases h
theorem qkp : SumDet qed := zj fun _ _ _ _ => by
 unfold qed
 simp only
 split
 ·first | rfl | (split <;> rfl)
 ·rfl
theorem ql1 : SumOk Tryz.prog 113 qed := by
 have hE : EnvOk Tryz.prog qoi := env_ok (l := [(84, qaP)]) th_ok qZ ⟨⟨qcZ, qcj⟩, trivial⟩ _
 refine sum_ok hE Tryz.func113 rfl (by kernel_rfl) qed [.raw] qcJ.k ?_
 intro R avs qn κ r h
 unfold qed at h
 simp only at h
 split at h
 ·rename_i l a bad
  split at h
  case isFalse => cases h
  rename_i hl
  refine ⟨0, _, _, _, (qcJ.eq (0) l a bad).trans (qcJ.pure l a bad hl), ?_, h⟩
  intro rs ros hk
  unfold qcJ.k at hk
  split at hk
  ·first | (cases hk; exact ⟨rfl, rfl⟩) | (rw [← Option.some.inj hk]; exact ⟨rfl, rfl⟩)
  ·cases hk
 ·cases h
theorem qhf : SumDet qcX := zj fun _ _ _ _ => by
 unfold qcX
 simp only
 split
 ·first | rfl | (split <;> rfl)
 ·rfl
theorem qih : SumOk Tryz.prog 86 qcX := by
 have hE : EnvOk Tryz.prog qoj := env_ok (l := [(84, qaP), (113, qed)]) th_ok qZ ⟨⟨qcZ, qcj⟩, ⟨ql1, qkp⟩, trivial⟩ _
 refine sum_ok hE Tryz.func86 rfl (by kernel_rfl) qcX [.raw] qcK.k ?_
 intro R avs qn κ r h
 unfold qcX at h
 simp only at h
 split at h
 ·rename_i l a bad
  split at h
  case isFalse => cases h
  rename_i hl
  refine ⟨0, _, _, _, (qcK.eq (0) l a bad).trans (qcK.pure l a bad hl), ?_, h⟩
  intro rs ros hk
  unfold qcK.k at hk
  split at hk
  ·first | (cases hk; exact ⟨rfl, rfl⟩) | (rw [← Option.some.inj hk]; exact ⟨rfl, rfl⟩)
  ·cases hk
 ·cases h
theorem qmR : SumOk Tryz.prog 85 qoO := by
 have hE : EnvOk Tryz.prog qqB := env_ok (l := [(52, qec)]) th_ok qZ ⟨⟨qf3, qkl⟩, trivial⟩ _
 refine sum_ok hE Tryz.func85 rfl (by kernel_rfl) qoO [.dat tQr true] qew.k ?_
 intro R avs qn κ r h
 unfold qoO at h
 simp only at h
 split at h
 ·rename_i l a bad
  split at h
  case isFalse => cases h
  rename_i hl
  refine ⟨0, _, _, _, (qew.eq (0) l a bad).trans (qew.pure l a bad hl), ?_, h⟩
  intro rs ros hk
  unfold qew.k at hk
  split at hk
  ·first | (cases hk; exact ⟨rfl, rfl⟩) | (rw [← Option.some.inj hk]; exact ⟨rfl, rfl⟩)
  ·cases hk
 ·cases h
def Zg : Den.Sum := ⟨[.raw, .raw], fun qK qn κ => match qK, qn with
 | [.ptr 0 0, .d (.int .i64) n], [.box [.d (.sl (.int .u8)) l, .d (.int .i64) a, .d .bool bad]] => if zt l a = true then (match veil (some (qz l n a bad)) with | none => none | some y => κ [.d (.int .i64) y.1] [.box [.d (.sl (.int .u8)) l, .d (.int .i64) y.2.1, .d .bool y.2.2]]) else none
 | _, _ => none⟩
def qgL : Den.Sum := ⟨[.raw], fun qK qn κ => match qK, qn with
 | [.fn (.func 52) [.ptr 0 0] []], [.box [.d (.sl (.int .u8)) l, .d (.int .i64) a, .d .bool bad]] => if zt l a = true then (match veil (some (QX l a bad)) with | none => none | some y => κ [.agg [.d (.int .i64) y.1.1, .d (.int .i64) y.1.2.1, .d (.int .i64) y.1.2.2.1, .d (.int .i64) y.1.2.2.2.1.1, .d (.int .i64) y.1.2.2.2.1.2, .d .bool y.1.2.2.2.2.1, .d (.sl (.pair (.int .i64) (.sl (.int .u8)))) []]] [.box [.d (.sl (.int .u8)) l, .d (.int .i64) y.2.1, .d .bool y.2.2]]) else none
 | _, _ => none⟩
def qdv : Den.Sum := ⟨[.raw], fun qK qn κ => match qK, qn with
 | [.d (.int .i64) c], [] => match veil (some (zW Qw c)) with | none => none | some y => κ [.agg [.d (.int .i64) y.1, .d (.int .i64) y.2.1], .d .bool y.2.2] []
 | _, _ => none⟩
theorem qaL : SumDet Zg := zj fun _ _ _ _ => by
 unfold Zg
 simp only [veil_eq]
 split
 ·first | rfl | (split <;> rfl)
 ·rfl
theorem qbd : SumOk Tryz.prog 52 Zg := ⟨qf3.1, fun avs qn κ r hr => qf3.2 avs qn κ r (by
 unfold Zg at hr
 simp only [veil_eq] at hr
 split at hr
 ·exact hr
 ·cases hr)⟩
theorem qoN : SumDet qgL := zj fun _ _ _ _ => by
 unfold qgL
 simp only [veil_eq]
 split
 ·first | rfl | (split <;> rfl)
 ·rfl
theorem qpN : SumOk Tryz.prog 85 qgL := ⟨qmR.1, fun avs qn κ r hr => qmR.2 avs qn κ r (by
 unfold qgL at hr
 simp only [veil_eq] at hr
 split at hr
 ·exact hr
 ·cases hr)⟩
theorem qha : SumDet qdv := zj fun _ _ _ _ => by
 unfold qdv
 simp only [veil_eq]
 split
 ·first | rfl | (split <;> rfl)
 ·rfl
theorem qif : SumOk Tryz.prog 83 qdv := ⟨qmP.1, fun avs qn κ r hr => qmP.2 avs qn κ r (by
 unfold qdv at hr
 simp only [veil_eq] at hr
 split at hr
 ·exact hr
 ·cases hr)⟩
def qiK : Env := ⟨th, gam [(51, qaS), (83, qdv), (85, qgL), (77, qdf), (52, Zg), (84, qaP), (86, qcX)], fun i => if i = 13 then ⟨[2, 4, 5, 6, 8, 9, 10], [(1394, 54, tQr)], []⟩ else ⟨[], [], []⟩⟩
def Qh.k (rs : List AV) (os : List Den.Obj) : Option (Int × Int × Int × Int × Int × Int × Int × Int × Int × Int × LR × Int) :=
 match rs, os with
 | [.agg [.d (.int .i64) r0, .d (.int .i64) r1, .d (.int .i64) r2, .d (.int .i64) r3, .d (.int .i64) r4, .d (.int .i64) r5, .d (.int .i64) r6, .d (.int .i64) r7, .d (.int .i64) r8, .d (.int .i64) r9, .d (.sl (.pair (.int .i64) (.pair (.int .i64) (.pair (.int .i64) (.pair (.pair (.int .i64) (.int .i64)) (.pair .bool (.sl (.pair (.int .i64) (.sl (.int .u8)))))))))) r10], .d (.int .i64) r11], [] => some (r0, r1, r2, r3, r4, r5, r6, r7, r8, r9, r10, r11)
 | _, _ => none
def Qh.s13 (l : List Int) (x8 : Bool) (x9 x10 x11 : Int) (x12 : Bool) (x13 x14 x15 x16 x17 x18 x19 : Int) (x20 : LR) : St := ⟨[.dead, .dead, .ptr 64 0, .dead, .ptr 65 0, .fn (.func 52) [.ptr 65 0] [], .ptr 66 0, .dead, .d .bool x8, .d tQi x9, .d tQi x10, dD, dD, dD, dD, dD, dD, dD, dD, dD, dD, dD, dD, dD, dD, dD, dD, dD, dD, dD, dD, dD, dD, dD, dD, dD, dD, dD, dD, dD, dD, dD, dD, dD, dD, dD, dD, dD, dD, dD, dD, dD, dD, dD, dD, dD, dD, dD, dD, dD, dD, dD, dD, dD, dD, dD, dD, dD, dD, dD, .dead], ofL [(64, .box [.d tQi (0), .d tQi (0), .d tQi (0), .d tQi (0), .d tQi (0), .d tQi (0), .d tQi (0), .d tQi (0), .d tQi (0), .d tQi (0), .nilsl]), (65, .box [.d (.sl (.int .u8)) (l), .d tQi x11, .d .bool x12]), (66, .box [.d tQi x13, .d tQi x14, .d tQi x15, .d tQi x16, .d tQi x17, .d tQi x18, .d tQi x19, .d tQi (0), .d tQi (0), .d tQi (0), .row 67]), (67, .row 54 tQr x20 false)], 0⟩
def Qh.p13 (qa : Nat) (l : List Int) (k : Nat) := fun x8 x9 x10 x11 x12 x13 x14 x15 x16 x17 x18 x19 x20 => lp qiK qa Tryz.f59 [.dat (.pair tQi (.pair tQi (.pair tQi (.pair (.pair tQi tQi) (.pair tQi (.pair tQi (.pair tQi (.pair tQi (.pair tQi (.sl tQr)))))))))) true, .raw] 0 Qh.k 13 [] k (Qh.s13 l x8 x9 x10 x11 x12 x13 x14 x15 x16 x17 x18 x19 x20)
def Qh.b13 (l : List Int) (A13 : Bool → Int → Int → Int → Bool → Int → Int → Int → Int → Int → Int → Int → LR → Option (Int × Int × Int × Int × Int × Int × Int × Int × Int × Int × LR × Int)) (x8 : Bool) (x9 : Int) (x10 : Int) (x11 : Int) (x12 : Bool) (x13 : Int) (x14 : Int) (x15 : Int) (x16 : Int) (x17 : Int) (x18 : Int) (x19 : Int) (x20 : LR) : Option (Int × Int × Int × Int × Int × Int × Int × Int × Int × Int × LR × Int) :=
 (if (decide (x10 < x9)) then (if (!x12) then (if (zt l x11) then (match (veil (Option.some (QX l x11 x12))) with | none => none | some y21 => (if ((((List.length x20) + (List.length ((y21.1.1, (y21.1.2.1, (y21.1.2.2.1, ((y21.1.2.2.2.1.1, y21.1.2.2.2.1.2), (y21.1.2.2.2.2.1, ([] : LF)))))) :: ([] : LR)))) * (72 : Nat)) ≤ lim) then A13 x8 x9 (IntKind.wrap .i64 (x10 + (1 : Int))) y21.2.1 y21.2.2 x13 x14 x15 x16 x17 x18 x19 (x20 ++ ((y21.1.1, (y21.1.2.1, (y21.1.2.2.1, ((y21.1.2.2.2.1.1, y21.1.2.2.2.1.2), (y21.1.2.2.2.2.1, ([] : LF)))))) :: ([] : LR))) else none)) else none) else (if (!x8) then some (0, 0, 0, 0, 0, 0, 0, 0, 0, 0, ([] : LR), (4 : Int)) else (if (zt l x11) then (if (!((!x12) && ((ZZ l x11 x12) == (0 : Int)))) then some (0, 0, 0, 0, 0, 0, 0, 0, 0, 0, ([] : LR), (4 : Int)) else (if (q9 x20) then (if (!(qbi x13 x14 x15 x16 x17 x18 x19 0 0 0 x20)) then some (0, 0, 0, 0, 0, 0, 0, 0, 0, 0, ([] : LR), (4 : Int)) else some (x13, x14, x15, x16, x17, x18, x19, 0, 0, 0, x20, (0 : Int))) else none)) else none))) else (if (!x8) then some (0, 0, 0, 0, 0, 0, 0, 0, 0, 0, ([] : LR), (4 : Int)) else (if (zt l x11) then (if (!((!x12) && ((ZZ l x11 x12) == (0 : Int)))) then some (0, 0, 0, 0, 0, 0, 0, 0, 0, 0, ([] : LR), (4 : Int)) else (if (q9 x20) then (if (!(qbi x13 x14 x15 x16 x17 x18 x19 0 0 0 x20)) then some (0, 0, 0, 0, 0, 0, 0, 0, 0, 0, ([] : LR), (4 : Int)) else some (x13, x14, x15, x16, x17, x18, x19, 0, 0, 0, x20, (0 : Int))) else none)) else none)))
def Qh.l13 (qa : Nat) (l : List Int) : Nat → Bool → Int → Int → Int → Bool → Int → Int → Int → Int → Int → Int → Int → LR → Option (Int × Int × Int × Int × Int × Int × Int × Int × Int × Int × LR × Int)
 | 0, _, _, _, _, _, _, _, _, _, _, _, _, _ => none
 | k + 1, x8, x9, x10, x11, x12, x13, x14, x15, x16, x17, x18, x19, x20 => Qh.b13 l (Qh.l13 qa l k) x8 x9 x10 x11 x12 x13 x14 x15 x16 x17 x18 x19 x20
def Qh.b (l : List Int) (E13 : Bool → Int → Int → Int → Bool → Int → Int → Int → Int → Int → Int → Int → LR → Option (Int × Int × Int × Int × Int × Int × Int × Int × Int × Int × LR × Int)) : Option (Int × Int × Int × Int × Int × Int × Int × Int × Int × Int × LR × Int) :=
 (if (inB l) then (if (zt l 0) then (match (veil (Option.some (qz l (1 : Int) 0 false))) with | none => none | some y0 => (if (zt l y0.2.1) then (match (veil (Option.some (qz l (2 : Int) y0.2.1 y0.2.2))) with | none => none | some y1 => (if (zt l y1.2.1) then (match (veil (Option.some (qz l (6 : Int) y1.2.1 y1.2.2))) with | none => none | some y2 => (if (zt l y2.2.1) then (match (veil (Option.some (qz l (1 : Int) y2.2.1 y2.2.2))) with | none => none | some y3 => (match (veil (Option.some (zW Qw y3.1))) with | none => none | some y4 => (if (zt l y3.2.1) then (match (veil (Option.some (qz l (2 : Int) y3.2.1 y3.2.2))) with | none => none | some y5 => (if (zt l y5.2.1) then (match (veil (Option.some (qz l (2 : Int) y5.2.1 y5.2.2))) with | none => none | some y6 => (if (zt l y6.2.1) then (match (veil (Option.some (qz l (1 : Int) y6.2.1 y6.2.2))) with | none => none | some y7 => E13 y4.2.2 y7.1 (0 : Int) y7.2.1 y7.2.2 y0.1 y1.1 y2.1 y4.1 y4.2.1 y5.1 y6.1 ([] : LR)) else none)) else none)) else none))) else none)) else none)) else none)) else none) else none)
def Qh.f (qa : Nat) (l : List Int) : Option (Int × Int × Int × Int × Int × Int × Int × Int × Int × Int × LR × Int) := Qh.b l (Qh.l13 qa l qa)
theorem Qh.l13_eq (qa : Nat) (l : List Int) : ∀ k : Nat, Qh.p13 qa l k = Qh.l13 qa l k
 | 0 => by kernel_rfl
 | k + 1 => by
  refine Eq.trans (b := Qh.b13 l (Qh.p13 qa l k)) (by kernel_rfl) ?_
  rw [Qh.l13_eq qa l k]
  kernel_rfl
theorem Qh.eq (qa : Nat) (l : List Int) : (denF qiK loopN qa Tryz.f59 [.dat (.pair tQi (.pair tQi (.pair tQi (.pair (.pair tQi tQi) (.pair tQi (.pair tQi (.pair tQi (.pair tQi (.pair tQi (.sl tQr)))))))))) true, .raw] [.d (.sl (.int .u8)) l] [] Qh.k) = Qh.f qa l := by
 refine Eq.trans (b := Qh.b l (Qh.p13 qa l qa)) (by kernel_rfl) ?_
 rw [Qh.l13_eq qa l qa]
 kernel_rfl
def ZM (l : List Int) : Nat → Int → Bool → LR × Int × Bool
 | 0, a, bad => ([], a, bad)
 | k + 1, a, bad => if bad then ([], a, bad) else ((QX l a bad).1 :: (ZM l k (QX l a bad).2.1 (QX l a bad).2.2).1, (ZM l k (QX l a bad).2.1 (QX l a bad).2.2).2)
def qiA (ok : Bool) (l : List Int) (a : Int) (bad : Bool) (qk qx inc lo hi seq qo : Int) (qc : LR) : Int × Int × Int × Int × Int × Int × Int × LR × Int :=
 if ok && ((!bad && (ZZ l a bad == 0)) && qbi qk qx inc lo hi seq qo 0 0 0 qc) then (qk, qx, inc, lo, hi, seq, qo, qc, 0) else (0, 0, 0, 0, 0, 0, 0, [], 4)
def Qs (l : List Int) : Int × Int × Int × Int × Int × Int × Int × LR × Int :=
 let r1 := qz l 1 0 false
 let r2 := qz l 2 r1.2.1 r1.2.2
 let r3 := qz l 6 r2.2.1 r2.2.2
 let r4 := qz l 1 r3.2.1 r3.2.2
 let s := zW Qw r4.1
 let r5 := qz l 2 r4.2.1 r4.2.2
 let r6 := qz l 2 r5.2.1 r5.2.2
 let r7 := qz l 1 r6.2.1 r6.2.2
 let d := ZM l r7.1.toNat r7.2.1 r7.2.2
 qiA s.2.2 l d.2.1 d.2.2 r1.1 r2.1 r3.1 s.1 s.2.1 r5.1 r6.1 d.1
theorem qn1 (l : List Int) (a : Int) (bad : Bool) (hl : zt l a = true) : zt l (QX l a bad).2.1 = true := by
 unfold QX
 exact QE l 1 _ _ (QE l 2 _ _ (QE l 2 a bad hl))
theorem qmh (l : List Int) : ∀ (k : Nat) (a : Int) (bad : Bool), (ZM l k a bad).1.length ≤ k
 | 0, a, bad => by simp [ZM]
 | k + 1, a, bad => by
  unfold ZM
  split
  ·simp
  ·have := qmh l k (QX l a bad).2.1 (QX l a bad).2.2
   simp; omega
theorem qk3 (l : List Int) : ∀ (k : Nat) (a : Int) (bad : Bool), ∀ r ∈ (ZM l k a bad).1, r.2.2.2.2.2 = []
 | 0, a, bad, r, hr => by simp [ZM] at hr
 | k + 1, a, bad, r, hr => by
  unfold ZM at hr
  split at hr
  ·simp at hr
  ·rcases List.mem_cons.1 hr with rfl | hr
   ·rfl
   ·exact qk3 l k _ _ r hr
theorem Qh.loop (qa : Nat) (l : List Int) (ok : Bool) (n : Int) (hn : n ≤ 255) (qk qx inc lo hi seq qo : Int) : ∀ (k j : Nat) (i a : Int) (bad : Bool) (acc : LR), j < k → 0 ≤ i → i + (j : Int) = n → zt l a = true → (acc.length : Int) ≤ i → (∀ r ∈ acc, r.2.2.2.2.2 = []) →
  Qh.l13 qa l k ok n i a bad qk qx inc lo hi seq qo acc = some (let e := qiA ok l (ZM l j a bad).2.1 (ZM l j a bad).2.2 qk qx inc lo hi seq qo (acc ++ (ZM l j a bad).1); (e.1, e.2.1, e.2.2.1, e.2.2.2.1, e.2.2.2.2.1, e.2.2.2.2.2.1, e.2.2.2.2.2.2.1, 0, 0, 0, e.2.2.2.2.2.2.2.1, e.2.2.2.2.2.2.2.2)) := by
 have fin : ∀ (a : Int) (bad : Bool) (acc : LR), zt l a = true → acc.length ≤ 300 → (∀ r ∈ acc, r.2.2.2.2.2 = []) →
   (if (!ok) = true then some ((0 : Int), (0 : Int), (0 : Int), (0 : Int), (0 : Int), (0 : Int), (0 : Int), (0 : Int), (0 : Int), (0 : Int), ([] : LR), (4 : Int)) else (if zt l a = true then (if (!((!bad) && ((ZZ l a bad) == (0 : Int)))) = true then some (0, 0, 0, 0, 0, 0, 0, 0, 0, 0, [], (4 : Int)) else (if q9 acc = true then (if (!(qbi qk qx inc lo hi seq qo 0 0 0 acc)) = true then some (0, 0, 0, 0, 0, 0, 0, 0, 0, 0, [], (4 : Int)) else some (qk, qx, inc, lo, hi, seq, qo, 0, 0, 0, acc, (0 : Int))) else none)) else none)) =
   some (let e := qiA ok l a bad qk qx inc lo hi seq qo acc; (e.1, e.2.1, e.2.2.1, e.2.2.2.1, e.2.2.2.2.1, e.2.2.2.2.2.1, e.2.2.2.2.2.2.1, 0, 0, 0, e.2.2.2.2.2.2.2.1, e.2.2.2.2.2.2.2.2)) := by
  intro a bad acc hl hlen hb
  have hs : q9 acc = true := (Zo acc).2 ⟨by omega, fun r hr => by rw [hb r hr]; rfl⟩
  unfold qiA
  rw [hl, hs]
  cases ok
  ·rfl
  ·cases (!bad && (ZZ l a bad == 0))
   ·rfl
   ·cases qbi qk qx inc lo hi seq qo 0 0 0 acc <;> rfl
 intro k
 induction k with
 | zero => intro j i a bad acc h1; omega
 | succ k ih =>
  intro j i a bad acc h1 h2 h3 h4 h5 h6
  rw [Qh.l13]
  unfold Qh.b13
  cases j with
  | zero =>
   rw [if_neg (by simp; omega)]
   have := fin a bad acc h4 (by omega) h6
   unfold ZM
   rw [List.append_nil]
   exact this
  | succ j =>
   rw [if_pos (by simp; omega)]
   cases bad with
   | true =>
    rw [if_neg (by simp)]
    have := fin a true acc h4 (by omega) h6
    unfold ZM
    rw [if_pos rfl, List.append_nil]
    exact this
   | false =>
    rw [if_pos (show (!false) = true from rfl), if_pos h4, veil_eq]
    dsimp only
    rw [if_pos (by simp [lim]; omega), qX (i + 1) (by omega) (by omega)]
    have hr : ((QX l a false).1.1, ((QX l a false).1.2.1, ((QX l a false).1.2.2.1, (((QX l a false).1.2.2.2.1.1, (QX l a false).1.2.2.2.1.2), ((QX l a false).1.2.2.2.2.1, ([] : LF)))))) = (QX l a false).1 := rfl
    rw [hr, ih j (i + 1) (QX l a false).2.1 (QX l a false).2.2 (acc ++ [(QX l a false).1]) (by omega) (by omega) (by omega) (qn1 l a false h4) (by simp; omega) (fun r hr => by
     rcases List.mem_append.1 hr with hr | hr
     ·exact h6 r hr
     ·simp at hr; subst hr; rfl)]
    conv => rhs; rw [ZM]
    rw [if_neg (by simp), List.append_assoc, List.singleton_append]
theorem Qh.pure (l : List Int) (hl : inB l = true) : Qh.f 300 l = some (let e := Qs l; (e.1, e.2.1, e.2.2.1, e.2.2.2.1, e.2.2.2.2.1, e.2.2.2.2.2.1, e.2.2.2.2.2.2.1, 0, 0, 0, e.2.2.2.2.2.2.2.1, e.2.2.2.2.2.2.2.2)) := by
 have h0 : zt l 0 = true := (zN l 0).2 ⟨hl, by omega, by omega⟩
 unfold Qh.f Qh.b
 have h1 := QE l 1 0 false h0
 have h2 := QE l 2 _ (qz l 1 0 false).2.2 h1
 have h3 := QE l 6 _ (qz l 2 (qz l 1 0 false).2.1 (qz l 1 0 false).2.2).2.2 h2
 simp only [veil_eq]
 rw [if_pos hl, if_pos h0, if_pos h1, if_pos h2, if_pos h3]
 generalize hr1 : qz l 1 0 false = r1 at *
 generalize hr2 : qz l 2 r1.2.1 r1.2.2 = r2 at *
 generalize hr3 : qz l 6 r2.2.1 r2.2.2 = r3 at *
 have h4 := QE l 1 _ r3.2.2 h3
 rw [if_pos h4]
 generalize hr4 : qz l 1 r3.2.1 r3.2.2 = r4 at *
 have h5 := QE l 2 _ r4.2.2 h4
 rw [if_pos h5]
 generalize hr5 : qz l 2 r4.2.1 r4.2.2 = r5 at *
 have h6 := QE l 2 _ r5.2.2 h5
 rw [if_pos h6]
 generalize hr6 : qz l 2 r5.2.1 r5.2.2 = r6 at *
 have h7 := QE l 1 _ r6.2.2 h6
 have hb := qfp l _ r6.2.2 h6
 have hd : Qs l = qiA (zW Qw r4.1).2.2 l (ZM l (qz l 1 r6.2.1 r6.2.2).1.toNat (qz l 1 r6.2.1 r6.2.2).2.1 (qz l 1 r6.2.1 r6.2.2).2.2).2.1 (ZM l (qz l 1 r6.2.1 r6.2.2).1.toNat (qz l 1 r6.2.1 r6.2.2).2.1 (qz l 1 r6.2.1 r6.2.2).2.2).2.2 r1.1 r2.1 r3.1 (zW Qw r4.1).1 (zW Qw r4.1).2.1 r5.1 r6.1 (ZM l (qz l 1 r6.2.1 r6.2.2).1.toNat (qz l 1 r6.2.1 r6.2.2).2.1 (qz l 1 r6.2.1 r6.2.2).2.2).1 := by
  unfold Qs
  simp only [hr1, hr2, hr3, hr4, hr5, hr6]
 rw [hd]
 have := Qh.loop 300 l (zW Qw r4.1).2.2 (qz l 1 r6.2.1 r6.2.2).1 hb.2 r1.1 r2.1 r3.1 (zW Qw r4.1).1 (zW Qw r4.1).2.1 r5.1 r6.1 300 (qz l 1 r6.2.1 r6.2.2).1.toNat 0 (qz l 1 r6.2.1 r6.2.2).2.1 (qz l 1 r6.2.1 r6.2.2).2.2 [] (by omega) (by omega) (by omega) h7 (by simp) (by simp)
 rw [List.nil_append] at this
 exact this
def qoV : Den.Sum := ⟨[.dat (.sl (.int .u8)) false], fun qK qn κ => match qK, qn with
 | [.d (.sl (.int .u8)) l], [] => if inB l = true then κ [.agg [.d (.int .i64) (Qs l).1, .d (.int .i64) (Qs l).2.1, .d (.int .i64) (Qs l).2.2.1, .d (.int .i64) (Qs l).2.2.2.1, .d (.int .i64) (Qs l).2.2.2.2.1, .d (.int .i64) (Qs l).2.2.2.2.2.1, .d (.int .i64) (Qs l).2.2.2.2.2.2.1, .d (.int .i64) 0, .d (.int .i64) 0, .d (.int .i64) 0, .d (.sl (.pair (.int .i64) (.pair (.int .i64) (.pair (.int .i64) (.pair (.pair (.int .i64) (.int .i64)) (.pair .bool (.sl (.pair (.int .i64) (.sl (.int .u8)))))))))) ((Qs l).2.2.2.2.2.2.2.1)], .d (.int .i64) ((Qs l).2.2.2.2.2.2.2.2)] [] else none
 | _, _ => none⟩
def qgV : Den.Sum := ⟨[.dat (.sl (.int .u8)) false], fun qK qn κ => match qK, qn with
 | [.d (.sl (.int .u8)) l], [] => if inB l = true then (match veil (some (Qs l)) with | none => none | some y => κ [.agg [.d (.int .i64) y.1, .d (.int .i64) y.2.1, .d (.int .i64) y.2.2.1, .d (.int .i64) y.2.2.2.1, .d (.int .i64) y.2.2.2.2.1, .d (.int .i64) y.2.2.2.2.2.1, .d (.int .i64) y.2.2.2.2.2.2.1, .d (.int .i64) 0, .d (.int .i64) 0, .d (.int .i64) 0, .d (.sl (.pair (.int .i64) (.pair (.int .i64) (.pair (.int .i64) (.pair (.pair (.int .i64) (.int .i64)) (.pair .bool (.sl (.pair (.int .i64) (.sl (.int .u8)))))))))) (y.2.2.2.2.2.2.2.1)], .d (.int .i64) (y.2.2.2.2.2.2.2.2)] []) else none
 | _, _ => none⟩
theorem qmU : SumOk Tryz.prog 59 qoV := by
 have hE : EnvOk Tryz.prog qiK := env_ok (l := [(51, qaS), (83, qdv), (85, qgL), (77, qdf), (52, Zg), (84, qaP), (86, qcX)]) th_ok qZ ⟨⟨qdR, qdb⟩, ⟨qif, qha⟩, ⟨qpN, qoN⟩, ⟨qkx, qje⟩, ⟨qbd, qaL⟩, ⟨qcZ, qcj⟩, ⟨qih, qhf⟩, trivial⟩ _
 refine sum_ok hE Tryz.func59 rfl (by kernel_rfl) qoV [.dat (.pair tQi (.pair tQi (.pair tQi (.pair (.pair tQi tQi) (.pair tQi (.pair tQi (.pair tQi (.pair tQi (.pair tQi (.sl tQr)))))))))) true, .raw] Qh.k ?_
 intro R avs qn κ r h
 unfold qoV at h
 simp only at h
 split at h
 ·rename_i l
  split at h
  case isFalse => cases h
  rename_i hl
  refine ⟨300, _, _, _, (Qh.eq (300) l).trans (Qh.pure l hl), ?_, h⟩
  intro rs ros hk
  unfold Qh.k at hk
  split at hk
  ·first | (cases hk; exact ⟨rfl, rfl⟩) | (rw [← Option.some.inj hk]; exact ⟨rfl, rfl⟩)
  ·cases hk
 ·cases h
theorem qoT : SumDet qgV := zj fun _ _ _ _ => by
 unfold qgV
 simp only [veil_eq]
 split
 ·first | rfl | (split <;> rfl)
 ·rfl
theorem qpR : SumOk Tryz.prog 59 qgV := ⟨qmU.1, fun avs qn κ r hr => qmU.2 avs qn κ r (by
 unfold qgV at hr
 simp only [veil_eq] at hr
 split at hr
 ·exact hr
 ·cases hr)⟩
theorem qod : ∀ (p : List Int) (n : Nat) (v : Int), (∀ c ∈ p, 0 ≤ c ∧ c ≤ 255) → be (n + p.length) (p.foldl (fun v c => v * 256 + c) v) = be n v ++ p
 | [], n, v, _ => by simp
 | c :: p, n, v, h => by
  have hc := h c (by simp)
  have ih := qod p (n + 1) (v * 256 + c) (fun x hx => h x (by simp [hx]))
  rw [List.length_cons, List.foldl_cons, show n + (p.length + 1) = n + 1 + p.length from by omega, ih]
  show (be n ((v * 256 + c) / 256) ++ [(v * 256 + c) % 256]) ++ p = _
  rw [show (v * 256 + c) / 256 = v from by omega, show (v * 256 + c) % 256 = c from by omega]
  simp
theorem qoc (p : List Int) (h : ∀ c ∈ p, 0 ≤ c ∧ c ≤ 255) : be p.length (Q6 p) = p := by
 have := qod p 0 0 h
 rw [Nat.zero_add] at this
 exact this
theorem qcC (l : List Int) (n a : Int) (bad : Bool) (hl : zt l a = true) (h1 : 1 ≤ n) (h7 : n ≤ 7) (h : (qz l n a bad).2.2 = false) :
  bad = false ∧ (qz l n a bad).2.1 = a + n ∧ l.drop a.toNat = be n.toNat (qz l n a bad).1 ++ l.drop (a + n).toNat ∧ zt l (a + n) = true := by
 obtain ⟨k1, k2, k3⟩ := (zN l a).1 hl
 obtain ⟨k4, k5⟩ := (QY l).1 k1
 have hn : (if (decide (n < 1) || decide (n > 7)) = true then (-1 : Int) else n) = n := if_neg (by simp; omega)
 unfold qz at h ⊢
 dsimp only at h ⊢
 rw [hn] at h ⊢
 cases bad with
 | true => simp [zf] at h
 | false =>
  unfold zf at h ⊢
  rw [if_neg (by simp)] at h ⊢
  by_cases hc : (decide (n < 0) || decide (n > (l.length : Int) - a)) = true
  ·rw [if_pos hc] at h
   cases h
  ·rw [if_neg hc]
   simp only [Bool.or_eq_true, decide_eq_true_eq, not_or] at hc
   refine ⟨rfl, rfl, ?_, (zN l _).2 ⟨k1, by omega, by omega⟩⟩
   dsimp only
   rw [if_pos rfl]
   have hb : be n.toNat (Q6 (seg l a n)) = seg l a n := by
    have := qoc (seg l a n) (fun c hc => k5 c (qli hc))
    rwa [qfm l a n k2 (by omega) (by omega)] at this
   rw [hb]
   unfold seg
   rw [List.drop_take, show (a + n).toNat = a.toNat + n.toNat from by omega, Nat.add_sub_cancel_left, ← List.drop_drop, List.take_append_drop]
theorem qsb (l : List Int) (a : Int) (bad : Bool) (hl : zt l a = true) (h : (QX l a bad).2.2 = false) :
  bad = false ∧ (QX l a bad).2.1 = a + 5 ∧ zt l (a + 5) = true ∧ (zA (QX l a bad).1 = true → l.drop a.toNat = qdO (QX l a bad).1 ++ l.drop (a + 5).toNat) := by
 have e2 := QE l 2 a bad hl
 have f := fun hh => qcC l 2 a bad hl (by omega) (by omega) hh
 unfold QX at h ⊢
 dsimp only at h ⊢
 generalize qz l 2 a bad = r1 at *
 have e3 := QE l 2 _ r1.2.2 e2
 have d := fun hh => qcC l 2 r1.2.1 r1.2.2 e2 (by omega) (by omega) hh
 generalize qz l 2 r1.2.1 r1.2.2 = r2 at *
 have hb := qfp l _ r2.2.2 e3
 have c := fun hh => qcC l 1 r2.2.1 r2.2.2 e3 (by omega) (by omega) hh
 generalize qz l 1 r2.2.1 r2.2.2 = r3 at *
 obtain ⟨c1, c2, c3, c4⟩ := c h
 obtain ⟨d1, d2, d3, d4⟩ := d c1
 obtain ⟨f1, f2, f3, f4⟩ := f d1
 have e5 : r2.2.1 + 1 = a + 5 := by omega
 refine ⟨f1, by omega, by rw [← e5]; exact c4, fun hr => ?_⟩
 obtain ⟨q1, _⟩ := zH hr
 dsimp only at q1
 have hv : ¬ (r3.1 > 127) := by
  intro hc
  rw [if_pos (by simpa using hc)] at q1
  omega
 rw [if_neg (by simpa using hv)]
 rw [f3, ← f2, d3, ← d2, c3, e5]
 have hs : qdt (r1.1, r2.1, r3.1 % 4, (r3.1 / 4 % 4, r3.1 / 16 % 4), r3.1 / 64 % 2 == 1, ([] : LF)) = r3.1 := by
  unfold qdt
  dsimp only
  by_cases h6 : r3.1 / 64 % 2 = 1
  ·rw [if_pos (by simpa using h6)]; omega
  ·rw [if_neg (by simpa using h6)]; omega
 unfold qdO
 rw [hs]
 simp [n1, n2]
theorem qqm (l : List Int) : ∀ (k : Nat) (a : Int) (bad : Bool), zt l a = true → (ZM l k a bad).2.2 = false → (∀ r ∈ (ZM l k a bad).1, zA r = true) →
  bad = false ∧ (ZM l k a bad).1.length = k ∧ zt l (ZM l k a bad).2.1 = true ∧ l.drop a.toNat = (ZM l k a bad).1.flatMap qdO ++ l.drop (ZM l k a bad).2.1.toNat
 | 0, a, bad, hl, h, hr => ⟨h, rfl, hl, by simp [ZM]⟩
 | k + 1, a, bad, hl, h, hr => by
  unfold ZM at h hr ⊢
  cases bad with
  | true => simp at h
  | false =>
   rw [if_neg (by simp)] at h hr ⊢
   dsimp only at h hr ⊢
   have hat := qn1 l a false hl
   obtain ⟨i1, i2, i3, i4⟩ := qqm l k _ _ hat h (fun r hr' => hr r (by simp [hr']))
   obtain ⟨j1, j2, j3, j4⟩ := qsb l a false hl i1
   refine ⟨rfl, by simp [i2], i3, ?_⟩
   rw [j4 (hr _ (by simp)), List.flatMap_cons, List.append_assoc, ← i4, j2]
theorem ql9 {c : Int} (h : (zW Qw c).2.2 = true) : Qr (zW Qw c).1 (zW Qw c).2.1 = c := by
 unfold Qw zW zW zW zW zW zW zW at h ⊢
 split
 ·rename_i hc; simpa using hc
 split
 ·rename_i hc; simpa using hc
 split
 ·rename_i hc; simpa using hc
 split
 ·rename_i hc; simpa using hc
 split
 ·rename_i hc; simpa using hc
 split
 ·rename_i hc; simpa using hc
 rename_i c1 c2 c3 c4 c5 c6
 rw [if_neg c1, if_neg c2, if_neg c3, if_neg c4, if_neg c5, if_neg c6] at h
 cases h
theorem qsr (l : List Int) (hl : inB l = true) (h : (Qs l).2.2.2.2.2.2.2.2 = 0) :
  qbi (Qs l).1 (Qs l).2.1 (Qs l).2.2.1 (Qs l).2.2.2.1 (Qs l).2.2.2.2.1 (Qs l).2.2.2.2.2.1 (Qs l).2.2.2.2.2.2.1 0 0 0 (Qs l).2.2.2.2.2.2.2.1 = true ∧
  qcG (Qs l).1 (Qs l).2.1 (Qs l).2.2.1 (Qs l).2.2.2.1 (Qs l).2.2.2.2.1 (Qs l).2.2.2.2.2.1 (Qs l).2.2.2.2.2.2.1 (Qs l).2.2.2.2.2.2.2.1 = l ∧ q9 (Qs l).2.2.2.2.2.2.2.1 = true := by
 have h0 : zt l 0 = true := (zN l 0).2 ⟨hl, by omega, by omega⟩
 have h1 := QE l 1 0 false h0
 have h2 := QE l 2 _ (qz l 1 0 false).2.2 h1
 have h3 := QE l 6 _ (qz l 2 (qz l 1 0 false).2.1 (qz l 1 0 false).2.2).2.2 h2
 unfold Qs at h ⊢
 dsimp only at h ⊢
 have q1 := fun hh => qcC l 1 0 false h0 (by omega) (by omega) hh
 generalize hr1 : qz l 1 0 false = r1 at *
 have q2 := fun hh => qcC l 2 r1.2.1 r1.2.2 h1 (by omega) (by omega) hh
 generalize hr2 : qz l 2 r1.2.1 r1.2.2 = r2 at *
 have q3 := fun hh => qcC l 6 r2.2.1 r2.2.2 h2 (by omega) (by omega) hh
 generalize hr3 : qz l 6 r2.2.1 r2.2.2 = r3 at *
 have h4 := QE l 1 _ r3.2.2 h3
 have q4 := fun hh => qcC l 1 r3.2.1 r3.2.2 h3 (by omega) (by omega) hh
 generalize hr4 : qz l 1 r3.2.1 r3.2.2 = r4 at *
 have h5 := QE l 2 _ r4.2.2 h4
 have q5 := fun hh => qcC l 2 r4.2.1 r4.2.2 h4 (by omega) (by omega) hh
 generalize hr5 : qz l 2 r4.2.1 r4.2.2 = r5 at *
 have h6 := QE l 2 _ r5.2.2 h5
 have q6 := fun hh => qcC l 2 r5.2.1 r5.2.2 h5 (by omega) (by omega) hh
 generalize hr6 : qz l 2 r5.2.1 r5.2.2 = r6 at *
 have h7 := QE l 1 _ r6.2.2 h6
 have q7 := fun hh => qcC l 1 r6.2.1 r6.2.2 h6 (by omega) (by omega) hh
 have hby := qfp l _ r6.2.2 h6
 generalize hr7 : qz l 1 r6.2.1 r6.2.2 = r7 at *
 have hbare := qk3 l r7.1.toNat r7.2.1 r7.2.2
 have hdl := qmh l r7.1.toNat r7.2.1 r7.2.2
 have q8 := fun hh1 hh2 => qqm l r7.1.toNat r7.2.1 r7.2.2 h7 hh1 hh2
 generalize hd : ZM l r7.1.toNat r7.2.1 r7.2.2 = d at *
 unfold qiA at h ⊢
 by_cases hc : ((zW Qw r4.1).2.2 && ((!d.2.2 && (ZZ l d.2.1 d.2.2 == 0)) && qbi r1.1 r2.1 r3.1 (zW Qw r4.1).1 (zW Qw r4.1).2.1 r5.1 r6.1 0 0 0 d.1)) = true
 ·rw [if_pos hc]
  dsimp only
  simp only [Bool.and_eq_true, Bool.not_eq_true', beq_iff_eq] at hc
  obtain ⟨c1, ⟨c2, c3⟩, c4⟩ := hc
  have hf := c4
  rw [qd1] at hf
  obtain ⟨v, hx⟩ := qel hf
  obtain ⟨_, _, _, _, _, _, v7, _, _, _, _, _, v12, v13⟩ := Ql v
  obtain ⟨s1, s2, s3, s4⟩ := q8 c2 v13
  obtain ⟨t1, t2, t3, t4⟩ := q7 s1
  obtain ⟨u1, u2, u3, u4⟩ := q6 t1
  obtain ⟨w1, w2, w3, w4⟩ := q5 u1
  obtain ⟨x1, x2, x3, x4⟩ := q4 w1
  obtain ⟨y1, y2, y3, y4⟩ := q3 x1
  obtain ⟨z1, z2, z3, z4⟩ := q2 y1
  obtain ⟨p1, p2, p3, p4⟩ := q1 z1
  refine ⟨c4, ?_, (Zo _).2 ⟨by omega, fun r hr => by rw [hbare r hr]; rfl⟩⟩
  have hcode : (zW Qw r4.1).1 * 16 + (zW Qw r4.1).2.1 = r4.1 := by
   rw [← qeQ v7]; exact ql9 c1
  have hlen : (d.1.length : Int) = r7.1 := by omega
  have hleft : d.2.1.toNat = l.length := by
   rw [c2] at c3
   unfold ZZ at c3
   simp at c3
   have := (zN l _).1 s3
   omega
  unfold qcG qht
  rw [hcode, hlen]
  rw [hleft, List.drop_length, List.append_nil] at s4
  have e0 : l.drop (0 : Int).toNat = l := rfl
  rw [e0] at p3
  rw [p3, ← p2, z3, ← z2, y3, ← y2, x3, ← x2, w3, ← w2, u3, ← u2, t3, ← t2, s4]
  simp [n1, n2, n6, List.append_assoc]
 ·rw [if_neg hc] at h
  cases h
def qeN : List Int → List Int → Int
 | [], [] => 0
 | [], _ :: _ => -1
 | _ :: _, [] => 1
 | x :: l, y :: m => if decide (x < y) then -1 else if decide (x > y) then 1 else qeN l m
def qd7 (t1 : Int) (d1 : List Int) (t2 : Int) (d2 : List Int) : Int := if t1 != t2 then (if decide (t1 < t2) then -1 else 1) else qeN d1 d2
def ZP : LF → LF → Int
 | [], [] => 0
 | [], _ :: _ => -1
 | _ :: _, [] => 1
 | x :: l, y :: m => if qd7 x.1 x.2 y.1 y.2 != 0 then qd7 x.1 x.2 y.1 y.2 else ZP l m
def qbP (l : List Int) : Bool := decide (l.length < 281474976710656)
def qeM : Den.Sum := ⟨[.raw], fun qK qn κ => match qK, qn with
 | [.d (.int .u8) x], [] => κ [.d .bool false] []
 | _, _ => none⟩
def qfO : Den.Sum := ⟨[.raw, .raw], fun qK qn κ => match qK, qn with
 | [.d (.int .u8) x, .d (.int .u8) y], [] => κ [.d (.int .i64) (if decide (x < y) then -1 else if decide (x > y) then 1 else 0)] []
 | _, _ => none⟩
def qeJ : Den.Sum := ⟨[.dat (.sl (.int .u8)) false, .dat (.sl (.int .u8)) false], fun qK qn κ => match qK, qn with
 | [.d (.sl (.int .u8)) l, .d (.sl (.int .u8)) m], [] => if (qbP l && qbP m) = true then κ [.d (.int .i64) (qeN l m)] [] else none
 | _, _ => none⟩
def qfD : Den.Sum := ⟨[.dat (.pair tQi (.sl (.int .u8))) true, .dat (.pair tQi (.sl (.int .u8))) true], fun qK qn κ => match qK, qn with
 | [.agg [.d (.int .i64) t1, .d (.sl (.int .u8)) d1], .agg [.d (.int .i64) t2, .d (.sl (.int .u8)) d2]], [] => if (qbP d1 && qbP d2) = true then κ [.d (.int .i64) (qd7 t1 d1 t2 d2)] [] else none
 | _, _ => none⟩
def qfP : Den.Sum := ⟨[.dat (.sl (.pair tQi (.sl (.int .u8)))) false, .dat (.sl (.pair tQi (.sl (.int .u8)))) false], fun qK qn κ => match qK, qn with
 | [.d (.sl (.pair (.int .i64) (.sl (.int .u8)))) a, .d (.sl (.pair (.int .i64) (.sl (.int .u8)))) b], [] => if (zx a && zx b) = true then κ [.d (.int .i64) (ZP a b)] [] else none
 | _, _ => none⟩
def qdh : Den.Sum := ⟨[.dat (.sl (.pair tQi (.sl (.int .u8)))) false, .dat (.sl (.pair tQi (.sl (.int .u8)))) false], fun qK qn κ => match qK, qn with
 | [.d (.sl (.pair (.int .i64) (.sl (.int .u8)))) a, .d (.sl (.pair (.int .i64) (.sl (.int .u8)))) b], [] => if (zx a && zx b) = true then κ [.d .bool (ZP a b == 0)] [] else none
 | _, _ => none⟩
def qon : Env := ⟨th, gam [], fun i => ⟨[], [], []⟩⟩
def qcO.k (rs : List AV) (os : List Den.Obj) : Option Bool :=
 match rs, os with
 | [.d .bool r0], [] => some r0
 | _, _ => none
def qcO.b (x : Int) : Option Bool :=
 some ((x != x))
def qcO.f (qa : Nat) (x : Int) : Option Bool := qcO.b x
theorem qcO.eq (qa : Nat) (x : Int) : (denF qon loopN qa Tryz.f140 [.raw] [.d (.int .u8) x] [] qcO.k) = qcO.f qa x := by
 kernel_rfl
def qqD : Env := ⟨th, gam [(140, qeM)], fun i => ⟨[], [], []⟩⟩
def qez.k (rs : List AV) (os : List Den.Obj) : Option Int :=
 match rs, os with
 | [.d (.int .i64) r0], [] => some r0
 | _, _ => none
def qez.b (x y : Int) : Option Int :=
 (if (decide (x < y)) then some ((-(1 : Int))) else (if (decide (x > y)) then some ((1 : Int)) else some ((0 : Int))))
def qez.f (qa : Nat) (x y : Int) : Option Int := qez.b x y
theorem qez.eq (qa : Nat) (x y : Int) : (denF qqD loopN qa Tryz.f138 [.raw] [.d (.int .u8) x, .d (.int .u8) y] [] qez.k) = qez.f qa x y := by
 kernel_rfl
def qlL : Env := ⟨th, gam [(138, qfO)], fun i => if i = 2 then ⟨[0, 1, 9, 10, 11], [], []⟩ else ⟨[], [], []⟩⟩
def QP.k (rs : List AV) (os : List Den.Obj) : Option Int :=
 match rs, os with
 | [.d (.int .i64) r0], [] => some r0
 | _, _ => none
def QP.s2 (l m : List Int) (x0 x1 : Int) : St := ⟨[.d (.sl (.int .u8)) (l), .d (.sl (.int .u8)) (m), dD, dD, dD, dD, dD, dD, dD, .d (.sl (.int .u8)) (l), .d tQi x0, .d tQi x1, dD, dD, dD, dD, dD, dD, dD, dD, dD, dD, dD, dD, dD, dD, dD, dD, dD, dD, dD, dD, dD, dD, dD, .dead], ofL [], 0⟩
def QP.p2 (qa : Nat) (l m : List Int) (k : Nat) := fun x0 x1 => lp qlL qa Tryz.f136 [.raw] 0 QP.k 2 [] k (QP.s2 l m x0 x1)
def QP.b2 (l m : List Int) (A2 : Int → Int → Option Int) (x0 x1 : Int) : Option Int :=
 (if (decide (x1 < x0)) then (match (idx l x1) with | none => none | some y2 => (if (decide (x1 ≥ ((((List.length m)) : Nat) : Int))) then some ((1 : Int)) else (match (idx m x1) with | none => none | some y3 => (if ((if (decide (y2 < y3)) then (-1) else (if (decide (y2 > y3)) then 1 else 0)) != (0 : Int)) then some ((if (decide (y2 < y3)) then (-1) else (if (decide (y2 > y3)) then 1 else 0))) else A2 x0 (IntKind.wrap .i64 (x1 + (1 : Int))))))) else (if (decide (((((List.length l)) : Nat) : Int) < ((((List.length m)) : Nat) : Int))) then some ((-(1 : Int))) else some ((0 : Int))))
def QP.l2 (qa : Nat) (l m : List Int) : Nat → Int → Int → Option Int
 | 0, _, _ => none
 | k + 1, x0, x1 => QP.b2 l m (QP.l2 qa l m k) x0 x1
def QP.b (l m : List Int) (E2 : Int → Int → Option Int) : Option Int :=
 E2 ((((List.length l)) : Nat) : Int) (0 : Int)
def QP.f (qa : Nat) (l m : List Int) : Option Int := QP.b l m (QP.l2 qa l m qa)
theorem QP.l2_eq (qa : Nat) (l m : List Int) : ∀ k : Nat, QP.p2 qa l m k = QP.l2 qa l m k
 | 0 => by kernel_rfl
 | k + 1 => by
  refine Eq.trans (b := QP.b2 l m (QP.p2 qa l m k)) (by kernel_rfl) ?_
  rw [QP.l2_eq qa l m k]
  kernel_rfl
theorem QP.eq (qa : Nat) (l m : List Int) : (denF qlL loopN qa Tryz.f136 [.raw] [.d (.sl (.int .u8)) l, .d (.sl (.int .u8)) m] [] QP.k) = QP.f qa l m := by
 refine Eq.trans (b := QP.b l m (QP.p2 qa l m qa)) (by kernel_rfl) ?_
 rw [QP.l2_eq qa l m qa]
 kernel_rfl
def qop : Env := ⟨th, gam [(136, qeJ)], fun i => ⟨[], [], []⟩⟩
def qcQ.k (rs : List AV) (os : List Den.Obj) : Option Int :=
 match rs, os with
 | [.d (.int .i64) r0], [] => some r0
 | _, _ => none
def qcQ.b (t1 : Int) (d1 : List Int) (t2 : Int) (d2 : List Int) : Option Int :=
 (if (t1 != t2) then (if (decide (t1 < t2)) then some ((-(1 : Int))) else some ((1 : Int))) else (if ((qbP d1) && (qbP d2)) then some ((qeN d1 d2)) else none))
def qcQ.f (qa : Nat) (t1 : Int) (d1 : List Int) (t2 : Int) (d2 : List Int) : Option Int := qcQ.b t1 d1 t2 d2
theorem qcQ.eq (qa : Nat) (t1 : Int) (d1 : List Int) (t2 : Int) (d2 : List Int) : (denF qop loopN qa Tryz.f127 [.raw] [.agg [.d tQi t1, .d (.sl (.int .u8)) d1], .agg [.d tQi t2, .d (.sl (.int .u8)) d2]] [] qcQ.k) = qcQ.f qa t1 d1 t2 d2 := by
 kernel_rfl
def qnt : Env := ⟨th, gam [(127, qfD)], fun i => if i = 2 then ⟨[0, 1, 5], [], []⟩ else ⟨[], [], []⟩⟩
def ZI.k (rs : List AV) (os : List Den.Obj) : Option Int :=
 match rs, os with
 | [.d (.int .i64) r0], [] => some r0
 | _, _ => none
def ZI.s2 (a b : LF) (x0 : Int) : St := ⟨[.d (.sl (.pair tQi (.sl (.int .u8)))) (a), .d (.sl (.pair tQi (.sl (.int .u8)))) (b), dD, dD, dD, .d tQi x0, dD, dD, dD, dD, dD, dD, dD, dD, dD, dD, dD, dD, dD, dD, dD, dD, dD, dD, dD, dD, dD, dD, dD, dD, dD, dD, dD, dD, dD, dD, dD, dD, dD, dD, dD, dD, .dead], ofL [], 0⟩
def ZI.p2 (qa : Nat) (a b : LF) (k : Nat) := fun x0 => lp qnt qa Tryz.f108 [.raw] 0 ZI.k 2 [] k (ZI.s2 a b x0)
def ZI.b2 (a b : LF) (A2 : Int → Option Int) (x0 : Int) : Option Int :=
 (if (decide (x0 < ((((List.length a)) : Nat) : Int))) then (if (decide (x0 < ((((List.length b)) : Nat) : Int))) then (match (idx a x0) with | none => none | some y1 => (match (idx b x0) with | none => none | some y2 => (if ((qbP y1.2) && (qbP y2.2)) then (if ((qd7 y1.1 y1.2 y2.1 y2.2) != (0 : Int)) then some ((qd7 y1.1 y1.2 y2.1 y2.2)) else A2 (IntKind.wrap .i64 (x0 + (1 : Int)))) else none))) else (if (decide (((((List.length a)) : Nat) : Int) < ((((List.length b)) : Nat) : Int))) then some ((-(1 : Int))) else (if (decide (((((List.length a)) : Nat) : Int) > ((((List.length b)) : Nat) : Int))) then some ((1 : Int)) else some ((0 : Int))))) else (if (decide (((((List.length a)) : Nat) : Int) < ((((List.length b)) : Nat) : Int))) then some ((-(1 : Int))) else (if (decide (((((List.length a)) : Nat) : Int) > ((((List.length b)) : Nat) : Int))) then some ((1 : Int)) else some ((0 : Int)))))
def ZI.l2 (qa : Nat) (a b : LF) : Nat → Int → Option Int
 | 0, _ => none
 | k + 1, x0 => ZI.b2 a b (ZI.l2 qa a b k) x0
def ZI.b (a b : LF) (E2 : Int → Option Int) : Option Int :=
 E2 (0 : Int)
def ZI.f (qa : Nat) (a b : LF) : Option Int := ZI.b a b (ZI.l2 qa a b qa)
theorem ZI.l2_eq (qa : Nat) (a b : LF) : ∀ k : Nat, ZI.p2 qa a b k = ZI.l2 qa a b k
 | 0 => by kernel_rfl
 | k + 1 => by
  refine Eq.trans (b := ZI.b2 a b (ZI.p2 qa a b k)) (by kernel_rfl) ?_
  rw [ZI.l2_eq qa a b k]
  kernel_rfl
theorem ZI.eq (qa : Nat) (a b : LF) : (denF qnt loopN qa Tryz.f108 [.raw] [.d (.sl (.pair tQi (.sl (.int .u8)))) a, .d (.sl (.pair tQi (.sl (.int .u8)))) b] [] ZI.k) = ZI.f qa a b := by
 refine Eq.trans (b := ZI.b a b (ZI.p2 qa a b qa)) (by kernel_rfl) ?_
 rw [ZI.l2_eq qa a b qa]
 kernel_rfl
def qoq : Env := ⟨th, gam [(108, qfP)], fun i => ⟨[], [], []⟩⟩
def qcR.k (rs : List AV) (os : List Den.Obj) : Option Bool :=
 match rs, os with
 | [.d .bool r0], [] => some r0
 | _, _ => none
def qcR.b (a b : LF) : Option Bool :=
 (if ((zx a) && (zx b)) then some (((ZP a b) == (0 : Int))) else none)
def qcR.f (qa : Nat) (a b : LF) : Option Bool := qcR.b a b
theorem qcR.eq (qa : Nat) (a b : LF) : (denF qoq loopN qa Tryz.f75 [.raw] [.d (.sl (.pair tQi (.sl (.int .u8)))) a, .d (.sl (.pair tQi (.sl (.int .u8)))) b] [] qcR.k) = qcR.f qa a b := by
 kernel_rfl
theorem qib (l : List Int) : qbP l = true ↔ l.length < 281474976710656 := by unfold qbP; simp
theorem qcO.pure (x : Int) : qcO.f 0 x = some false := by
 unfold qcO.f qcO.b
 simp
theorem qez.pure (x y : Int) : qez.f 0 x y = some (if decide (x < y) then -1 else if decide (x > y) then 1 else 0) := by
 unfold qez.f qez.b
 split
 ·rfl
 ·split <;> rfl
theorem QP.loop (qa : Nat) (l m : List Int) (h1 : l.length < 281474976710656) : ∀ (k i : Nat), i ≤ l.length → i ≤ m.length → l.length - i < k → QP.l2 qa l m k (l.length : Int) (i : Int) = some (qeN (l.drop i) (m.drop i)) := by
 intro k
 induction k with
 | zero => intro i a b c; omega
 | succ k ih =>
  intro i a b c
  rw [QP.l2]
  unfold QP.b2
  by_cases hi : i < l.length
  ·rw [if_pos (by simp; omega), Qn, List.getElem?_eq_getElem hi, List.drop_eq_getElem_cons hi]
   dsimp only
   by_cases hm : i < m.length
   ·rw [if_neg (by simp; omega), Qn, List.getElem?_eq_getElem hm, List.drop_eq_getElem_cons hm]
    dsimp only
    unfold qeN
    by_cases c1 : l[i] < m[i]
    ·simp [c1]
    ·by_cases c2 : l[i] > m[i]
     ·simp [c1, c2]
     ·simp only [c1, c2, decide_false, Bool.false_eq_true, if_false, bne_self_eq_false]
      rw [qX _ (by omega) (by omega)]
      exact ih (i + 1) (by omega) (by omega) (by omega)
   ·rw [if_pos (by simp; omega), List.drop_of_length_le (by omega : m.length ≤ i)]
    rfl
  ·rw [if_neg (by simp; omega), List.drop_of_length_le (by omega : l.length ≤ i)]
   by_cases hm : i < m.length
   ·rw [if_pos (by simp; omega), List.drop_eq_getElem_cons hm]
    rfl
   ·rw [if_neg (by simp; omega), List.drop_of_length_le (by omega : m.length ≤ i)]
    rfl
theorem QP.pure (l m : List Int) (hl : (qbP l && qbP m) = true) : QP.f (l.length + 1) l m = some (qeN l m) := by
 rw [Bool.and_eq_true, qib, qib] at hl
 unfold QP.f QP.b
 exact QP.loop _ l m hl.1 _ 0 (by omega) (by omega) (by omega)
theorem qcQ.pure (t1 : Int) (d1 : List Int) (t2 : Int) (d2 : List Int) (hl : (qbP d1 && qbP d2) = true) : qcQ.f 0 t1 d1 t2 d2 = some (qd7 t1 d1 t2 d2) := by
 unfold qcQ.f qcQ.b qd7
 rw [hl]
 split
 ·split <;> rfl
 ·rfl
theorem qmK {b : LF} (h : zx b = true) (i : Nat) (hi : i < b.length) : qbP b[i].2 = true := (qib _).2 (((qaR b).1 h).2 _ (List.getElem_mem hi))
theorem ZI.loop (qa : Nat) (a b : LF) (ha : zx a = true) (hb : zx b = true) : ∀ (k i : Nat), i ≤ a.length → i ≤ b.length → a.length - i < k → ZI.l2 qa a b k (i : Int) = some (ZP (a.drop i) (b.drop i)) := by
 have hla := ((qaR a).1 ha).1
 intro k
 induction k with
 | zero => intro i h1 h2 h3; omega
 | succ k ih =>
  intro i h1 h2 h3
  rw [ZI.l2]
  unfold ZI.b2
  by_cases hi : i < a.length
  ·rw [if_pos (by simp; omega)]
   by_cases hm : i < b.length
   ·rw [if_pos (by simp; omega), Qn, List.getElem?_eq_getElem hi, Qn, List.getElem?_eq_getElem hm, List.drop_eq_getElem_cons hi, List.drop_eq_getElem_cons hm]
    dsimp only
    rw [qmK ha i hi, qmK hb i hm, Bool.and_self, if_pos rfl, qX _ (by omega) (by omega)]
    unfold ZP
    split
    ·rfl
    ·exact ih (i + 1) (by omega) (by omega) (by omega)
   ·rw [if_neg (by simp; omega), List.drop_eq_getElem_cons hi, List.drop_of_length_le (by omega : b.length ≤ i), if_neg (by simp; omega), if_pos (by simp; omega)]
    rfl
  ·rw [if_neg (by simp; omega), List.drop_of_length_le (by omega : a.length ≤ i)]
   by_cases hm : i < b.length
   ·rw [if_pos (by simp; omega), List.drop_eq_getElem_cons hm]
    rfl
   ·rw [if_neg (by simp; omega), if_neg (by simp; omega), List.drop_of_length_le (by omega : b.length ≤ i)]
    rfl
theorem ZI.pure (a b : LF) (hl : (zx a && zx b) = true) : ZI.f (a.length + 1) a b = some (ZP a b) := by
 rw [Bool.and_eq_true] at hl
 unfold ZI.f ZI.b
 exact ZI.loop _ a b hl.1 hl.2 _ 0 (by omega) (by omega) (by omega)
theorem qcR.pure (a b : LF) (hl : (zx a && zx b) = true) : qcR.f 0 a b = some (ZP a b == 0) := by
 unfold qcR.f qcR.b
 rw [hl]; rfl
theorem qma : ∀ (l : List Int), qeN l l = 0
 | [] => rfl
 | x :: l => by
  unfold qeN
  simp [qma l]
theorem qhC : ∀ (l : LF), ZP l l = 0
 | [] => rfl
 | x :: l => by
  unfold ZP
  have : qd7 x.1 x.2 x.1 x.2 = 0 := by unfold qd7; simp [qma]
  rw [this]
  simp [qhC l]
theorem qnG : SumDet qeM := zj fun _ _ _ _ => by
 unfold qeM
 simp only
 split
 ·first | rfl | (split <;> rfl)
 ·rfl
theorem qoR : SumOk Tryz.prog 140 qeM := by
 have hE : EnvOk Tryz.prog qon := env_ok (l := []) th_ok qZ trivial _
 refine sum_ok hE Tryz.func140 rfl (by kernel_rfl) qeM [.raw] qcO.k ?_
 intro R avs qn κ r h
 unfold qeM at h
 simp only at h
 split at h
 ·rename_i x
  refine ⟨0, _, _, _, (qcO.eq (0) x).trans (qcO.pure x), ?_, h⟩
  intro rs ros hk
  unfold qcO.k at hk
  split at hk
  ·first | (cases hk; exact ⟨rfl, rfl⟩) | (rw [← Option.some.inj hk]; exact ⟨rfl, rfl⟩)
  ·cases hk
 ·cases h
theorem qoW : SumDet qfO := zj fun _ _ _ _ => by
 unfold qfO
 simp only
 split
 ·first | rfl | (split <;> rfl)
 ·rfl
theorem qpS : SumOk Tryz.prog 138 qfO := by
 have hE : EnvOk Tryz.prog qqD := env_ok (l := [(140, qeM)]) th_ok qZ ⟨⟨qoR, qnG⟩, trivial⟩ _
 refine sum_ok hE Tryz.func138 rfl (by kernel_rfl) qfO [.raw] qez.k ?_
 intro R avs qn κ r h
 unfold qfO at h
 simp only at h
 split at h
 ·rename_i x y
  refine ⟨0, _, _, _, (qez.eq (0) x y).trans (qez.pure x y), ?_, h⟩
  intro rs ros hk
  unfold qez.k at hk
  split at hk
  ·first | (cases hk; exact ⟨rfl, rfl⟩) | (rw [← Option.some.inj hk]; exact ⟨rfl, rfl⟩)
  ·cases hk
 ·cases h
theorem qnD : SumDet qeJ := zj fun _ _ _ _ => by
 unfold qeJ
 simp only
 split
 ·first | rfl | (split <;> rfl)
 ·rfl
theorem qoI : SumOk Tryz.prog 136 qeJ := by
 have hE : EnvOk Tryz.prog qlL := env_ok (l := [(138, qfO)]) th_ok qZ ⟨⟨qpS, qoW⟩, trivial⟩ _
 refine sum_ok hE Tryz.func136 rfl (by kernel_rfl) qeJ [.raw] QP.k ?_
 intro R avs qn κ r h
 unfold qeJ at h
 simp only at h
 split at h
 ·rename_i l m
  split at h
  case isFalse => cases h
  rename_i hl
  refine ⟨l.length + 1, _, _, _, (QP.eq (l.length + 1) l m).trans (QP.pure l m hl), ?_, h⟩
  intro rs ros hk
  unfold QP.k at hk
  split at hk
  ·first | (cases hk; exact ⟨rfl, rfl⟩) | (rw [← Option.some.inj hk]; exact ⟨rfl, rfl⟩)
  ·cases hk
 ·cases h
theorem qoJ : SumDet qfD := zj fun _ _ _ _ => by
 unfold qfD
 simp only
 split
 ·first | rfl | (split <;> rfl)
 ·rfl
theorem qpK : SumOk Tryz.prog 127 qfD := by
 have hE : EnvOk Tryz.prog qop := env_ok (l := [(136, qeJ)]) th_ok qZ ⟨⟨qoI, qnD⟩, trivial⟩ _
 refine sum_ok hE Tryz.func127 rfl (by kernel_rfl) qfD [.raw] qcQ.k ?_
 intro R avs qn κ r h
 unfold qfD at h
 simp only at h
 split at h
 ·rename_i t1 d1 t2 d2
  split at h
  case isFalse => cases h
  rename_i hl
  refine ⟨0, _, _, _, (qcQ.eq (0) t1 d1 t2 d2).trans (qcQ.pure t1 d1 t2 d2 hl), ?_, h⟩
  intro rs ros hk
  unfold qcQ.k at hk
  split at hk
  ·first | (cases hk; exact ⟨rfl, rfl⟩) | (rw [← Option.some.inj hk]; exact ⟨rfl, rfl⟩)
  ·cases hk
 ·cases h
theorem qoX : SumDet qfP := zj fun _ _ _ _ => by
 unfold qfP
 simp only
 split
 ·first | rfl | (split <;> rfl)
 ·rfl
theorem qpT : SumOk Tryz.prog 108 qfP := by
 have hE : EnvOk Tryz.prog qnt := env_ok (l := [(127, qfD)]) th_ok qZ ⟨⟨qpK, qoJ⟩, trivial⟩ _
 refine sum_ok hE Tryz.func108 rfl (by kernel_rfl) qfP [.raw] ZI.k ?_
 intro R avs qn κ r h
 unfold qfP at h
 simp only at h
 split at h
 ·rename_i a b
  split at h
  case isFalse => cases h
  rename_i hl
  refine ⟨a.length + 1, _, _, _, (ZI.eq (a.length + 1) a b).trans (ZI.pure a b hl), ?_, h⟩
  intro rs ros hk
  unfold ZI.k at hk
  split at hk
  ·first | (cases hk; exact ⟨rfl, rfl⟩) | (rw [← Option.some.inj hk]; exact ⟨rfl, rfl⟩)
  ·cases hk
 ·cases h
theorem qjg : SumDet qdh := zj fun _ _ _ _ => by
 unfold qdh
 simp only
 split
 ·first | rfl | (split <;> rfl)
 ·rfl
theorem qkA : SumOk Tryz.prog 75 qdh := by
 have hE : EnvOk Tryz.prog qoq := env_ok (l := [(108, qfP)]) th_ok qZ ⟨⟨qpT, qoX⟩, trivial⟩ _
 refine sum_ok hE Tryz.func75 rfl (by kernel_rfl) qdh [.raw] qcR.k ?_
 intro R avs qn κ r h
 unfold qdh at h
 simp only at h
 split at h
 ·rename_i a b
  split at h
  case isFalse => cases h
  rename_i hl
  refine ⟨0, _, _, _, (qcR.eq (0) a b).trans (qcR.pure a b hl), ?_, h⟩
  intro rs ros hk
  unfold qcR.k at hk
  split at hk
  ·first | (cases hk; exact ⟨rfl, rfl⟩) | (rw [← Option.some.inj hk]; exact ⟨rfl, rfl⟩)
  ·cases hk
 ·cases h
theorem qlD : ∀ (n : Nat) (v : Int), 0 ≤ v → v < 256 ^ n → Q6 (be n v) = v
 | 0, v, h0, h1 => by simp at h1; simp [be, Q6]; omega
 | n + 1, v, h0, h1 => by
  have hp : v / 256 < 256 ^ n := by
   rw [Int.pow_succ] at h1
   generalize (256 : Int) ^ n = M at h1 ⊢
   omega
  have ih := qlD n (v / 256) (by omega) hp
  show Q6 (be n (v / 256) ++ [v % 256]) = v
  unfold Q6 at ih ⊢
  rw [List.foldl_append, ih]
  simp
  omega
theorem qk5 : ∀ (n : Nat) (v c : Int), c ∈ be n v → 0 ≤ c ∧ c ≤ 255
 | 0, v, c, h => by simp [be] at h
 | n + 1, v, c, h => by
  have h' : c ∈ be n (v / 256) ++ [v % 256] := h
  rcases List.mem_append.1 h' with h | h
  ·exact qk5 n _ c h
  ·simp at h; omega
theorem qbK (l : List Int) (n a : Int) (v : Int) (rest : List Int) (hl : zt l a = true) (h1 : 1 ≤ n) (h7 : n ≤ 7) (h0 : 0 ≤ v) (hv : v < 256 ^ n.toNat) (h : l.drop a.toNat = be n.toNat v ++ rest) :
  qz l n a false = (v, a + n, false) ∧ l.drop (a + n).toNat = rest ∧ zt l (a + n) = true := by
 obtain ⟨k1, k2, k3⟩ := (zN l a).1 hl
 have hlen : l.length - a.toNat = n.toNat + rest.length := by
  have := congrArg List.length h
  simpa [zL] using this
 have hn : (if (decide (n < 1) || decide (n > 7)) = true then (-1 : Int) else n) = n := if_neg (by simp; omega)
 have hseg : seg l a n = be n.toNat v := by
  unfold seg
  rw [List.drop_take, show (a + n).toNat = a.toNat + n.toNat from by omega, Nat.add_sub_cancel_left, h]
  exact List.take_left' (zL _ _)
 refine ⟨?_, ?_, (zN l _).2 ⟨k1, by omega, by omega⟩⟩
 ·unfold qz
  dsimp only
  rw [hn]
  have hst : zf l n a false = (seg l a n, true, a + n, false) := by
   unfold zf
   rw [if_neg (by simp), if_neg (by simp; omega)]
  rw [hst]
  dsimp only
  rw [if_pos rfl, hseg, qlD _ v h0 hv]
 ·rw [show (a + n).toNat = a.toNat + n.toNat from by omega, ← List.drop_drop, h]
  exact List.drop_left' (zL _ _)
theorem qsc (l : List Int) (a : Int) (r : Int × Int × Int × (Int × Int) × Bool × LF) (rest : List Int) (hl : zt l a = true) (hr : zA r = true) (hi : r.2.1 ≤ 65535) (hb : r.2.2.2.2.2 = []) (h : l.drop a.toNat = qdO r ++ rest) :
  QX l a false = (r, a + 5, false) ∧ l.drop (a + 5).toNat = rest ∧ zt l (a + 5) = true := by
 obtain ⟨id, inc, st, ⟨lo, hi'⟩, cut, bag⟩ := r
 obtain ⟨f1, f2, f3, f4, f5, f6, f7, _, _⟩ := zH hr
 obtain ⟨_, s1, s2⟩ := qmI hr
 have f8 := (qaq _ _).1 f7
 dsimp only at f1 f2 f3 f5 f6 f7 f8 hi hb
 subst hb
 unfold qdO at h
 dsimp only at h
 rw [List.append_assoc] at h
 obtain ⟨a1, a2, a3⟩ := qbK l 2 a id _ hl (by omega) (by omega) f1 (by simp; omega) h
 rw [List.append_assoc] at a2
 obtain ⟨b1, b2, b3⟩ := qbK l 2 (a + 2) inc _ a3 (by omega) (by omega) f3 (by simp; omega) a2
 obtain ⟨c1, c2, c3⟩ := qbK l 1 (a + 2 + 2) _ rest b3 (by omega) (by omega) s1 (by simpa using s2) b2
 have e5 : a + 2 + 2 + 1 = a + 5 := by omega
 rw [e5] at c1 c2 c3
 refine ⟨?_, c2, c3⟩
 unfold QX
 dsimp only
 rw [a1]
 dsimp only
 rw [b1]
 dsimp only
 rw [c1]
 dsimp only
 have hs : qdt (id, inc, st, (lo, hi'), cut, ([] : LF)) = (if cut then st + 4 * lo + 16 * hi' + 64 else st + 4 * lo + 16 * hi') := rfl
 rw [hs]
 cases cut
 ·simp only [Bool.false_eq_true, if_false]
  rw [if_neg (by simp; omega)]
  have e1 : (st + 4 * lo + 16 * hi') % 4 = st := by omega
  have e2 : (st + 4 * lo + 16 * hi') / 4 % 4 = lo := by omega
  have e3 : (st + 4 * lo + 16 * hi') / 16 % 4 = hi' := by omega
  have e4 : ((st + 4 * lo + 16 * hi') / 64 % 2 == 1) = false := by simp; omega
  rw [e1, e2, e3, e4]
 ·simp only [if_true]
  rw [if_neg (by simp; omega)]
  have e1 : (st + 4 * lo + 16 * hi' + 64) % 4 = st := by omega
  have e2 : (st + 4 * lo + 16 * hi' + 64) / 4 % 4 = lo := by omega
  have e3 : (st + 4 * lo + 16 * hi' + 64) / 16 % 4 = hi' := by omega
  have e4 : ((st + 4 * lo + 16 * hi' + 64) / 64 % 2 == 1) = true := by simp; omega
  rw [e1, e2, e3, e4]
theorem qqn (l : List Int) : ∀ (qc : LR) (a : Int) (rest : List Int), zt l a = true → (∀ r ∈ qc, zA r = true ∧ r.2.1 ≤ 65535 ∧ r.2.2.2.2.2 = []) → l.drop a.toNat = qc.flatMap qdO ++ rest →
  ∃ a', ZM l qc.length a false = (qc, a', false) ∧ l.drop a'.toNat = rest ∧ zt l a' = true
 | [], a, rest, hl, _, h => ⟨a, rfl, by simpa using h, hl⟩
 | r :: qc, a, rest, hl, hr, h => by
  obtain ⟨r1, r2, r3⟩ := hr r (by simp)
  rw [List.flatMap_cons, List.append_assoc] at h
  obtain ⟨o1, o2, o3⟩ := qsc l a r _ hl r1 r2 r3 h
  obtain ⟨a', d1, d2, d3⟩ := qqn l qc (a + 5) rest o3 (fun x hx => hr x (by simp [hx])) o2
  refine ⟨a', ?_, d2, d3⟩
  rw [List.length_cons, ZM, if_neg (by simp), o1]
  dsimp only
  rw [d1]
theorem qrU {lo hi : Int} (h : okS lo hi = true) : zW Qw (lo * 16 + hi) = (lo, hi, true) := by
 have := (qaq lo hi).1 h
 have h1 : lo = 1 ∨ lo = 2 ∨ lo = 3 := by omega
 have h2 : hi = 1 ∨ hi = 2 ∨ hi = 3 := by omega
 rcases h1 with rfl | rfl | rfl <;> rcases h2 with rfl | rfl | rfl <;> first | omega | rfl
theorem qk4 (qk qx inc lo hi seq qo : Int) (qc : LR) (hlen : qc.length ≤ 255) : inB (qcG qk qx inc lo hi seq qo qc) = true := by
 have hm : ∀ (l : LR), (l.flatMap qdO).length = 5 * l.length := by
  intro l
  induction l with
  | nil => rfl
  | cons x l ih => rw [List.flatMap_cons, List.length_append, ih, qjk, List.length_cons]; omega
 refine (QY _).2 ⟨?_, fun c hc => ?_⟩
 ·unfold qcG qht
  simp only [List.length_append, zL, hm]
  omega
 ·unfold qcG qht at hc
  simp only [List.mem_append, List.mem_flatMap] at hc
  rcases hc with (hc | hc | hc | hc | hc | hc | hc) | ⟨r, _, hc⟩
  all_goals first | exact qk5 _ _ c hc | skip
  unfold qdO at hc
  simp only [List.mem_append] at hc
  rcases hc with hc | hc | hc <;> exact qk5 _ _ c hc
theorem qsI (qk qx inc lo hi seq qo : Int) (qc : LR) (h : qbi qk qx inc lo hi seq qo 0 0 0 qc = true) :
  Qs (qcG qk qx inc lo hi seq qo qc) = (qk, qx, inc, lo, hi, seq, qo, qc, 0) := by
 have hf := h
 rw [qd1] at hf
 obtain ⟨hv, hx⟩ := qel hf
 obtain ⟨v1, v2, v3, v4, v5, v6, v7, v8, v9, v10, v11, _, v12, v13⟩ := Ql hv
 have v14 := (qaq _ _).1 v7
 have hb := qk4 qk qx inc lo hi seq qo qc v12
 have h0 : zt (qcG qk qx inc lo hi seq qo qc) 0 = true := (zN _ 0).2 ⟨hb, by omega, by omega⟩
 generalize hl : qcG qk qx inc lo hi seq qo qc = l at *
 have e0 : l.drop (0 : Int).toNat = be (Int.toNat 1) qk ++ (be 2 qx ++ (be 6 inc ++ (be 1 (lo * 16 + hi) ++ (be 2 seq ++ (be 2 qo ++ (be 1 (qc.length : Int) ++ (qc.flatMap qdO ++ []))))))) := by
  rw [← hl]
  simp [qcG, qht, n1]
 obtain ⟨a1, a2, a3⟩ := qbK l 1 0 qk _ h0 (by omega) (by omega) (by omega) (by simp; omega) e0
 obtain ⟨b1, b2, b3⟩ := qbK l 2 _ qx _ a3 (by omega) (by omega) v3 (by simp; omega) a2
 obtain ⟨c1, c2, c3⟩ := qbK l 6 _ inc _ b3 (by omega) (by omega) v5 (by simp; omega) b2
 obtain ⟨d1, d2, d3⟩ := qbK l 1 _ (lo * 16 + hi) _ c3 (by omega) (by omega) (by omega) (by simp; omega) c2
 obtain ⟨f1, f2, f3⟩ := qbK l 2 _ seq _ d3 (by omega) (by omega) v8 (by simp; omega) d2
 obtain ⟨g1, g2, g3⟩ := qbK l 2 _ qo _ f3 (by omega) (by omega) v10 (by simp; omega) f2
 obtain ⟨i1, i2, i3⟩ := qbK l 1 _ (qc.length : Int) _ g3 (by omega) (by omega) (by omega) (by simp; omega) g2
 obtain ⟨a', j1, j2, j3⟩ := qqn l qc _ [] i3 (fun r hr => ⟨v13 r hr, hx r hr⟩) i2
 unfold Qs
 dsimp only
 rw [a1]
 dsimp only
 rw [b1]
 dsimp only
 rw [c1]
 dsimp only
 rw [d1]
 dsimp only
 rw [f1]
 dsimp only
 rw [g1]
 dsimp only
 rw [i1]
 dsimp only
 rw [Int.toNat_natCast, j1, qrU v7]
 dsimp only
 have hleft : ZZ l a' false = 0 := by
  unfold ZZ
  have := (zN l a').1 j3
  have hz := congrArg List.length j2
  simp at hz
  simp
  omega
 unfold qiA
 rw [hleft, h]
 rfl
theorem qpk {qk qx inc lo hi seq qo qP qD qb : Int} {qc : LR} (h : qiS qk qx inc lo hi seq qo qP qD qb qc = true) : qP = 0 ∧ qD = 0 ∧ qb = 0 := by
 unfold qiS at h
 split at h
 ·cases h
 ·rename_i hc
  simp only [Bool.or_eq_true, not_or, bne_iff_ne, ne_eq, Decidable.not_not] at hc
  exact ⟨hc.2.2.1, hc.2.2.2.1, hc.2.2.2.2⟩
theorem be1 (v : Int) (h0 : 0 ≤ v) (h1 : v < 256) : be 1 v = [v] := by
 show be 0 (v / 256) ++ [v % 256] = [v]
 rw [show v % 256 = v from by omega]
 rfl
theorem qna : ∀ (l : LR), (l.flatMap qdO).length = 5 * l.length
 | [] => rfl
 | x :: l => by rw [List.flatMap_cons, List.length_append, qna l, qjk, List.length_cons]; omega
theorem qro (qk qx inc lo hi seq qo : Int) (qc : LR) : (qcG qk qx inc lo hi seq qo qc).length = 15 + 5 * qc.length := by
 unfold qcG qht
 simp only [List.length_append, zL, qna]
theorem qrm (l : List Int) (h : (Qs l).2.2.2.2.2.2.2.2 ≠ 0) : Qs l = (0, 0, 0, 0, 0, 0, 0, [], 4) := by
 unfold Qs qiA at h ⊢
 dsimp only at h ⊢
 split
 ·rename_i hc
  rw [if_pos hc] at h
  exact absurd rfl h
 ·rfl
def Z1 (b : LF) : Int := ((b.map fun x => 3 + x.2.length).sum : Nat)
def qdy (r : (Int × Int × Int × (Int × Int) × Bool × LF)) : Int := 23 + Z1 r.2.2.2.2.2
def qbJ : LR → Int
 | [] => 0
 | r :: l => qdy r + qbJ l
def qd6 (qk qx inc lo hi seq qo qP qD qb : Int) (qc : LR) : Int :=
 if !q0 qk qx inc lo hi seq qo qP qD qb qc then 0 else 22 + (if qy qk 0 then 5 else 0) + (if qy qk 1 then 5 else 0) + qbJ qc
def qc5 : LR → Bool
 | [] => true
 | r :: l => if decide (r.2.1 > 4294967295) then false else qc5 l
def qbG (qk qx inc lo hi seq qo qP qD qb : Int) (qc : LR) : Bool :=
 if !q0 qk qx inc lo hi seq qo qP qD qb qc || (qk == 9 || (qD != 0 || decide (qd6 qk qx inc lo hi seq qo qP qD qb qc > 65499))) then false else qc5 qc
def qg0 (b : LF) : Bool := qca b && zx b
def qoz (t : Int) : Bool := decide (0 ≤ t) && decide (t ≤ 255)
def qfE : Den.Sum := ⟨[.dat tQr true], fun qK qn κ => match qK, qn with
 | [.agg [.d (.int .i64) rid, .d (.int .i64) zE, .d (.int .i64) rst, .d (.int .i64) rlo, .d (.int .i64) rhi, .d .bool zG, .d (.sl (.pair (.int .i64) (.sl (.int .u8)))) zw]], [] => if qg0 zw = true then κ [.d (.int .i64) (qdy (rid, zE, rst, (rlo, rhi), zG, zw))] [] else none
 | _, _ => none⟩
def qda : Den.Sum := ⟨[.dat (.pair tQi (.pair tQi (.pair tQi (.pair (.pair tQi tQi) (.pair tQi (.pair tQi (.pair tQi (.pair tQi (.pair tQi (.sl tQr)))))))))) true], fun qK qn κ => match qK, qn with
 | [.agg [.d (.int .i64) qL, .d (.int .i64) qA, .d (.int .i64) qT, .d (.int .i64) mlo, .d (.int .i64) mhi, .d (.int .i64) qW, .d (.int .i64) qt, .d (.int .i64) qN, .d (.int .i64) qC, .d (.int .i64) qM, .d (.sl (.pair (.int .i64) (.pair (.int .i64) (.pair (.int .i64) (.pair (.pair (.int .i64) (.int .i64)) (.pair .bool (.sl (.pair (.int .i64) (.sl (.int .u8)))))))))) qB]], [] => if q9 qB = true then κ [.d (.int .i64) (qd6 qL qA qT mlo mhi qW qt qN qC qM qB)] [] else none
 | _, _ => none⟩
def qde : Den.Sum := ⟨[.dat (.pair tQi (.pair tQi (.pair tQi (.pair (.pair tQi tQi) (.pair tQi (.pair tQi (.pair tQi (.pair tQi (.pair tQi (.sl tQr)))))))))) true], fun qK qn κ => match qK, qn with
 | [.agg [.d (.int .i64) qL, .d (.int .i64) qA, .d (.int .i64) qT, .d (.int .i64) mlo, .d (.int .i64) mhi, .d (.int .i64) qW, .d (.int .i64) qt, .d (.int .i64) qN, .d (.int .i64) qC, .d (.int .i64) qM, .d (.sl (.pair (.int .i64) (.pair (.int .i64) (.pair (.int .i64) (.pair (.pair (.int .i64) (.int .i64)) (.pair .bool (.sl (.pair (.int .i64) (.sl (.int .u8)))))))))) qB]], [] => if q9 qB = true then κ [.d .bool (qbG qL qA qT mlo mhi qW qt qN qC qM qB)] [] else none
 | _, _ => none⟩
def qd8 : Den.Sum := ⟨[.raw, .raw, .raw], fun qK qn κ => match qK, qn with
 | [.d (.int .i64) t, .d (.int .i64) n, .d (.int .i64) v], [] => if Qd n v = true then κ [.agg [.d (.int .i64) t, .d (.sl (.int .u8)) (be n.toNat v)]] [] else none
 | _, _ => none⟩
def qjY : Env := ⟨th, gam [], fun i => if i = 3 then ⟨[3, 7, 8, 9], [], []⟩ else ⟨[], [], []⟩⟩
def Qt.k (rs : List AV) (os : List Den.Obj) : Option Int :=
 match rs, os with
 | [.d (.int .i64) r0], [] => some r0
 | _, _ => none
def Qt.s3 (rid zE rst rlo rhi : Int) (zG : Bool) (zw : LF) (x0 x1 x2 : Int) : St := ⟨[dD, dD, dD, .d tQi x0, dD, dD, dD, .d (.sl (.pair tQi (.sl (.int .u8)))) (zw), .d tQi x1, .d tQi x2, dD, dD, dD, dD, dD, dD, dD, dD, dD, dD, .dead], ofL [], 0⟩
def Qt.p3 (qa : Nat) (rid zE rst rlo rhi : Int) (zG : Bool) (zw : LF) (k : Nat) := fun x0 x1 x2 => lp qjY qa Tryz.f128 [.raw] 0 Qt.k 3 [] k (Qt.s3 rid zE rst rlo rhi zG zw x0 x1 x2)
def Qt.b3 (rid zE rst rlo rhi : Int) (zG : Bool) (zw : LF) (A3 : Int → Int → Int → Option Int) (x0 x1 x2 : Int) : Option Int :=
 (if (decide (x2 < x1)) then (match (idx zw x2) with | none => none | some y3 => A3 (IntKind.wrap .i64 (x0 + (IntKind.wrap .i64 ((3 : Int) + ((((List.length y3.2)) : Nat) : Int))))) x1 (IntKind.wrap .i64 (x2 + (1 : Int)))) else some (x0))
def Qt.l3 (qa : Nat) (rid zE rst rlo rhi : Int) (zG : Bool) (zw : LF) : Nat → Int → Int → Int → Option Int
 | 0, _, _, _ => none
 | k + 1, x0, x1, x2 => Qt.b3 rid zE rst rlo rhi zG zw (Qt.l3 qa rid zE rst rlo rhi zG zw k) x0 x1 x2
def Qt.b (rid zE rst rlo rhi : Int) (zG : Bool) (zw : LF) (E3 : Int → Int → Int → Option Int) : Option Int :=
 E3 (23 : Int) ((((List.length zw)) : Nat) : Int) (0 : Int)
def Qt.f (qa : Nat) (rid zE rst rlo rhi : Int) (zG : Bool) (zw : LF) : Option Int := Qt.b rid zE rst rlo rhi zG zw (Qt.l3 qa rid zE rst rlo rhi zG zw qa)
theorem Qt.l3_eq (qa : Nat) (rid zE rst rlo rhi : Int) (zG : Bool) (zw : LF) : ∀ k : Nat, Qt.p3 qa rid zE rst rlo rhi zG zw k = Qt.l3 qa rid zE rst rlo rhi zG zw k
 | 0 => by kernel_rfl
 | k + 1 => by
  refine Eq.trans (b := Qt.b3 rid zE rst rlo rhi zG zw (Qt.p3 qa rid zE rst rlo rhi zG zw k)) (by kernel_rfl) ?_
  rw [Qt.l3_eq qa rid zE rst rlo rhi zG zw k]
  kernel_rfl
theorem Qt.eq (qa : Nat) (rid zE rst rlo rhi : Int) (zG : Bool) (zw : LF) : (denF qjY loopN qa Tryz.f128 [.raw] [.agg [.d tQi rid, .d tQi zE, .d tQi rst, .d tQi rlo, .d tQi rhi, .d .bool zG, .d (.sl (.pair tQi (.sl (.int .u8)))) zw]] [] Qt.k) = Qt.f qa rid zE rst rlo rhi zG zw := by
 refine Eq.trans (b := Qt.b rid zE rst rlo rhi zG zw (Qt.p3 qa rid zE rst rlo rhi zG zw qa)) (by kernel_rfl) ?_
 rw [Qt.l3_eq qa rid zE rst rlo rhi zG zw qa]
 kernel_rfl
def qlM : Env := ⟨th, gam [(76, QK), (41, qah), (128, qfE)], fun i => if i = 9 then ⟨[3, 20, 21, 22], [], []⟩ else ⟨[], [], []⟩⟩
def QQ.k (rs : List AV) (os : List Den.Obj) : Option Int :=
 match rs, os with
 | [.d (.int .i64) r0], [] => some r0
 | _, _ => none
def QQ.s9 (qL qA qT mlo mhi qW qt qN qC qM : Int) (qB : LR) (x0 x1 x2 : Int) : St := ⟨[dD, dD, dD, .d tQi x0, dD, dD, dD, dD, dD, dD, dD, dD, dD, dD, dD, dD, dD, dD, dD, dD, .d (.sl tQr) (qB), .d tQi x1, .d tQi x2, dD, dD, dD, dD, dD, dD, dD, dD, .dead], ofL [], 0⟩
def QQ.p9 (qa : Nat) (qL qA qT mlo mhi qW qt qN qC qM : Int) (qB : LR) (k : Nat) := fun x0 x1 x2 => lp qlM qa Tryz.f114 [.raw] 0 QQ.k 9 [] k (QQ.s9 qL qA qT mlo mhi qW qt qN qC qM qB x0 x1 x2)
def QQ.b9 (qL qA qT mlo mhi qW qt qN qC qM : Int) (qB : LR) (A9 : Int → Int → Int → Option Int) (x0 x1 x2 : Int) : Option Int :=
 (if (decide (x2 < x1)) then (match (idx qB x2) with | none => none | some y3 => (if (qg0 y3.2.2.2.2.2) then A9 (IntKind.wrap .i64 (x0 + (qdy (y3.1, (y3.2.1, (y3.2.2.1, ((y3.2.2.2.1.1, y3.2.2.2.1.2), (y3.2.2.2.2.1, y3.2.2.2.2.2)))))))) x1 (IntKind.wrap .i64 (x2 + (1 : Int))) else none)) else some (x0))
def QQ.l9 (qa : Nat) (qL qA qT mlo mhi qW qt qN qC qM : Int) (qB : LR) : Nat → Int → Int → Int → Option Int
 | 0, _, _, _ => none
 | k + 1, x0, x1, x2 => QQ.b9 qL qA qT mlo mhi qW qt qN qC qM qB (QQ.l9 qa qL qA qT mlo mhi qW qt qN qC qM qB k) x0 x1 x2
def QQ.b (qL qA qT mlo mhi qW qt qN qC qM : Int) (qB : LR) (E9 : Int → Int → Int → Option Int) : Option Int :=
 (if (q9 qB) then (if (!(q0 qL qA qT mlo mhi qW qt qN qC qM qB)) then some ((0 : Int)) else (if (qy qL (0 : Int)) then (if (qy qL (1 : Int)) then E9 (IntKind.wrap .i64 ((IntKind.wrap .i64 ((22 : Int) + (5 : Int))) + (5 : Int))) ((((List.length qB)) : Nat) : Int) (0 : Int) else E9 (IntKind.wrap .i64 ((22 : Int) + (5 : Int))) ((((List.length qB)) : Nat) : Int) (0 : Int)) else (if (qy qL (1 : Int)) then E9 (IntKind.wrap .i64 ((22 : Int) + (5 : Int))) ((((List.length qB)) : Nat) : Int) (0 : Int) else E9 (22 : Int) ((((List.length qB)) : Nat) : Int) (0 : Int)))) else none)
def QQ.f (qa : Nat) (qL qA qT mlo mhi qW qt qN qC qM : Int) (qB : LR) : Option Int := QQ.b qL qA qT mlo mhi qW qt qN qC qM qB (QQ.l9 qa qL qA qT mlo mhi qW qt qN qC qM qB qa)
theorem QQ.l9_eq (qa : Nat) (qL qA qT mlo mhi qW qt qN qC qM : Int) (qB : LR) : ∀ k : Nat, QQ.p9 qa qL qA qT mlo mhi qW qt qN qC qM qB k = QQ.l9 qa qL qA qT mlo mhi qW qt qN qC qM qB k
 | 0 => by kernel_rfl
 | k + 1 => by
  refine Eq.trans (b := QQ.b9 qL qA qT mlo mhi qW qt qN qC qM qB (QQ.p9 qa qL qA qT mlo mhi qW qt qN qC qM qB k)) (by kernel_rfl) ?_
  rw [QQ.l9_eq qa qL qA qT mlo mhi qW qt qN qC qM qB k]
  kernel_rfl
theorem QQ.eq (qa : Nat) (qL qA qT mlo mhi qW qt qN qC qM : Int) (qB : LR) : (denF qlM loopN qa Tryz.f114 [.raw] [.agg [.d tQi qL, .d tQi qA, .d tQi qT, .d tQi mlo, .d tQi mhi, .d tQi qW, .d tQi qt, .d tQi qN, .d tQi qC, .d tQi qM, .d (.sl tQr) qB]] [] QQ.k) = QQ.f qa qL qA qT mlo mhi qW qt qN qC qM qB := by
 refine Eq.trans (b := QQ.b qL qA qT mlo mhi qW qt qN qC qM qB (QQ.p9 qa qL qA qT mlo mhi qW qt qN qC qM qB qa)) (by kernel_rfl) ?_
 rw [QQ.l9_eq qa qL qA qT mlo mhi qW qt qN qC qM qB qa]
 kernel_rfl
def qlO : Env := ⟨th, gam [(76, QK), (114, qda)], fun i => if i = 4 then ⟨[24, 25, 26], [], []⟩ else ⟨[], [], []⟩⟩
def QR.k (rs : List AV) (os : List Den.Obj) : Option Bool :=
 match rs, os with
 | [.d .bool r0], [] => some r0
 | _, _ => none
def QR.s4 (qL qA qT mlo mhi qW qt qN qC qM : Int) (qB : LR) (x0 x1 : Int) : St := ⟨[dD, dD, dD, dD, dD, dD, dD, dD, dD, dD, dD, dD, dD, dD, dD, dD, dD, dD, dD, dD, dD, dD, dD, dD, .d (.sl tQr) (qB), .d tQi x0, .d tQi x1, dD, dD, dD, dD, dD, dD, .dead], ofL [], 0⟩
def QR.p4 (qa : Nat) (qL qA qT mlo mhi qW qt qN qC qM : Int) (qB : LR) (k : Nat) := fun x0 x1 => lp qlO qa Tryz.f87 [.raw] 0 QR.k 4 [] k (QR.s4 qL qA qT mlo mhi qW qt qN qC qM qB x0 x1)
def QR.b4 (qL qA qT mlo mhi qW qt qN qC qM : Int) (qB : LR) (A4 : Int → Int → Option Bool) (x0 x1 : Int) : Option Bool :=
 (if (decide (x1 < x0)) then (match (idx qB x1) with | none => none | some y2 => (if (decide (y2.2.1 > (veil (4294967295 : Int)))) then some (false) else A4 x0 (IntKind.wrap .i64 (x1 + (1 : Int))))) else some (true))
def QR.l4 (qa : Nat) (qL qA qT mlo mhi qW qt qN qC qM : Int) (qB : LR) : Nat → Int → Int → Option Bool
 | 0, _, _ => none
 | k + 1, x0, x1 => QR.b4 qL qA qT mlo mhi qW qt qN qC qM qB (QR.l4 qa qL qA qT mlo mhi qW qt qN qC qM qB k) x0 x1
def QR.b (qL qA qT mlo mhi qW qt qN qC qM : Int) (qB : LR) (E4 : Int → Int → Option Bool) : Option Bool :=
 (if (q9 qB) then (if (!(q0 qL qA qT mlo mhi qW qt qN qC qM qB)) then some (false) else (if (qL == (9 : Int)) then some (false) else (if (qC != (0 : Int)) then some (false) else (if (q9 qB) then (if (decide ((qd6 qL qA qT mlo mhi qW qt qN qC qM qB) > (65499 : Int))) then some (false) else E4 ((((List.length qB)) : Nat) : Int) (0 : Int)) else none)))) else none)
def QR.f (qa : Nat) (qL qA qT mlo mhi qW qt qN qC qM : Int) (qB : LR) : Option Bool := QR.b qL qA qT mlo mhi qW qt qN qC qM qB (QR.l4 qa qL qA qT mlo mhi qW qt qN qC qM qB qa)
theorem QR.l4_eq (qa : Nat) (qL qA qT mlo mhi qW qt qN qC qM : Int) (qB : LR) : ∀ k : Nat, QR.p4 qa qL qA qT mlo mhi qW qt qN qC qM qB k = QR.l4 qa qL qA qT mlo mhi qW qt qN qC qM qB k
 | 0 => by kernel_rfl
 | k + 1 => by
  refine Eq.trans (b := QR.b4 qL qA qT mlo mhi qW qt qN qC qM qB (QR.p4 qa qL qA qT mlo mhi qW qt qN qC qM qB k)) (by kernel_rfl) ?_
  rw [QR.l4_eq qa qL qA qT mlo mhi qW qt qN qC qM qB k]
  kernel_rfl
theorem QR.eq (qa : Nat) (qL qA qT mlo mhi qW qt qN qC qM : Int) (qB : LR) : (denF qlO loopN qa Tryz.f87 [.raw] [.agg [.d tQi qL, .d tQi qA, .d tQi qT, .d tQi mlo, .d tQi mhi, .d tQi qW, .d tQi qt, .d tQi qN, .d tQi qC, .d tQi qM, .d (.sl tQr) qB]] [] QR.k) = QR.f qa qL qA qT mlo mhi qW qt qN qC qM qB := by
 refine Eq.trans (b := QR.b qL qA qT mlo mhi qW qt qN qC qM qB (QR.p4 qa qL qA qT mlo mhi qW qt qN qC qM qB qa)) (by kernel_rfl) ?_
 rw [QR.l4_eq qa qL qA qT mlo mhi qW qt qN qC qM qB qa]
 kernel_rfl
def qqw : Env := ⟨th, gam [(78, qcc), (79, qdd), (82, qcf)], fun i => ⟨[], [], []⟩⟩
def qet.k (rs : List AV) (os : List Den.Obj) : Option (Int × (List Int)) :=
 match rs, os with
 | [.agg [.d (.int .i64) r0, .d (.sl (.int .u8)) r1]], [] => some (r0, r1)
 | _, _ => none
def qet.b (t n v : Int) : Option (Int × (List Int)) :=
 (if (Qd n v) then (if (Zi (be (Int.toNat n) v)) then some (t, (be (Int.toNat n) v)) else none) else none)
def qet.f (qa : Nat) (t n v : Int) : Option (Int × (List Int)) := qet.b t n v
theorem qet.eq (qa : Nat) (t n v : Int) : (denF qqw loopN qa Tryz.f88 [.dat (.pair tQi (.sl (.int .u8))) true] [.d tQi t, .d tQi n, .d tQi v] [] qet.k) = qet.f qa t n v := by
 kernel_rfl
theorem qgx (x : Int × List Int) (b : LF) : Z1 (x :: b) = 3 + (x.2.length : Int) + Z1 b := by
 unfold Z1; simp
theorem qhZ (b : LF) : 0 ≤ Z1 b := by unfold Z1; omega
theorem qmk : ∀ (l : LF) (qi size : Int), size ≤ 4096 → qge l qi size = true → size + Z1 l ≤ 4096 + 3 * (l.length : Int)
 | [], qi, size, h0, h => by simp [Z1]; omega
 | x :: l, qi, size, h0, h => by
  unfold qge at h
  split at h
  ·cases h
  ·split at h
   ·cases h
   ·rename_i h1 h2
    simp at h2
    have ih := qmk l x.1 (size + (x.2.length : Int)) h2 h
    rw [qgx]
    simp
    omega
theorem Ze {b : LF} (h : qca b = true) : b.length ≤ 32 ∧ 0 ≤ Z1 b ∧ Z1 b ≤ 4192 := by
 unfold qca at h
 split at h
 ·cases h
 ·rename_i h1
  simp at h1
  have := qmk b 32 0 (by omega) h
  have := qhZ b
  omega
theorem qk7 (b : LF) : qg0 b = true ↔ qca b = true ∧ zx b = true := by unfold qg0; simp
theorem Qt.loop (qa : Nat) (id inc st lo hi : Int) (cut : Bool) (bag : LF) (hb : bag.length ≤ 32) : ∀ (k i : Nat) (n : Int), i ≤ bag.length → bag.length - i < k → 0 ≤ n → n + Z1 (bag.drop i) < 1000000 →
  Qt.l3 qa id inc st lo hi cut bag k n (bag.length : Int) (i : Int) = some (n + Z1 (bag.drop i)) := by
 intro k
 induction k with
 | zero => intro i n h1 h2; omega
 | succ k ih =>
  intro i n h1 h2 h3 h4
  rw [Qt.l3]
  unfold Qt.b3
  by_cases hi' : i < bag.length
  ·rw [if_pos (by simp; omega), Qn, List.getElem?_eq_getElem hi']
   dsimp only
   rw [List.drop_eq_getElem_cons hi', qgx] at h4 ⊢
   have hn := qhZ (bag.drop (i + 1))
   rw [qX (3 + _) (by omega) (by omega), qX (n + _) (by omega) (by omega), qX ((i : Int) + 1) (by omega) (by omega)]
   have := ih (i + 1) (n + (3 + (bag[i].2.length : Int))) (by omega) (by omega) (by omega) (by omega)
   rw [show ((i + 1 : Nat) : Int) = (i : Int) + 1 from by omega] at this
   rw [this]
   congr 1
   omega
  ·rw [if_neg (by simp; omega), List.drop_of_length_le (by omega)]
   simp [Z1]
theorem Qt.pure (id inc st lo hi : Int) (cut : Bool) (bag : LF) (hl : qg0 bag = true) :
  Qt.f (bag.length + 1) id inc st lo hi cut bag = some (qdy (id, inc, st, (lo, hi), cut, bag)) := by
 obtain ⟨h1, h2⟩ := (qk7 bag).1 hl
 obtain ⟨b1, b2, b3⟩ := Ze h1
 unfold Qt.f Qt.b
 have := Qt.loop (bag.length + 1) id inc st lo hi cut bag b1 (bag.length + 1) 0 23 (by omega) (by omega) (by omega) (by rw [List.drop_zero]; omega)
 rw [List.drop_zero] at this
 exact this
theorem qlz (r : Int × Int × Int × (Int × Int) × Bool × LF) : (r.1, r.2.1, r.2.2.1, (r.2.2.2.1.1, r.2.2.2.1.2), r.2.2.2.2.1, r.2.2.2.2.2) = r := rfl
theorem ql6 {r : Int × Int × Int × (Int × Int) × Bool × LF} (h : zA r = true) : 23 ≤ qdy r ∧ qdy r ≤ 4215 := by
 obtain ⟨_, _, _, _, _, _, _, f8, _⟩ := zH h
 have := Ze f8
 unfold qdy
 omega
theorem qhi : ∀ (l : LR), (∀ r ∈ l, zA r = true) → 0 ≤ qbJ l ∧ qbJ l ≤ 4215 * (l.length : Int)
 | [], h => by simp [qbJ]
 | r :: l, h => by
  have h1 := ql6 (h r (by simp))
  have h2 := qhi l (fun r hr => h r (by simp [hr]))
  simp [qbJ]
  omega
theorem QQ.loop (qa : Nat) (qk qx inc lo hi seq qo qP qD qb : Int) (qc : LR) (hr : ∀ r ∈ qc, zA r = true ∧ zx r.2.2.2.2.2 = true) (hlen : qc.length ≤ 255) : ∀ (k i : Nat) (n : Int), i ≤ qc.length → qc.length - i < k → 0 ≤ n → n + qbJ (qc.drop i) < 2000000 →
  QQ.l9 qa qk qx inc lo hi seq qo qP qD qb qc k n (qc.length : Int) (i : Int) = some (n + qbJ (qc.drop i)) := by
 intro k
 induction k with
 | zero => intro i n h1 h2; omega
 | succ k ih =>
  intro i n h1 h2 h3 h4
  rw [QQ.l9]
  unfold QQ.b9
  by_cases hi' : i < qc.length
  ·rw [if_pos (by simp; omega), Qn, List.getElem?_eq_getElem hi']
   dsimp only
   rw [List.drop_eq_getElem_cons hi'] at h4 ⊢
   have hn := qhi (qc.drop (i + 1)) (fun r hm => (hr r (List.mem_of_mem_drop hm)).1)
   obtain ⟨hok, hs⟩ := hr qc[i] (List.getElem_mem hi')
   have hfit : qg0 qc[i].2.2.2.2.2 = true := (qk7 _).2 ⟨(zH hok).2.2.2.2.2.2.2.1, hs⟩
   have hq := ql6 hok
   simp only [qbJ] at h4 ⊢
   rw [qlz, if_pos hfit, qX (n + _) (by omega) (by omega), qX ((i : Int) + 1) (by omega) (by omega)]
   have := ih (i + 1) (n + qdy qc[i]) (by omega) (by omega) (by omega) (by omega)
   rw [show ((i + 1 : Nat) : Int) = (i : Int) + 1 from by omega] at this
   rw [this]
   congr 1
   omega
  ·rw [if_neg (by simp; omega), List.drop_of_length_le (by omega)]
   simp [qbJ]
theorem QQ.pure (qk qx inc lo hi seq qo qP qD qb : Int) (qc : LR) (hl : q9 qc = true) :
  QQ.f (qc.length + 1) qk qx inc lo hi seq qo qP qD qb qc = some (qd6 qk qx inc lo hi seq qo qP qD qb qc) := by
 unfold QQ.f QQ.b qd6
 rw [if_pos hl]
 cases hv : q0 qk qx inc lo hi seq qo qP qD qb qc
 ·rfl
 obtain ⟨v1, v2, v3, v4, v5, v6, v7, v8, v9, v10, v11, _, v12, v13⟩ := Ql hv
 have hs := ((Zo qc).1 hl).2
 have hn := qhi qc v13
 have hlp := fun n h0 h1 => QQ.loop (qc.length + 1) qk qx inc lo hi seq qo qP qD qb qc (fun r hr => ⟨v13 r hr, hs r hr⟩) v12 (qc.length + 1) 0 n (by omega) (by omega) h0 h1
 simp only [List.drop_zero] at hlp
 have w1 : IntKind.wrap .i64 (22 + 5) = 27 := rfl
 have w2 : IntKind.wrap .i64 (27 + 5) = 32 := rfl
 have hz : ((0 : Nat) : Int) = 0 := rfl
 rw [hz] at hlp
 simp only [w1, w2, hlp 22 (by omega) (by omega), hlp 27 (by omega) (by omega), hlp 32 (by omega) (by omega)]
 cases qy qk 0 <;> cases qy qk 1 <;> simp
theorem QR.loop (qa : Nat) (qk qx inc lo hi seq qo qP qD qb : Int) (qc : LR) (hlen : qc.length < 281474976710656) : ∀ (k i : Nat), i ≤ qc.length → qc.length - i < k →
  QR.l4 qa qk qx inc lo hi seq qo qP qD qb qc k (qc.length : Int) (i : Int) = some (qc5 (qc.drop i)) := by
 intro k
 induction k with
 | zero => intro i h1 h2; omega
 | succ k ih =>
  intro i h1 h2
  rw [QR.l4]
  unfold QR.b4
  by_cases hi' : i < qc.length
  ·rw [if_pos (by simp; omega), Qn, List.getElem?_eq_getElem hi', veil_eq]
   dsimp only
   rw [List.drop_eq_getElem_cons hi', qc5]
   have := ih (i + 1) (by omega) (by omega)
   rw [show ((i + 1 : Nat) : Int) = (i : Int) + 1 from by omega] at this
   rw [qX ((i : Int) + 1) (by omega) (by omega), this]
   split <;> rfl
  ·rw [if_neg (by simp; omega), List.drop_of_length_le (by omega)]
   rfl
theorem QR.pure (qk qx inc lo hi seq qo qP qD qb : Int) (qc : LR) (hl : q9 qc = true) :
  QR.f (qc.length + 1) qk qx inc lo hi seq qo qP qD qb qc = some (qbG qk qx inc lo hi seq qo qP qD qb qc) := by
 unfold QR.f QR.b qbG
 have := QR.loop (qc.length + 1) qk qx inc lo hi seq qo qP qD qb qc ((Zo qc).1 hl).1 (qc.length + 1) 0 (by omega) (by omega)
 rw [show ((0 : Nat) : Int) = 0 from rfl, List.drop_zero] at this
 rw [if_pos hl, this]
 cases q0 qk qx inc lo hi seq qo qP qD qb qc <;> cases (qk == 9) <;> cases (qD != 0) <;> cases (decide (qd6 qk qx inc lo hi seq qo qP qD qb qc > 65499)) <;> simp [hl]
theorem qpA (t : Int) : qoz t = true ↔ 0 ≤ t ∧ t ≤ 255 := by unfold qoz; simp
theorem qet.pure (t n v : Int) (hf : Qd n v = true) : qet.f 0 t n v = some (t, be n.toNat v) := by
 unfold qet.f qet.b
 have hr : Zi (be n.toNat v) = true := qbA (by rw [zL]; have := (qbS n v).1 hf; omega)
 rw [if_pos hf, if_pos hr]
theorem qoK : SumDet qfE := zj fun _ _ _ _ => by
 unfold qfE
 simp only
 split
 ·first | rfl | (split <;> rfl)
 ·rfl
theorem qpL : SumOk Tryz.prog 128 qfE := by
 have hE : EnvOk Tryz.prog qjY := env_ok (l := []) th_ok qZ trivial _
 refine sum_ok hE Tryz.func128 rfl (by kernel_rfl) qfE [.raw] Qt.k ?_
 intro R avs qn κ r h
 unfold qfE at h
 simp only at h
 split at h
 ·rename_i rid zE rst rlo rhi zG zw
  split at h
  case isFalse => cases h
  rename_i hl
  refine ⟨zw.length + 1, _, _, _, (Qt.eq (zw.length + 1) rid zE rst rlo rhi zG zw).trans (Qt.pure rid zE rst rlo rhi zG zw hl), ?_, h⟩
  intro rs ros hk
  unfold Qt.k at hk
  split at hk
  ·first | (cases hk; exact ⟨rfl, rfl⟩) | (rw [← Option.some.inj hk]; exact ⟨rfl, rfl⟩)
  ·cases hk
 ·cases h
theorem qi9 : SumDet qda := zj fun _ _ _ _ => by
 unfold qda
 simp only
 split
 ·first | rfl | (split <;> rfl)
 ·rfl
theorem qkk : SumOk Tryz.prog 114 qda := by
 have hE : EnvOk Tryz.prog qlM := env_ok (l := [(76, QK), (41, qah), (128, qfE)]) th_ok qZ ⟨⟨qat, qad⟩, ⟨qb0, qbl⟩, ⟨qpL, qoK⟩, trivial⟩ _
 refine sum_ok hE Tryz.func114 rfl (by kernel_rfl) qda [.raw] QQ.k ?_
 intro R avs qn κ r h
 unfold qda at h
 simp only at h
 split at h
 ·rename_i qL qA qT mlo mhi qW qt qN qC qM qB
  split at h
  case isFalse => cases h
  rename_i hl
  refine ⟨qB.length + 1, _, _, _, (QQ.eq (qB.length + 1) qL qA qT mlo mhi qW qt qN qC qM qB).trans (QQ.pure qL qA qT mlo mhi qW qt qN qC qM qB hl), ?_, h⟩
  intro rs ros hk
  unfold QQ.k at hk
  split at hk
  ·first | (cases hk; exact ⟨rfl, rfl⟩) | (rw [← Option.some.inj hk]; exact ⟨rfl, rfl⟩)
  ·cases hk
 ·cases h
theorem qjd : SumDet qde := zj fun _ _ _ _ => by
 unfold qde
 simp only
 split
 ·first | rfl | (split <;> rfl)
 ·rfl
theorem qkw : SumOk Tryz.prog 87 qde := by
 have hE : EnvOk Tryz.prog qlO := env_ok (l := [(76, QK), (114, qda)]) th_ok qZ ⟨⟨qat, qad⟩, ⟨qkk, qi9⟩, trivial⟩ _
 refine sum_ok hE Tryz.func87 rfl (by kernel_rfl) qde [.raw] QR.k ?_
 intro R avs qn κ r h
 unfold qde at h
 simp only at h
 split at h
 ·rename_i qL qA qT mlo mhi qW qt qN qC qM qB
  split at h
  case isFalse => cases h
  rename_i hl
  refine ⟨qB.length + 1, _, _, _, (QR.eq (qB.length + 1) qL qA qT mlo mhi qW qt qN qC qM qB).trans (QR.pure qL qA qT mlo mhi qW qt qN qC qM qB hl), ?_, h⟩
  intro rs ros hk
  unfold QR.k at hk
  split at hk
  ·first | (cases hk; exact ⟨rfl, rfl⟩) | (rw [← Option.some.inj hk]; exact ⟨rfl, rfl⟩)
  ·cases hk
 ·cases h
theorem qkh : SumDet qd8 := zj fun _ _ _ _ => by
 unfold qd8
 simp only
 split
 ·first | rfl | (split <;> rfl)
 ·rfl
theorem qlX : SumOk Tryz.prog 88 qd8 := by
 have hE : EnvOk Tryz.prog qqw := env_ok (l := [(78, qcc), (79, qdd), (82, qcf)]) th_ok qZ ⟨⟨qg7, qgh⟩, ⟨qhb, qf4⟩, ⟨qhg, qgm⟩, trivial⟩ _
 refine sum_ok hE Tryz.func88 rfl (by kernel_rfl) qd8 [.dat (.pair tQi (.sl (.int .u8))) true] qet.k ?_
 intro R avs qn κ r h
 unfold qd8 at h
 simp only at h
 split at h
 ·rename_i t n v
  split at h
  case isFalse => cases h
  rename_i hl
  refine ⟨0, _, _, _, (qet.eq (0) t n v).trans (qet.pure t n v hl), ?_, h⟩
  intro rs ros hk
  unfold qet.k at hk
  split at hk
  ·first | (cases hk; exact ⟨rfl, rfl⟩) | (rw [← Option.some.inj hk]; exact ⟨rfl, rfl⟩)
  ·cases hk
 ·cases h
def Qj (x : (Int × List Int)) : List Int := x.1 :: ((x.2.length / 256 : Nat) : Int) :: ((x.2.length % 256 : Nat) : Int) :: x.2
def itB (t n v : Int) : List Int := t :: 0 :: n :: be n.toNat v
def qeq (r : (Int × Int × Int × (Int × Int) × Bool × LF)) : Int := if r.2.2.2.2.1 then r.2.2.1 + 128 else r.2.2.1
def Za (r : (Int × Int × Int × (Int × Int) × Bool × LF)) : List Int := itB 1 2 r.1 ++ (itB 2 4 r.2.1 ++ (itB 3 1 (qeq r) ++ (itB 4 1 (r.2.2.2.1.1 * 16 + r.2.2.2.1.2) ++ r.2.2.2.2.2.flatMap Qj)))
def qee (r : (Int × Int × Int × (Int × Int) × Bool × LF)) : List Int := Qj (7, Za r)
def qaj (qk qx inc lo hi seq qo : Int) (qc : LR) : List Int :=
 itB 1 1 qk ++ (itB 2 2 qx ++ (itB 3 6 inc ++ (itB 4 1 (lo * 16 + hi) ++ ((if qy qk 0 then itB 5 2 seq else []) ++ ((if qy qk 1 then itB 6 2 qo else []) ++ qc.flatMap qee)))))
def qkH (r : (Int × Int × Int × (Int × Int) × Bool × LF)) : Bool := zA r && zx r.2.2.2.2.2
def qfx (r : (Int × Int × Int × (Int × Int) × Bool × LF)) : Bool := qkH r && decide (r.2.1 ≤ 4294967295)
def qbp (r : (Int × Int × Int × (Int × Int) × Bool × LF)) : LF := [(1, be 2 r.1), (2, be 4 r.2.1), (3, be 1 (qeq r)), (4, be 1 (r.2.2.2.1.1 * 16 + r.2.2.2.1.2))] ++ r.2.2.2.2.2
def qk0 (qk qx inc lo hi seq qo qP qD qb : Int) (qc : LR) : Bool :=
 if !q0 qk qx inc lo hi seq qo qP qD qb qc || (qk == 9 || (qP != 0 || (qD != 0 || qb != 0))) then false else if !qc5 qc then false else decide (((qaj qk qx inc lo hi seq qo qc).length : Int) ≤ 65499)
def qfT (l : LF) : Bool := decide (l.length ≤ 300) && l.all fun x => qoz x.1 && decide (x.2.length ≤ 65535)
def qeo (qk qx inc lo hi seq qo qP qD qb : Int) (qc : LR) : List Int × Int :=
 if !q0 qk qx inc lo hi seq qo qP qD qb qc then ([], 1) else if !qbG qk qx inc lo hi seq qo qP qD qb qc then ([], 14) else (qaj qk qx inc lo hi seq qo qc, 0)
def qcS : Den.Sum := ⟨[.dat tQr true], fun qK qn κ => match qK, qn with
 | [.agg [.d (.int .i64) rid, .d (.int .i64) zE, .d (.int .i64) rst, .d (.int .i64) rlo, .d (.int .i64) rhi, .d .bool zG, .d (.sl (.pair (.int .i64) (.sl (.int .u8)))) zw]], [] => if qfx (rid, zE, rst, (rlo, rhi), zG, zw) = true then κ [.d (.sl (.pair (.int .i64) (.sl (.int .u8)))) (qbp (rid, zE, rst, (rlo, rhi), zG, zw))] [] else none
 | _, _ => none⟩
def qfJ : Den.Sum := ⟨[.dat (.sl (.pair tQi (.sl (.int .u8)))) false], fun qK qn κ => match qK, qn with
 | [.d (.sl (.pair (.int .i64) (.sl (.int .u8)))) l], [] => if qfT l = true then κ [.d (.sl (.int .u8)) (l.flatMap Qj), .d (.int .i64) 0] [] else none
 | _, _ => none⟩
def qfM : Den.Sum := ⟨[.dat (.pair tQi (.pair tQi (.pair tQi (.pair (.pair tQi tQi) (.pair tQi (.pair tQi (.pair tQi (.pair tQi (.pair tQi (.sl tQr)))))))))) true], fun qK qn κ => match qK, qn with
 | [.agg [.d (.int .i64) qL, .d (.int .i64) qA, .d (.int .i64) qT, .d (.int .i64) mlo, .d (.int .i64) mhi, .d (.int .i64) qW, .d (.int .i64) qt, .d (.int .i64) qN, .d (.int .i64) qC, .d (.int .i64) qM, .d (.sl (.pair (.int .i64) (.pair (.int .i64) (.pair (.int .i64) (.pair (.pair (.int .i64) (.int .i64)) (.pair .bool (.sl (.pair (.int .i64) (.sl (.int .u8)))))))))) qB]], [] => if q9 qB = true then κ [.d (.sl (.int .u8)) (qeo qL qA qT mlo mhi qW qt qN qC qM qB).1, .d (.int .i64) (qeo qL qA qT mlo mhi qW qt qN qC qM qB).2] [] else none
 | _, _ => none⟩
def qml : Env := ⟨th, gam [(88, qd8), (80, qaT)], fun i => ⟨[], [], []⟩⟩
def qa0.k (rs : List AV) (os : List Den.Obj) : Option LF :=
 match rs, os with
 | [.d (.sl (.pair (.int .i64) (.sl (.int .u8)))) r0], [] => some r0
 | _, _ => none
def qa0.b (rid zE rst rlo rhi : Int) (zG : Bool) (zw : LF) : Option LF :=
 (if zG then (if (Qd (2 : Int) rid) then (if (Qd (4 : Int) zE) then (if (Qd (1 : Int) (IntKind.wrap .i64 (rst + (128 : Int)))) then (if (Qd (1 : Int) (Qr rlo rhi)) then (if ((((List.length (((1 : Int), (be (Int.toNat (2 : Int)) rid)) :: (((2 : Int), (be (Int.toNat (4 : Int)) zE)) :: (((3 : Int), (be (Int.toNat (1 : Int)) (IntKind.wrap .i64 (rst + (128 : Int))))) :: (((4 : Int), (be (Int.toNat (1 : Int)) (Qr rlo rhi))) :: ([] : LF)))))) + (List.length zw)) * (32 : Nat)) ≤ lim) then some (((((1 : Int), (be (Int.toNat (2 : Int)) rid)) :: (((2 : Int), (be (Int.toNat (4 : Int)) zE)) :: (((3 : Int), (be (Int.toNat (1 : Int)) (IntKind.wrap .i64 (rst + (128 : Int))))) :: (((4 : Int), (be (Int.toNat (1 : Int)) (Qr rlo rhi))) :: ([] : LF))))) ++ zw)) else none) else none) else none) else none) else none) else (if (Qd (2 : Int) rid) then (if (Qd (4 : Int) zE) then (if (Qd (1 : Int) rst) then (if (Qd (1 : Int) (Qr rlo rhi)) then (if ((((List.length (((1 : Int), (be (Int.toNat (2 : Int)) rid)) :: (((2 : Int), (be (Int.toNat (4 : Int)) zE)) :: (((3 : Int), (be (Int.toNat (1 : Int)) rst)) :: (((4 : Int), (be (Int.toNat (1 : Int)) (Qr rlo rhi))) :: ([] : LF)))))) + (List.length zw)) * (32 : Nat)) ≤ lim) then some (((((1 : Int), (be (Int.toNat (2 : Int)) rid)) :: (((2 : Int), (be (Int.toNat (4 : Int)) zE)) :: (((3 : Int), (be (Int.toNat (1 : Int)) rst)) :: (((4 : Int), (be (Int.toNat (1 : Int)) (Qr rlo rhi))) :: ([] : LF))))) ++ zw)) else none) else none) else none) else none) else none))
def qa0.f (qa : Nat) (rid zE rst rlo rhi : Int) (zG : Bool) (zw : LF) : Option LF := qa0.b rid zE rst rlo rhi zG zw
theorem qa0.eq (qa : Nat) (rid zE rst rlo rhi : Int) (zG : Bool) (zw : LF) : (denF qml loopN qa Tryz.f90 [.dat (.sl (.pair tQi (.sl (.int .u8)))) false] [.agg [.d tQi rid, .d tQi zE, .d tQi rst, .d tQi rlo, .d tQi rhi, .d .bool zG, .d (.sl (.pair tQi (.sl (.int .u8)))) zw]] [] qa0.k) = qa0.f qa rid zE rst rlo rhi zG zw := by
 kernel_rfl
def qle : Env := ⟨th, gam [], fun i => if i = 3 then ⟨[4, 8, 9, 10], [(4, 5, (.int .u8))], []⟩ else if i = 11 then ⟨[4, 6, 8, 9, 10, 32], [], []⟩ else ⟨[], [], []⟩⟩
def Qa.k (rs : List AV) (os : List Den.Obj) : Option ((List Int) × Int) :=
 match rs, os with
 | [.d (.sl (.int .u8)) r0, .d (.int .i64) r1], [] => some (r0, r1)
 | _, _ => none
def Qa.s11 (l : LF) (x4 x5 x6 : Int) (x7 : (List Int)) (x8 : Int) (x9 : (List Int)) : St := ⟨[dD, dD, dD, dD, .row 64, .dead, .ptr 65 0, .dead, .d (.sl (.pair tQi (.sl (.int .u8)))) (l), .d tQi x4, .d tQi x5, dD, dD, dD, dD, dD, dD, dD, dD, dD, dD, dD, dD, dD, dD, dD, dD, dD, dD, dD, dD, dD, .d tQi x6, dD, dD, dD, dD, dD, dD, dD, dD, dD, dD, dD, dD, dD, dD, dD, dD, dD, dD, dD, .dead], ofL [(64, .row 5 (.int .u8) x7 false), (65, .box [.d tQi x8, .d (.sl (.int .u8)) x9])], 0⟩
def Qa.p11 (qa : Nat) (l : LF) (k3 k : Nat) := fun x4 x5 x6 x7 x8 x9 => lp qle qa Tryz.f89 [.dat (.sl (.int .u8)) false, .raw] 0 Qa.k 11 [k3] k (Qa.s11 l x4 x5 x6 x7 x8 x9)
def Qa.b11 (l : LF) (A3 : Int → Int → (List Int) → Option ((List Int) × Int)) (A11 : Int → Int → Int → (List Int) → Int → (List Int) → Option ((List Int) × Int)) (x4 : Int) (x5 : Int) (x6 : Int) (x7 : (List Int)) (x8 : Int) (x9 : (List Int)) : Option ((List Int) × Int) :=
 (if (decide (x6 < (2 : Int))) then (if ((IntKind.wrap .i64 ((8 : Int) - (IntKind.wrap .i64 ((8 : Int) * x6)))) < (0 : Int)) then none else (if ((((List.length x7) + (List.length ((IntKind.wrap .u8 (Int.fdiv ((((List.length x9)) : Nat) : Int) ((2 : Int) ^ (Min.min (Int.toNat (IntKind.wrap .i64 ((8 : Int) - (IntKind.wrap .i64 ((8 : Int) * x6))))) (IntKind.bits .i64))))) :: ([] : List Int)))) * (1 : Nat)) ≤ lim) then A11 x4 x5 (IntKind.wrap .i64 (x6 + (1 : Int))) (x7 ++ ((IntKind.wrap .u8 (Int.fdiv ((((List.length x9)) : Nat) : Int) ((2 : Int) ^ (Min.min (Int.toNat (IntKind.wrap .i64 ((8 : Int) - (IntKind.wrap .i64 ((8 : Int) * x6))))) (IntKind.bits .i64))))) :: ([] : List Int))) x8 x9 else none)) else (if ((((List.length x7) + (List.length x9)) * (1 : Nat)) ≤ lim) then A3 x4 (IntKind.wrap .i64 (x5 + (1 : Int))) (x7 ++ x9) else none))
def Qa.l11 (qa : Nat) (l : LF) (A3 : Int → Int → (List Int) → Option ((List Int) × Int)) : Nat → Int → Int → Int → (List Int) → Int → (List Int) → Option ((List Int) × Int)
 | 0, _, _, _, _, _, _ => none
 | k + 1, x4, x5, x6, x7, x8, x9 => Qa.b11 l A3 (Qa.l11 qa l A3 k) x4 x5 x6 x7 x8 x9
def Qa.s3 (l : LF) (x0 x1 : Int) (x2 : (List Int)) : St := ⟨[dD, dD, dD, dD, .row 64, dD, dD, dD, .d (.sl (.pair tQi (.sl (.int .u8)))) (l), .d tQi x0, .d tQi x1, dD, dD, dD, dD, dD, dD, dD, dD, dD, dD, dD, dD, dD, dD, dD, dD, dD, dD, dD, dD, dD, dD, dD, dD, dD, dD, dD, dD, dD, dD, dD, dD, dD, dD, dD, dD, dD, dD, dD, dD, dD, .dead], ofL [(64, .row 5 (.int .u8) x2 false)], 0⟩
def Qa.p3 (qa : Nat) (l : LF) (k : Nat) := fun x0 x1 x2 => lp qle qa Tryz.f89 [.dat (.sl (.int .u8)) false, .raw] 0 Qa.k 3 [] k (Qa.s3 l x0 x1 x2)
def Qa.b3 (l : LF) (A3 : Int → Int → (List Int) → Option ((List Int) × Int)) (E11 : Int → Int → Int → (List Int) → Int → (List Int) → Option ((List Int) × Int)) (x0 : Int) (x1 : Int) (x2 : (List Int)) : Option ((List Int) × Int) :=
 (if (decide (x1 < x0)) then (match (idx l x1) with | none => none | some y3 => (if (decide (y3.1 < (0 : Int))) then some (([] : List Int), (5 : Int)) else (if (decide (y3.1 > (255 : Int))) then some (([] : List Int), (5 : Int)) else (if (decide (((((List.length y3.2)) : Nat) : Int) > (65535 : Int))) then some (([] : List Int), (3 : Int)) else (if ((((List.length x2) + (List.length ((IntKind.wrap .u8 y3.1) :: ([] : List Int)))) * (1 : Nat)) ≤ lim) then E11 x0 x1 (0 : Int) (x2 ++ ((IntKind.wrap .u8 y3.1) :: ([] : List Int))) y3.1 y3.2 else none))))) else some (x2, (0 : Int)))
def Qa.l3 (qa : Nat) (l : LF) : Nat → Int → Int → (List Int) → Option ((List Int) × Int)
 | 0, _, _, _ => none
 | k + 1, x0, x1, x2 => Qa.b3 l (Qa.l3 qa l k) (Qa.l11 qa l (Qa.l3 qa l k) qa) x0 x1 x2
def Qa.b (l : LF) (E3 : Int → Int → (List Int) → Option ((List Int) × Int)) : Option ((List Int) × Int) :=
 E3 ((((List.length l)) : Nat) : Int) (0 : Int) ([] : List Int)
def Qa.f (qa : Nat) (l : LF) : Option ((List Int) × Int) := Qa.b l (Qa.l3 qa l qa)
theorem Qa.l11_eq (qa : Nat) (l : LF) (k3 : Nat) : ∀ k : Nat, Qa.p11 qa l k3 k = Qa.l11 qa l (Qa.p3 qa l k3) k
 | 0 => by kernel_rfl
 | k + 1 => by
  refine Eq.trans (b := Qa.b11 l (Qa.p3 qa l k3) (Qa.p11 qa l k3 k)) (by kernel_rfl) ?_
  rw [Qa.l11_eq qa l k3 k]
  kernel_rfl
theorem Qa.l3_eq (qa : Nat) (l : LF) : ∀ k : Nat, Qa.p3 qa l k = Qa.l3 qa l k
 | 0 => by kernel_rfl
 | k + 1 => by
  refine Eq.trans (b := Qa.b3 l (Qa.p3 qa l k) (Qa.p11 qa l k qa)) (by kernel_rfl) ?_
  rw [Qa.l3_eq qa l k, Qa.l11_eq qa l k qa, Qa.l3_eq qa l k]
  kernel_rfl
theorem Qa.eq (qa : Nat) (l : LF) : (denF qle loopN qa Tryz.f89 [.dat (.sl (.int .u8)) false, .raw] [.d (.sl (.pair tQi (.sl (.int .u8)))) l] [] Qa.k) = Qa.f qa l := by
 refine Eq.trans (b := Qa.b l (Qa.p3 qa l qa)) (by kernel_rfl) ?_
 rw [Qa.l3_eq qa l qa]
 kernel_rfl
def qiH : Env := ⟨th, gam [(76, QK), (87, qde), (88, qd8), (80, qaT), (41, qah), (90, qcS), (89, qfJ)], fun i => if i = 11 then ⟨[4, 48, 49, 50], [], []⟩ else ⟨[], [], []⟩⟩
def Qf.k (rs : List AV) (os : List Den.Obj) : Option ((List Int) × Int) :=
 match rs, os with
 | [.d (.sl (.int .u8)) r0, .d (.int .i64) r1], [] => some (r0, r1)
 | _, _ => none
def Qf.s11 (qL qA qT mlo mhi qW qt qN qC qM : Int) (qB : LR) (x0 x1 : Int) (x2 : LF) : St := ⟨[dD, dD, dD, dD, .row 64, dD, dD, dD, dD, dD, dD, dD, dD, dD, dD, dD, dD, dD, dD, dD, dD, dD, dD, dD, dD, dD, dD, dD, dD, dD, dD, dD, dD, dD, dD, dD, dD, dD, dD, dD, dD, dD, dD, dD, dD, dD, dD, dD, .d (.sl tQr) (qB), .d tQi x0, .d tQi x1, dD, dD, dD, dD, dD, dD, dD, dD, dD, dD, dD, dD, dD, dD, dD, dD, dD, dD, .dead], ofL [(64, .row 86 (.pair tQi (.sl (.int .u8))) x2 false)], 0⟩
def Qf.p11 (qa : Nat) (qL qA qT mlo mhi qW qt qN qC qM : Int) (qB : LR) (k : Nat) := fun x0 x1 x2 => lp qiH qa Tryz.f61 [.dat (.sl (.int .u8)) false, .raw] 0 Qf.k 11 [] k (Qf.s11 qL qA qT mlo mhi qW qt qN qC qM qB x0 x1 x2)
def Qf.b11 (qL qA qT mlo mhi qW qt qN qC qM : Int) (qB : LR) (A11 : Int → Int → LF → Option ((List Int) × Int)) (x0 : Int) (x1 : Int) (x2 : LF) : Option ((List Int) × Int) :=
 (if (decide (x1 < x0)) then (match (idx qB x1) with | none => none | some y3 => (if (qfx (y3.1, (y3.2.1, (y3.2.2.1, ((y3.2.2.2.1.1, y3.2.2.2.1.2), (y3.2.2.2.2.1, y3.2.2.2.2.2)))))) then (if (qfT (qbp (y3.1, (y3.2.1, (y3.2.2.1, ((y3.2.2.2.1.1, y3.2.2.2.1.2), (y3.2.2.2.2.1, y3.2.2.2.2.2))))))) then (if ((((List.length x2) + (List.length (((7 : Int), (List.flatMap Qj (qbp (y3.1, (y3.2.1, (y3.2.2.1, ((y3.2.2.2.1.1, y3.2.2.2.1.2), (y3.2.2.2.2.1, y3.2.2.2.2.2)))))))) :: ([] : LF)))) * (32 : Nat)) ≤ lim) then A11 x0 (IntKind.wrap .i64 (x1 + (1 : Int))) (x2 ++ (((7 : Int), (List.flatMap Qj (qbp (y3.1, (y3.2.1, (y3.2.2.1, ((y3.2.2.2.1.1, y3.2.2.2.1.2), (y3.2.2.2.2.1, y3.2.2.2.2.2)))))))) :: ([] : LF))) else none) else none) else none)) else (if (qfT x2) then some ((List.flatMap Qj x2), 0) else none))
def Qf.l11 (qa : Nat) (qL qA qT mlo mhi qW qt qN qC qM : Int) (qB : LR) : Nat → Int → Int → LF → Option ((List Int) × Int)
 | 0, _, _, _ => none
 | k + 1, x0, x1, x2 => Qf.b11 qL qA qT mlo mhi qW qt qN qC qM qB (Qf.l11 qa qL qA qT mlo mhi qW qt qN qC qM qB k) x0 x1 x2
def Qf.b (qL qA qT mlo mhi qW qt qN qC qM : Int) (qB : LR) (E11 : Int → Int → LF → Option ((List Int) × Int)) : Option ((List Int) × Int) :=
 (if (q9 qB) then (if (!(q0 qL qA qT mlo mhi qW qt qN qC qM qB)) then some (([] : List Int), (1 : Int)) else (if (q9 qB) then (if (!(qbG qL qA qT mlo mhi qW qt qN qC qM qB)) then some (([] : List Int), (14 : Int)) else (if (Qd (1 : Int) qL) then (if (Qd (2 : Int) qA) then (if (Qd (6 : Int) qT) then (if (Qd (1 : Int) (Qr mlo mhi)) then (if (qy qL (0 : Int)) then (if (Qd (2 : Int) qW) then (if (qy qL (1 : Int)) then (if (Qd (2 : Int) qt) then E11 ((((List.length qB)) : Nat) : Int) (0 : Int) (((((1 : Int), (be (Int.toNat (1 : Int)) qL)) :: (((2 : Int), (be (Int.toNat (2 : Int)) qA)) :: (((3 : Int), (be (Int.toNat (6 : Int)) qT)) :: (((4 : Int), (be (Int.toNat (1 : Int)) (Qr mlo mhi))) :: ([] : LF))))) ++ (((5 : Int), (be (Int.toNat (2 : Int)) qW)) :: ([] : LF))) ++ (((6 : Int), (be (Int.toNat (2 : Int)) qt)) :: ([] : LF))) else none) else E11 ((((List.length qB)) : Nat) : Int) (0 : Int) ((((1 : Int), (be (Int.toNat (1 : Int)) qL)) :: (((2 : Int), (be (Int.toNat (2 : Int)) qA)) :: (((3 : Int), (be (Int.toNat (6 : Int)) qT)) :: (((4 : Int), (be (Int.toNat (1 : Int)) (Qr mlo mhi))) :: ([] : LF))))) ++ (((5 : Int), (be (Int.toNat (2 : Int)) qW)) :: ([] : LF)))) else none) else (if (qy qL (1 : Int)) then (if (Qd (2 : Int) qt) then E11 ((((List.length qB)) : Nat) : Int) (0 : Int) ((((1 : Int), (be (Int.toNat (1 : Int)) qL)) :: (((2 : Int), (be (Int.toNat (2 : Int)) qA)) :: (((3 : Int), (be (Int.toNat (6 : Int)) qT)) :: (((4 : Int), (be (Int.toNat (1 : Int)) (Qr mlo mhi))) :: ([] : LF))))) ++ (((6 : Int), (be (Int.toNat (2 : Int)) qt)) :: ([] : LF))) else none) else E11 ((((List.length qB)) : Nat) : Int) (0 : Int) (((1 : Int), (be (Int.toNat (1 : Int)) qL)) :: (((2 : Int), (be (Int.toNat (2 : Int)) qA)) :: (((3 : Int), (be (Int.toNat (6 : Int)) qT)) :: (((4 : Int), (be (Int.toNat (1 : Int)) (Qr mlo mhi))) :: ([] : LF))))))) else none) else none) else none) else none)) else none)) else none)
def Qf.f (qa : Nat) (qL qA qT mlo mhi qW qt qN qC qM : Int) (qB : LR) : Option ((List Int) × Int) := Qf.b qL qA qT mlo mhi qW qt qN qC qM qB (Qf.l11 qa qL qA qT mlo mhi qW qt qN qC qM qB qa)
theorem Qf.l11_eq (qa : Nat) (qL qA qT mlo mhi qW qt qN qC qM : Int) (qB : LR) : ∀ k : Nat, Qf.p11 qa qL qA qT mlo mhi qW qt qN qC qM qB k = Qf.l11 qa qL qA qT mlo mhi qW qt qN qC qM qB k
 | 0 => by kernel_rfl
 | k + 1 => by
  refine Eq.trans (b := Qf.b11 qL qA qT mlo mhi qW qt qN qC qM qB (Qf.p11 qa qL qA qT mlo mhi qW qt qN qC qM qB k)) (by kernel_rfl) ?_
  rw [Qf.l11_eq qa qL qA qT mlo mhi qW qt qN qC qM qB k]
  kernel_rfl
theorem Qf.eq (qa : Nat) (qL qA qT mlo mhi qW qt qN qC qM : Int) (qB : LR) : (denF qiH loopN qa Tryz.f61 [.dat (.sl (.int .u8)) false, .raw] [.agg [.d tQi qL, .d tQi qA, .d tQi qT, .d tQi mlo, .d tQi mhi, .d tQi qW, .d tQi qt, .d tQi qN, .d tQi qC, .d tQi qM, .d (.sl tQr) qB]] [] Qf.k) = Qf.f qa qL qA qT mlo mhi qW qt qN qC qM qB := by
 refine Eq.trans (b := Qf.b qL qA qT mlo mhi qW qt qN qC qM qB (Qf.p11 qa qL qA qT mlo mhi qW qt qN qC qM qB qa)) (by kernel_rfl) ?_
 rw [Qf.l11_eq qa qL qA qT mlo mhi qW qt qN qC qM qB qa]
 kernel_rfl
theorem qsE {t : Int} (h : 0 ≤ t ∧ t ≤ 255) : IntKind.wrap .u8 t = t := by rw [qmz]; omega
theorem qhz (x : Int × List Int) : (Qj x).length = 3 + x.2.length := by unfold Qj; simp; omega
theorem qit : ∀ (l : LF), (((l.flatMap Qj).length : Nat) : Int) = Z1 l
 | [] => by simp [Z1]
 | x :: l => by
  rw [List.flatMap_cons, List.length_append, qgx, ← qit l, qhz]
  omega
theorem qlE (t n v : Int) : (itB t n v).length = 3 + n.toNat := by unfold itB; simp [zL]; omega
theorem qmb (r : Int × Int × Int × (Int × Int) × Bool × LF) : ((Za r).length : Int) = 20 + Z1 r.2.2.2.2.2 := by
 unfold Za
 simp only [List.length_append, qlE]
 have := qit r.2.2.2.2.2
 omega
theorem qmj : ∀ (l : LF) (qi size : Int), qge l qi size = true → 0 ≤ size → ∀ x ∈ l, qi ≤ x.1 ∧ x.1 ≤ 255 ∧ x.2.length ≤ 4096
 | [], _, _, _, _, x, hx => by simp at hx
 | y :: l, qi, size, h, h0, x, hx => by
  unfold qge at h
  split at h
  ·cases h
  ·split at h
   ·cases h
   ·rename_i h1 h2
    simp at h1 h2
    rcases List.mem_cons.1 hx with rfl | hx
    ·omega
    ·have := qmj l y.1 _ h (by omega) x hx
     omega
theorem qbE {b : LF} (h : qca b = true) : ∀ x ∈ b, 32 ≤ x.1 ∧ x.1 ≤ 255 ∧ x.2.length ≤ 4096 := by
 unfold qca at h
 split at h
 ·cases h
 ·exact qmj b 32 0 h (by omega)
theorem qhk (r : Int × Int × Int × (Int × Int) × Bool × LF) : qkH r = true ↔ zA r = true ∧ zx r.2.2.2.2.2 = true := by unfold qkH; simp
theorem qq9 {r : Int × Int × Int × (Int × Int) × Bool × LF} (h : zA r = true) : (Za r).length ≤ 4212 := by
 have := qmb r
 have := Ze (zH h).2.2.2.2.2.2.2.1
 omega
theorem qpY (r : Int × Int × Int × (Int × Int) × Bool × LF) : ((qee r).length : Int) = qdy r := by
 unfold qee qdy
 rw [qhz]
 have := qmb r
 dsimp only
 omega
theorem qme {v : Int} (h0 : 0 ≤ v) (h1 : v ≤ 4294967295) : Qd 4 v = true := (qbS 4 v).2 ⟨by omega, by omega, h0, by simp; omega⟩
theorem qgn (r : Int × Int × Int × (Int × Int) × Bool × LF) : qfx r = true ↔ qkH r = true ∧ r.2.1 ≤ 4294967295 := by unfold qfx; simp
theorem qa0.pure (id inc st lo hi : Int) (cut : Bool) (bag : LF) (hl : qfx (id, inc, st, (lo, hi), cut, bag) = true) :
  qa0.f 0 id inc st lo hi cut bag = some (qbp (id, inc, st, (lo, hi), cut, bag)) := by
 obtain ⟨hf, hi4⟩ := (qgn _).1 hl
 obtain ⟨hok, hs⟩ := (qhk _).1 hf
 obtain ⟨f1, f2, f3, f4, f5, f6, f7, f8, _⟩ := zH hok
 have f9 := (qaq _ _).1 f7
 dsimp only at f1 f2 f3 f4 f5 f6 f7 f8 f9 hi4
 obtain ⟨b1, b2, b3⟩ := Ze f8
 unfold qa0.f qa0.b
 rw [qeQ f7]
 cases cut
 ·rw [if_neg (by simp), if_pos (qb5 f1 (by omega)), if_pos (qme f3 hi4), if_pos (qbo f5 (by omega)), if_pos (qbo (by omega) (by omega)), if_pos (by simp [lim]; omega)]
  rfl
 ·have e' : IntKind.wrap .i64 (st + 128) = st + 128 := qX _ (by omega) (by omega)
  rw [if_pos rfl, e', if_pos (qb5 f1 (by omega)), if_pos (qme f3 hi4), if_pos (qbo (by omega) (by omega)), if_pos (qbo (by omega) (by omega)), if_pos (by simp [lim]; omega)]
  rfl
theorem qhr (l : LF) : qfT l = true ↔ l.length ≤ 300 ∧ ∀ x ∈ l, (0 ≤ x.1 ∧ x.1 ≤ 255) ∧ x.2.length ≤ 65535 := by
 unfold qfT
 simp only [Bool.and_eq_true, decide_eq_true_eq, List.all_eq_true, qpA]
theorem sw8 : IntKind.wrap .i64 ((8 : Int) - IntKind.wrap .i64 ((8 : Int) * 0)) = 8 := rfl
theorem sw0 : IntKind.wrap .i64 ((8 : Int) - IntKind.wrap .i64 ((8 : Int) * 1)) = 0 := rfl
theorem wi1 : IntKind.wrap .i64 ((0 : Int) + 1) = 1 := rfl
theorem wi2 : IntKind.wrap .i64 ((1 : Int) + 1) = 2 := rfl
theorem sb8 (n : Nat) (h : n ≤ 65535) : IntKind.wrap .u8 (Int.fdiv (n : Int) ((2 : Int) ^ 8)) = ((n / 256 : Nat) : Int) := by
 rw [qmz, Int.fdiv_eq_ediv_of_nonneg _ (by decide), show (2 : Int) ^ 8 = 256 from rfl]; omega
theorem sb0 (n : Nat) : IntKind.wrap .u8 (Int.fdiv (n : Int) ((2 : Int) ^ 0)) = ((n % 256 : Nat) : Int) := by
 rw [qmz, Int.fdiv_eq_ediv_of_nonneg _ (by decide), show (2 : Int) ^ 0 = 1 from rfl]; omega
theorem Qa.step (qa : Nat) (l : LF) (A3 : Int → Int → List Int → Option (List Int × Int)) (m : Nat) (x4 x5 : Int) (acc : List Int) (t : Int) (d : List Int) (hd : d.length ≤ 65535) (ha : acc.length < 100000000) :
  Qa.l11 qa l A3 (m + 3) x4 x5 0 acc t d = A3 x4 (IntKind.wrap .i64 (x5 + 1)) (((acc ++ [((d.length / 256 : Nat) : Int)]) ++ [((d.length % 256 : Nat) : Int)]) ++ d) := by
 rw [Qa.l11]; unfold Qa.b11
 rw [if_pos (by decide), sw8, if_neg (by decide), show Min.min (Int.toNat 8) (IntKind.bits .i64) = 8 from rfl, sb8 d.length hd, if_pos (by simp [lim]; omega), wi1]
 rw [Qa.l11]; unfold Qa.b11
 rw [if_pos (by decide), sw0, if_neg (by decide), show Min.min (Int.toNat 0) (IntKind.bits .i64) = 0 from rfl, sb0 d.length, if_pos (by simp [lim]; omega), wi2]
 rw [Qa.l11]; unfold Qa.b11
 rw [if_neg (by decide), if_pos (by simp [lim]; omega)]
theorem Qa.loop (m : Nat) (l : LF) (hb : l.length ≤ 300) (ht : ∀ x ∈ l, (0 ≤ x.1 ∧ x.1 ≤ 255) ∧ x.2.length ≤ 65535) : ∀ (k i : Nat) (acc : List Int), i ≤ l.length → l.length - i < k → acc.length + 70000 * (l.length - i) < 50000000 →
  Qa.l3 (m + 3) l k (l.length : Int) (i : Int) acc = some (acc ++ (l.drop i).flatMap Qj, 0) := by
 intro k
 induction k with
 | zero => intro i acc h1 h2; omega
 | succ k ih =>
  intro i acc h1 h2 h3
  rw [Qa.l3]
  unfold Qa.b3
  by_cases hi' : i < l.length
  ·rw [if_pos (by simp; omega), Qn, List.getElem?_eq_getElem hi']
   dsimp only
   have hx := ht l[i] (List.getElem_mem hi')
   rw [List.drop_eq_getElem_cons hi', List.flatMap_cons]
   generalize l[i] = x at hx ⊢
   rw [if_neg (by simp; omega), if_neg (by simp; omega), if_neg (by simp; omega), if_pos (by simp [lim]; omega), qsE hx.1, Qa.step (m + 3) l _ m _ _ _ _ _ hx.2 (by simp; omega), qX ((i : Int) + 1) (by omega) (by omega)]
   have := ih (i + 1) ((((acc ++ [x.1]) ++ [((x.2.length / 256 : Nat) : Int)]) ++ [((x.2.length % 256 : Nat) : Int)]) ++ x.2) (by omega) (by omega) (by simp; omega)
   rw [show ((i + 1 : Nat) : Int) = (i : Int) + 1 from by omega] at this
   rw [this]
   simp [Qj]
  ·rw [if_neg (by simp; omega), List.drop_of_length_le (by omega)]
   simp
theorem Qa.pure (l : LF) (hl : qfT l = true) : Qa.f (l.length + 3) l = some (l.flatMap Qj, 0) := by
 obtain ⟨h1, h2⟩ := (qhr l).1 hl
 unfold Qa.f Qa.b
 have := Qa.loop l.length l h1 h2 (l.length + 3) 0 [] (by omega) (by omega) (by simp; omega)
 rw [show ((0 : Nat) : Int) = 0 from rfl] at this
 rw [this]
 simp
theorem qnu {r : Int × Int × Int × (Int × Int) × Bool × LF} (h : zA r = true) : qfT (qbp r) = true := by
 have f8 := (zH h).2.2.2.2.2.2.2.1
 have b1 := (Ze f8).1
 refine (qhr _).2 ⟨by unfold qbp; simp; omega, ?_⟩
 intro x hx
 unfold qbp at hx
 rcases List.mem_append.1 hx with hx | hx
 ·simp at hx
  rcases hx with rfl | rfl | rfl | rfl <;> simp [zL]
 ·have := qbE f8 x hx
  omega
theorem qnv (r : Int × Int × Int × (Int × Int) × Bool × LF) : (qbp r).flatMap Qj = Za r := by
 unfold qbp Za
 simp [Qj, itB, zL]
theorem qjU : ∀ (l : LR), qc5 l = true → ∀ r ∈ l, r.2.1 ≤ 4294967295
 | [], h, r, hr => by simp at hr
 | x :: l, h, r, hr => by
  unfold qc5 at h
  split at h
  ·cases h
  ·rename_i hc
   rcases List.mem_cons.1 hr with rfl | hr
   ·simpa using hc
   ·exact qjU l h r hr
theorem qgu {qk qx inc lo hi seq qo qP qD qb : Int} {qc : LR} (h : qbG qk qx inc lo hi seq qo qP qD qb qc = true) :
  q0 qk qx inc lo hi seq qo qP qD qb qc = true ∧ qk ≠ 9 ∧ qD = 0 ∧ qd6 qk qx inc lo hi seq qo qP qD qb qc ≤ 65499 ∧ qc5 qc = true := by
 unfold qbG at h
 split at h
 ·cases h
 ·rename_i hc
  simp at hc
  exact ⟨hc.1, hc.2.1, hc.2.2.1, hc.2.2.2, h⟩
theorem Qf.loop (qa : Nat) (qk qx inc lo hi seq qo qP qD qb : Int) (qc : LR) (hr : ∀ r ∈ qc, qfx r = true) (hlen : qc.length ≤ 255) : ∀ (k i : Nat) (acc : LF), i ≤ qc.length → qc.length - i < k → acc.length + (qc.length - i) ≤ 300 → (∀ x ∈ acc, (0 ≤ x.1 ∧ x.1 ≤ 255) ∧ x.2.length ≤ 65535) →
  Qf.l11 qa qk qx inc lo hi seq qo qP qD qb qc k (qc.length : Int) (i : Int) acc = some (acc.flatMap Qj ++ (qc.drop i).flatMap qee, 0) := by
 intro k
 induction k with
 | zero => intro i acc h1 h2; omega
 | succ k ih =>
  intro i acc h1 h2 h3 h4
  rw [Qf.l11]
  unfold Qf.b11
  by_cases hi' : i < qc.length
  ·rw [if_pos (by simp; omega), Qn, List.getElem?_eq_getElem hi']
   dsimp only
   have hf := hr qc[i] (List.getElem_mem hi')
   rw [List.drop_eq_getElem_cons hi', List.flatMap_cons]
   generalize qc[i] = r at hf ⊢
   have hok := ((qhk r).1 ((qgn r).1 hf).1).1
   simp only [qlz]
   rw [if_pos hf, if_pos (qnu hok), qnv, if_pos (by simp [lim]; omega), qX ((i : Int) + 1) (by omega) (by omega)]
   have := ih (i + 1) (acc ++ [(7, Za r)]) (by omega) (by omega) (by simp; omega) (by
    intro x hx
    rcases List.mem_append.1 hx with hx | hx
    ·exact h4 x hx
    ·have hq := qq9 hok
     simp at hx
     subst hx
     exact ⟨by simp, by simp; omega⟩)
   rw [show ((i + 1 : Nat) : Int) = (i : Int) + 1 from by omega] at this
   rw [this]
   simp [qee]
  ·rw [if_neg (by simp; omega), List.drop_of_length_le (by omega), if_pos ((qhr acc).2 ⟨by omega, h4⟩)]
   simp
theorem Qf.pure (qk qx inc lo hi seq qo qP qD qb : Int) (qc : LR) (hl : q9 qc = true) :
  Qf.f (qc.length + 1) qk qx inc lo hi seq qo qP qD qb qc = some ((qeo qk qx inc lo hi seq qo qP qD qb qc).1, (qeo qk qx inc lo hi seq qo qP qD qb qc).2) := by
 unfold Qf.f Qf.b qeo
 rw [if_pos hl]
 cases hv0 : q0 qk qx inc lo hi seq qo qP qD qb qc
 ·rfl
 rw [if_neg (by simp), if_pos hl]
 cases hf : qbG qk qx inc lo hi seq qo qP qD qb qc
 ·rfl
 obtain ⟨hv, w1, w2, w3, w4⟩ := qgu hf
 obtain ⟨v1, v2, v3, v4, v5, v6, v7, v8, v9, v10, v11, _, v12, v13⟩ := Ql hv
 have v14 := (qaq _ _).1 v7
 have hs := ((Zo qc).1 hl).2
 have h4 := qjU qc w4
 have hlp := fun acc ha hb => Qf.loop (qc.length + 1) qk qx inc lo hi seq qo qP qD qb qc (fun r hr => (qgn r).2 ⟨(qhk r).2 ⟨v13 r hr, hs r hr⟩, h4 r hr⟩) v12 (qc.length + 1) 0 acc (by omega) (by omega) ha hb
 rw [show ((0 : Nat) : Int) = 0 from rfl] at hlp
 simp only [List.drop_zero] at hlp
 have n5 : Qd 2 seq = true := qb5 v8 (by omega)
 have n6 : Qd 2 qo = true := qb5 v10 (by omega)
 rw [if_neg (by simp), qeQ v7, if_pos (qbo (by omega) (by omega)), if_pos (qb5 v3 (by omega)), if_pos (qnc v5 (by omega)), if_pos (qbo (by omega) (by omega))]
 cases h5 : qy qk 0 <;> cases h6 : qy qk 1
 ·rw [if_neg (by simp), if_neg (by simp), hlp _ (by simp; omega) (by simp [zL])]
  simp [qaj, itB, Qj, zL, h5, h6, List.append_assoc]
 ·rw [if_neg (by simp), if_pos rfl, if_pos n6, hlp _ (by simp; omega) (by simp [zL])]
  simp [qaj, itB, Qj, zL, h5, h6, List.append_assoc]
 ·rw [if_pos rfl, if_pos n5, if_neg (by simp), hlp _ (by simp; omega) (by simp [zL])]
  simp [qaj, itB, Qj, zL, h5, h6, List.append_assoc]
 ·rw [if_pos rfl, if_pos n5, if_pos rfl, if_pos n6, hlp _ (by simp; omega) (by simp [zL])]
  simp [qaj, itB, Qj, zL, h5, h6, List.append_assoc]
theorem qmn : SumDet qcS := zj fun _ _ _ _ => by
 unfold qcS
 simp only
 split
 ·first | rfl | (split <;> rfl)
 ·rfl
theorem qmN : SumOk Tryz.prog 90 qcS := by
 have hE : EnvOk Tryz.prog qml := env_ok (l := [(88, qd8), (80, qaT)]) th_ok qZ ⟨⟨qlX, qkh⟩, ⟨qdU, qdg⟩, trivial⟩ _
 refine sum_ok hE Tryz.func90 rfl (by kernel_rfl) qcS [.dat (.sl (.pair tQi (.sl (.int .u8)))) false] qa0.k ?_
 intro R avs qn κ r h
 unfold qcS at h
 simp only at h
 split at h
 ·rename_i rid zE rst rlo rhi zG zw
  split at h
  case isFalse => cases h
  rename_i hl
  refine ⟨0, _, _, _, (qa0.eq (0) rid zE rst rlo rhi zG zw).trans (qa0.pure rid zE rst rlo rhi zG zw hl), ?_, h⟩
  intro rs ros hk
  unfold qa0.k at hk
  split at hk
  ·first | (cases hk; exact ⟨rfl, rfl⟩) | (rw [← Option.some.inj hk]; exact ⟨rfl, rfl⟩)
  ·cases hk
 ·cases h
theorem qoQ : SumDet qfJ := zj fun _ _ _ _ => by
 unfold qfJ
 simp only
 split
 ·first | rfl | (split <;> rfl)
 ·rfl
end
end Go.Proofs.YtneiiplppcjjlaaGreatDoor
