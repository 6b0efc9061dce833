/- TrafficRows, part 2: what the row leans on. -/
import Derived.Test.YtgaakgeemnkeeaaGreatDoorZTrafficRows1
set_option linter.unusedVariables false
set_option linter.unusedSimpArgs false
set_option maxRecDepth 100000
namespace Go.Proofs.YtgaakgeemnkeeaaGreatDoor
open Go.Den
open Go.Den Go.RowKit
noncomputable section
theorem qmC : SumOk Tryz.prog 72 qd4 := by
 have hE : EnvOk Tryz.prog qir := env_ok (l := []) th_ok qU trivial _
 refine sum_ok hE Tryz.func72 rfl (by kernel_rfl) qd4 [.dat (.sl (.int .u8)) false, .raw] zL.k ?_
 intro R avs qj κ r h
 unfold qd4 at h
 simp only at h
 split at h
 ·rename_i l
  split at h
  case isFalse => cases h
  rename_i hl
  refine ⟨l.length + 3, _, _, _, (zL.eq (l.length + 3) l).trans (zL.pure l hl), ?_, h⟩
  intro rs ros hk
  unfold zL.k at hk
  split at hk
  ·first | (cases hk; exact ⟨rfl, rfl⟩) | (rw [← Option.some.inj hk]; exact ⟨rfl, rfl⟩)
  ·cases hk
 ·cases h
theorem qlI : SumDet qd6 := zi fun _ _ _ _ => by
 unfold qd6
 simp only
 split
 ·first | rfl | (split <;> rfl)
 ·rfl
theorem qmE : SumOk Tryz.prog 45 qd6 := by
 have hE : EnvOk Tryz.prog qgm := env_ok (l := [(58, QI), (69, qbZ), (70, qcK), (62, Z2), (71, ZI), (73, qbI), (72, qd4)]) th_ok qU ⟨⟨qah, ZW⟩, ⟨qhT, qgP⟩, ⟨qi0, qhH⟩, ⟨qcA, qb1⟩, ⟨qbe, qaP⟩, ⟨qjJ, qjo⟩, ⟨qmC, qlG⟩, trivial⟩ _
 refine sum_ok hE Tryz.func45 rfl (by kernel_rfl) qd6 [.dat (.sl (.int .u8)) false, .raw] zQ.k ?_
 intro R avs qj κ r h
 unfold qd6 at h
 simp only at h
 split at h
 ·rename_i qw qm qE mlo mhi qJ qi qz qo qy qn
  split at h
  case isFalse => cases h
  rename_i hl
  refine ⟨qn.length + 1, _, _, _, (zQ.eq (qn.length + 1) qw qm qE mlo mhi qJ qi qz qo qy qn).trans (zQ.pure qw qm qE mlo mhi qJ qi qz qo qy qn hl), ?_, h⟩
  intro rs ros hk
  unfold zQ.k at hk
  split at hk
  ·first | (cases hk; exact ⟨rfl, rfl⟩) | (rw [← Option.some.inj hk]; exact ⟨rfl, rfl⟩)
  ·cases hk
 ·cases h
theorem qje : ∀ (l : LR), (((l.flatMap qdq).length : Nat) : Int) = qaJ l
 | [] => rfl
 | r :: l => by
  have h1 := qje l
  have h2 := qmN r
  rw [List.flatMap_cons, List.length_append, qaJ]
  omega
theorem qiZ {qh qv inc lo hi seq qk qQ qB qc : Int} {qg : LR} (hv : qR qh qv inc lo hi seq qk qQ qB qc qg = true) :
  qdK qh qv inc lo hi seq qk qQ qB qc qg = ((ZQ qh qv inc lo hi seq qk qg).length : Int) := by
 have h := qje qg
 unfold qdK ZQ
 rw [hv, if_neg (by simp)]
 generalize qg.flatMap qdq = L at h ⊢
 simp only [List.length_append, qiJ]
 cases qt qh 0 <;> cases qt qh 1 <;> simp [qiJ] <;> omega
theorem ql8 (qh qv inc lo hi seq qk qQ qB qc : Int) (qg : LR) : qaH qh qv inc lo hi seq qk qQ qB qc qg = qif qh qv inc lo hi seq qk qQ qB qc qg := by
 unfold qaH qif
 cases hv : qR qh qv inc lo hi seq qk qQ qB qc qg
 ·rfl
 ·rw [qiZ hv]
  generalize hn : ((ZQ qh qv inc lo hi seq qk qg).length : Int) = n
  by_cases he : qB = 0
  ·subst he
   obtain ⟨_, _, _, _, _, _, _, _, _, _, _, hl, _⟩ := Ql hv
   obtain ⟨rfl, rfl⟩ := qh6 hl
   by_cases h9 : qh = 9
   ·simp [h9]
   ·by_cases hs : n > 65499
    ·simp [h9, hs]
    ·simp [h9, hs]
     omega
  ·by_cases h9 : qh = 9
   ·simp [h9]
   ·simp [he, h9]
def inS (l : List Int) : Bool := inB l && decide (l.length < 1000000000)
def n7 (n : Int) : Bool := decide (1 ≤ n) && decide (n ≤ 7)
def zM (l : LF) : Bool := decide (l.length < 1099511600) && l.all fun x => inS x.2
def qc9 (x : (Int × List Int)) (n : Int) : Int × Bool := if ((x.2.length : Int) == n) = true then (QL x.2, true) else (0, false)
def zp (l : LF) (bad : Bool) (t n : Int) : Int × LF × Bool :=
 match l with
 | [] => (0, [], true)
 | x :: m => if bad || x.1 != t then (0, x :: m, true) else ((qc9 x n).1, m, !(qc9 x n).2)
def QY (l : LF) (bad : Bool) (t : Int) : Int × Int × LF × Bool :=
 ((zF z8 (zp l bad t 1).1).1, (zF z8 (zp l bad t 1).1).2.1, (zp l bad t 1).2.1, (zp l bad t 1).2.2)
def QN : Nat → List Int → Option LF
 | _, [] => some []
 | k + 1, t :: h :: w :: m => if (h * 256 + w) > (m.length : Int) then none else (QN k (m.drop (h * 256 + w).toNat)).map fun r => (t, m.take (h * 256 + w).toNat) :: r
 | _, _ => none
def zU (l : List Int) : LF × Int := match QN l.length l with | some r => (r, 0) | none => ([], 2)
def qjK : Den.Sum := ⟨[.raw, .raw], fun qA qj κ => match qA, qj with
 | [.ptr 0 0, .d (.int .i64) n], [.box [.d (.sl (.int .u8)) l, .d (.int .i64) a, .d .bool bad]] => if zk l a = true then κ [.d (.sl (.int .u8)) (qY l n a bad).1] [.box [.d (.sl (.int .u8)) l, .d (.int .i64) (qY l n a bad).2.2.1, .d .bool (qY l n a bad).2.2.2]] else none
 | _, _ => none⟩
def qbs : Den.Sum := ⟨[.raw, .raw], fun qA qj κ => match qA, qj with
 | [.ptr 0 0, .d (.int .i64) n], [.box [.d (.sl (.int .u8)) l, .d (.int .i64) a, .d .bool bad]] => if zk l a = true then (match veil (some (qY l n a bad)) with | none => none | some y => κ [.d (.sl (.int .u8)) y.1] [.box [.d (.sl (.int .u8)) l, .d (.int .i64) y.2.2.1, .d .bool y.2.2.2]]) else none
 | _, _ => none⟩
def qiv : Den.Sum := ⟨[.dat (.sl (.int .u8)) false], fun qA qj κ => match qA, qj with
 | [.d (.sl (.int .u8)) l], [] => if inS l = true then κ [.d (.sl (.pair (.int .i64) (.sl (.int .u8)))) (zU l).1, .d (.int .i64) (zU l).2] [] else none
 | _, _ => none⟩
def qbJ : Den.Sum := ⟨[.dat (.sl (.int .u8)) false], fun qA qj κ => match qA, qj with
 | [.d (.sl (.int .u8)) l], [] => if inS l = true then (match veil (some (zU l)) with | none => none | some y => κ [.d (.sl (.pair (.int .i64) (.sl (.int .u8)))) y.1, .d (.int .i64) y.2] []) else none
 | _, _ => none⟩
def qda : Den.Sum := ⟨[.dat (.pair tQi (.sl (.int .u8))) true, .raw], fun qA qj κ => match qA, qj with
 | [.agg [.d (.int .i64) t, .d (.sl (.int .u8)) d], .d (.int .i64) n], [] => if (inB d && n7 n) = true then κ [.d (.int .i64) (qc9 (t, d) n).1, .d .bool (qc9 (t, d) n).2] [] else none
 | _, _ => none⟩
def qjP : Den.Sum := ⟨[.raw, .raw, .raw], fun qA qj κ => match qA, qj with
 | [.ptr 0 0, .d (.int .i64) t, .d (.int .i64) n], [.box [.d (.sl (.pair (.int .i64) (.sl (.int .u8)))) l, .d .bool bad]] => if (zM l && n7 n) = true then κ [.d (.int .i64) (zp l bad t n).1] [.box [.d (.sl (.pair (.int .i64) (.sl (.int .u8)))) (zp l bad t n).2.1, .d .bool (zp l bad t n).2.2]] else none
 | _, _ => none⟩
def qaI : Den.Sum := ⟨[.raw, .raw, .raw], fun qA qj κ => match qA, qj with
 | [.ptr 0 0, .d (.int .i64) t, .d (.int .i64) n], [.box [.d (.sl (.pair (.int .i64) (.sl (.int .u8)))) l, .d .bool bad]] => if (zM l && n7 n) = true then (match veil (some (zp l bad t n)) with | none => none | some y => κ [.d (.int .i64) y.1] [.box [.d (.sl (.pair (.int .i64) (.sl (.int .u8)))) y.2.1, .d .bool y.2.2]]) else none
 | _, _ => none⟩
def qiz : Den.Sum := ⟨[.raw, .raw], fun qA qj κ => match qA, qj with
 | [.ptr 0 0, .d (.int .i64) t], [.box [.d (.sl (.pair (.int .i64) (.sl (.int .u8)))) l, .d .bool bad]] => if zM l = true then κ [.agg [.d (.int .i64) (QY l bad t).1, .d (.int .i64) (QY l bad t).2.1]] [.box [.d (.sl (.pair (.int .i64) (.sl (.int .u8)))) (QY l bad t).2.2.1, .d .bool (QY l bad t).2.2.2]] else none
 | _, _ => none⟩
def qbK : Den.Sum := ⟨[.raw, .raw], fun qA qj κ => match qA, qj with
 | [.ptr 0 0, .d (.int .i64) t], [.box [.d (.sl (.pair (.int .i64) (.sl (.int .u8)))) l, .d .bool bad]] => if zM l = true then (match veil (some (QY l bad t)) with | none => none | some y => κ [.agg [.d (.int .i64) y.1, .d (.int .i64) y.2.1]] [.box [.d (.sl (.pair (.int .i64) (.sl (.int .u8)))) y.2.2.1, .d .bool y.2.2.2]]) else none
 | _, _ => none⟩
def qk8 : Env := ⟨th, gam [(51, qcL)], fun i => ⟨[], [], []⟩⟩
def qby.k (rs : List AV) (os : List Den.Obj) : Option ((List Int) × (List Int) × Int × Bool) :=
 match rs, os with
 | [.d (.sl (.int .u8)) r0], [.box [.d (.sl (.int .u8)) r1, .d (.int .i64) r2, .d .bool r3]] => some (r0, r1, r2, r3)
 | _, _ => none
def qby.b (n : Int) (l : List Int) (a : Int) (bad : Bool) : Option ((List Int) × (List Int) × Int × Bool) :=
 (if (zk l a) then (if (!(qY l n a bad).2.1) then some (([] : List Int), l, (qY l n a bad).2.2.1, (qY l n a bad).2.2.2) else (if (((0 : Int) ≤ ((((List.length (qY l n a bad).1)) : Nat) : Int)) ∧ ((((((List.length (qY l n a bad).1)) : Nat) : Int) ≤ ((((List.length (qY l n a bad).1)) : Nat) : Int)) ∧ (((((((List.length (qY l n a bad).1)) : Nat) : Int) * ((((1 : Nat)) : Nat) : Int)) ≤ (1099511627776 : Int)) ∧ (((((List.length (qY l n a bad).1)) : Nat) : Int) ≤ (1099511627776 : Int))))) then (if ((false = false) ∧ ((List.length (qY l n a bad).1) ≤ (List.length (List.replicate (Int.toNat ((((List.length (qY l n a bad).1)) : Nat) : Int)) (zeroI (Go.Den.Ty.int .u8)))))) then some (((qY l n a bad).1 ++ (List.drop (List.length (qY l n a bad).1) (List.replicate (Int.toNat ((((List.length (qY l n a bad).1)) : Nat) : Int)) (zeroI (Go.Den.Ty.int .u8))))), l, (qY l n a bad).2.2.1, (qY l n a bad).2.2.2) else none) else none)) else none)
def qby.f (qa : Nat) (n : Int) (l : List Int) (a : Int) (bad : Bool) : Option ((List Int) × (List Int) × Int × Bool) := qby.b n l a bad
theorem qby.eq (qa : Nat) (n : Int) (l : List Int) (a : Int) (bad : Bool) : (denF qk8 loopN qa Tryz.f25 [.dat (.sl (.int .u8)) false] [.ptr 0 0, .d tQi n] [.box [.d (.sl (.int .u8)) l, .d tQi a, .d .bool bad]] qby.k) = qby.f qa n l a bad := by
 kernel_rfl
def qiO : Env := ⟨th, gam [(23, Z1), (90, qcO), (24, QO), (25, qbs), (66, ZY)], fun i => if i = 3 then ⟨[4, 5], [(4, 122, (.pair tQi (.sl (.int .u8))))], []⟩ else ⟨[], [], []⟩⟩
def Qs.k (rs : List AV) (os : List Den.Obj) : Option (LF × Int) :=
 match rs, os with
 | [.d (.sl (.pair (.int .i64) (.sl (.int .u8)))) r0, .d (.int .i64) r1], [] => some (r0, r1)
 | _, _ => none
def Qs.s3 (l : List Int) (x0 : LF) (x1 : Int) (x2 : Bool) : St := ⟨[dD, dD, dD, dD, .row 64, .ptr 65 0, dD, dD, dD, dD, dD, dD, dD, dD, dD, dD, dD, dD, dD, dD, dD, dD, dD, dD, dD, dD, .dead], ofL [(64, .row 122 (.pair tQi (.sl (.int .u8))) x0 false), (65, .box [.d (.sl (.int .u8)) (l), .d tQi x1, .d .bool x2])], 0⟩
def Qs.p3 (qa : Nat) (l : List Int) (k : Nat) := fun x0 x1 x2 => lp qiO qa Tryz.f74 [.dat (.sl (.pair tQi (.sl (.int .u8)))) false, .raw] 0 Qs.k 3 [] k (Qs.s3 l x0 x1 x2)
def Qs.b3 (l : List Int) (A3 : LF → Int → Bool → Option (LF × Int)) (x0 : LF) (x1 : Int) (x2 : Bool) : Option (LF × Int) :=
 (if (zk l x1) then (if (decide ((Zm l x1 x2) > (0 : Int))) then (if (zk l x1) then (match (veil (Option.some (ql l (1 : Int) x1 x2))) with | none => none | some y3 => (if (zk l y3.2.1) then (match (veil (Option.some (ql l (2 : Int) y3.2.1 y3.2.2))) with | none => none | some y4 => (if (zk l y4.2.1) then (match (veil (Option.some (qY l y4.1 y4.2.1 y4.2.2))) with | none => none | some y5 => (if y5.2.2.2 then some (([] : LF), (2 : Int)) else (if ((((List.length x0) + (List.length ((y3.1, y5.1) :: ([] : LF)))) * (32 : Nat)) ≤ lim) then A3 (x0 ++ ((y3.1, y5.1) :: ([] : LF))) y5.2.2.1 y5.2.2.2 else none))) else none)) else none)) else none) else some (x0, (0 : Int))) else none)
def Qs.l3 (qa : Nat) (l : List Int) : Nat → LF → Int → Bool → Option (LF × Int)
 | 0, _, _, _ => none
 | k + 1, x0, x1, x2 => Qs.b3 l (Qs.l3 qa l k) x0 x1 x2
def Qs.b (l : List Int) (E3 : LF → Int → Bool → Option (LF × Int)) : Option (LF × Int) :=
 (if (inB l) then E3 ([] : LF) 0 false else none)
def Qs.f (qa : Nat) (l : List Int) : Option (LF × Int) := Qs.b l (Qs.l3 qa l qa)
theorem Qs.l3_eq (qa : Nat) (l : List Int) : ∀ k : Nat, Qs.p3 qa l k = Qs.l3 qa l k
 | 0 => by kernel_rfl
 | k + 1 => by
  refine Eq.trans (b := Qs.b3 l (Qs.p3 qa l k)) (by kernel_rfl) ?_
  rw [Qs.l3_eq qa l k]
  kernel_rfl
theorem Qs.eq (qa : Nat) (l : List Int) : (denF qiO loopN qa Tryz.f74 [.dat (.sl (.pair tQi (.sl (.int .u8)))) false, .raw] [.d (.sl (.int .u8)) l] [] Qs.k) = Qs.f qa l := by
 refine Eq.trans (b := Qs.b l (Qs.p3 qa l qa)) (by kernel_rfl) ?_
 rw [Qs.l3_eq qa l qa]
 kernel_rfl
def qk6 : Env := ⟨th, gam [(23, Z1), (24, qcM), (68, qbL)], fun i => ⟨[], [], []⟩⟩
def Value.k (rs : List AV) (os : List Den.Obj) : Option (Int × Bool) :=
 match rs, os with
 | [.d (.int .i64) r0, .d .bool r1], [] => some (r0, r1)
 | _, _ => none
def Value.b (t : Int) (d : List Int) (n : Int) : Option (Int × Bool) :=
 (if (inB d) then (if (zk d 0) then (if (zk d (ql d n 0 false).2.1) then (if (!((!(ql d n 0 false).2.2) && ((Zm d (ql d n 0 false).2.1 (ql d n 0 false).2.2) == (0 : Int)))) then some ((0 : Int), false) else some ((ql d n 0 false).1, true)) else none) else none) else none)
def Value.f (qa : Nat) (t : Int) (d : List Int) (n : Int) : Option (Int × Bool) := Value.b t d n
theorem Value.eq (qa : Nat) (t : Int) (d : List Int) (n : Int) : (denF qk6 loopN qa Tryz.f92 [.raw, .raw] [.agg [.d tQi t, .d (.sl (.int .u8)) d], .d tQi n] [] Value.k) = Value.f qa t d n := by
 kernel_rfl
def qni : Env := ⟨th, gam [(92, qda)], fun i => ⟨[], [], []⟩⟩
def qc4.k (rs : List AV) (os : List Den.Obj) : Option (Int × LF × Bool) :=
 match rs, os with
 | [.d (.int .i64) r0], [.box [.d (.sl (.pair (.int .i64) (.sl (.int .u8)))) r1, .d .bool r2]] => some (r0, r1, r2)
 | _, _ => none
def qc4.b (t n : Int) (l : LF) (bad : Bool) : Option (Int × LF × Bool) :=
 (if bad then some ((0 : Int), l, true) else (if (((((List.length l)) : Nat) : Int) == (0 : Int)) then some ((0 : Int), l, true) else (match (idx l (0 : Int)) with | none => none | some y0 => (if (y0.1 != t) then some ((0 : Int), l, true) else (match (idx l (0 : Int)) with | none => none | some y1 => (if ((inB y1.2) && (n7 n)) then (if (((0 : Int) ≤ (1 : Int)) ∧ ((1 : Int) ≤ ((((List.length l)) : Nat) : Int))) then some ((qc9 (y1.1, y1.2) n).1, (List.drop (Int.toNat (1 : Int)) (List.take (List.length l) l)), (!(qc9 (y1.1, y1.2) n).2)) else none) else none))))))
def qc4.f (qa : Nat) (t n : Int) (l : LF) (bad : Bool) : Option (Int × LF × Bool) := qc4.b t n l bad
theorem qc4.eq (qa : Nat) (t n : Int) (l : LF) (bad : Bool) : (denF qni loopN qa Tryz.f75 [.raw] [.ptr 0 0, .d tQi t, .d tQi n] [.box [.d (.sl (.pair tQi (.sl (.int .u8)))) l, .d .bool bad]] qc4.k) = qc4.f qa t n l bad := by
 kernel_rfl
def qlf : Env := ⟨th, gam [(75, qaI), (65, qcf)], fun i => ⟨[], [], []⟩⟩
def qbF.k (rs : List AV) (os : List Den.Obj) : Option (Int × Int × LF × Bool) :=
 match rs, os with
 | [.agg [.d (.int .i64) r0, .d (.int .i64) r1]], [.box [.d (.sl (.pair (.int .i64) (.sl (.int .u8)))) r2, .d .bool r3]] => some (r0, r1, r2, r3)
 | _, _ => none
def qbF.b (t : Int) (l : LF) (bad : Bool) : Option (Int × Int × LF × Bool) :=
 (if ((zM l) && (n7 (1 : Int))) then (match (veil (Option.some (zp l bad t (1 : Int)))) with | none => none | some y0 => (match (veil (Option.some (zF z8 y0.1))) with | none => none | some y1 => some (y1.1, y1.2.1, y0.2.1, y0.2.2))) else none)
def qbF.f (qa : Nat) (t : Int) (l : LF) (bad : Bool) : Option (Int × Int × LF × Bool) := qbF.b t l bad
theorem qbF.eq (qa : Nat) (t : Int) (l : LF) (bad : Bool) : (denF qlf loopN qa Tryz.f77 [.dat (.pair tQi tQi) true] [.ptr 0 0, .d tQi t] [.box [.d (.sl (.pair tQi (.sl (.int .u8)))) l, .d .bool bad]] qbF.k) = qbF.f qa t l bad := by
 kernel_rfl
theorem qaL (l : List Int) : inS l = true ↔ inB l = true ∧ l.length < 1000000000 := by unfold inS; simp
theorem qos (n : Int) : n7 n = true ↔ 1 ≤ n ∧ n ≤ 7 := by unfold n7; simp
theorem ZZ (l : LF) : zM l = true ↔ l.length < 1099511600 ∧ ∀ x ∈ l, inS x.2 = true := by unfold zM; simp [List.all_eq_true]
theorem qnn (l : List Int) (n a : Int) (bad : Bool) : (qY l n a bad).1.length ≤ l.length := by
 unfold qY
 split
 ·simp
 ·split
  ·simp
  ·unfold seg; simp; omega
theorem qmq (l : List Int) (n a : Int) (bad : Bool) (h : (qY l n a bad).2.1 = false) : (qY l n a bad).1 = [] := by
 unfold qY at h ⊢
 split
 ·rfl
 ·rename_i c
  rw [if_neg c] at h
  split
  ·rfl
  ·rename_i c2
   rw [if_neg c2] at h
   cases h
theorem qby.pure (n : Int) (l : List Int) (a : Int) (bad : Bool) (hl : zk l a = true) : qby.f 0 n l a bad = some ((qY l n a bad).1, l, (qY l n a bad).2.2.1, (qY l n a bad).2.2.2) := by
 unfold qby.f qby.b
 rw [if_pos hl]
 have h1 := qnn l n a bad
 obtain ⟨k1, k2, k3⟩ := (zA l a).1 hl
 have h2 := ((Qy l).1 k1).1
 cases hs : (qY l n a bad).2.1
 ·rw [if_pos (by simp), qmq l n a bad hs]
 ·rw [if_neg (by simp), if_pos (by refine ⟨by omega, by omega, by omega, by omega⟩), if_pos (by simp)]
  simp
theorem Value.pure (t n : Int) (d : List Int) (hl : (inB d && n7 n) = true) : Value.f 0 t d n = some ((qc9 (t, d) n).1, (qc9 (t, d) n).2) := by
 rw [Bool.and_eq_true] at hl
 obtain ⟨hb, hn⟩ := hl
 obtain ⟨n1, n7⟩ := (qos n).1 hn
 have h0 : zk d 0 = true := (zA d 0).2 ⟨hb, by omega, by omega⟩
 have h1 := Qk d n 0 false h0
 unfold Value.f Value.b
 rw [if_pos hb, if_pos h0, if_pos h1]
 have hn' : (if (decide (n < 1) || decide (n > 7)) = true then (-1 : Int) else n) = n := if_neg (by simp; omega)
 unfold qc9
 by_cases c : n ≤ (d.length : Int)
 ·have hst : qY d n 0 false = (seg d 0 n, true, 0 + n, false) := by
   unfold qY
   rw [if_neg (by simp), if_neg (by simp; omega)]
  have hr : ql d n 0 false = (QL (seg d 0 n), 0 + n, false) := by
   unfold ql
   dsimp only
   rw [hn', hst]
   rfl
  rw [hr]
  by_cases c2 : (d.length : Int) = n
  ·have hseg : seg d 0 n = d := by
    unfold seg
    rw [show (0 : Int).toNat = 0 from rfl, List.drop_zero, List.take_of_length_le (by omega)]
   rw [hseg]
   simp [Zm, c2]
  ·have c3 : ¬ ((d.length : Int) - (0 + n) = 0) := by omega
   simp [Zm, c2]
   omega
 ·have hst : qY d n 0 false = ([], false, 0, true) := by
   unfold qY
   rw [if_neg (by simp), if_pos (by simp; omega)]
  have hr : ql d n 0 false = (0, 0, true) := by
   unfold ql
   dsimp only
   rw [hn', hst]
   rfl
  rw [hr]
  have c2 : ¬ ((d.length : Int) = n) := by omega
  simp [c2]
theorem qjv {α : Type} (x : α) (m : List α) : idx (x :: m) (0 : Int) = some x := rfl
theorem qc4.pure (t n : Int) (l : LF) (bad : Bool) (hl : (zM l && n7 n) = true) : qc4.f 0 t n l bad = some ((zp l bad t n).1, (zp l bad t n).2.1, (zp l bad t n).2.2) := by
 rw [Bool.and_eq_true] at hl
 obtain ⟨hf, hn⟩ := hl
 obtain ⟨f1, f2⟩ := (ZZ l).1 hf
 unfold qc4.f qc4.b zp
 cases bad
 ·cases l with
  | nil => rfl
  | cons x m =>
   have hx : inB x.2 = true := ((qaL _).1 (f2 x (by simp))).1
   rw [if_neg (by simp), if_neg (by simp; omega), qjv]
   dsimp only
   by_cases c : x.1 = t
   ·rw [if_neg (by simpa using c), if_pos (by rw [hx, hn]; rfl), if_pos (by simp; omega), if_neg (by simp [c])]
    simp
   ·rw [if_pos (by simpa using c), if_pos (by simp [c])]
 ·rw [if_pos rfl]
  cases l <;> simp
theorem qbF.pure (t : Int) (l : LF) (bad : Bool) (hl : zM l = true) : qbF.f 0 t l bad = some ((QY l bad t).1, (QY l bad t).2.1, (QY l bad t).2.2.1, (QY l bad t).2.2.2) := by
 unfold qbF.f qbF.b QY
 simp only [veil_eq]
 rw [hl, if_pos (by rfl)]
theorem qh2 (l : List Int) (n a : Int) (rest : List Int) (h1 : 1 ≤ n) (h7 : n ≤ 7) (h0 : 0 ≤ a) (hd : l.drop a.toNat = rest) (ha : a ≤ (l.length : Int)) (hr : (rest.length : Int) < n) : ql l n a false = (0, a, true) := by
 have hn' : (if (decide (n < 1) || decide (n > 7)) = true then (-1 : Int) else n) = n := if_neg (by simp; omega)
 have hlen : rest.length = l.length - a.toNat := by rw [← hd]; simp
 have hst : qY l n a false = ([], false, a, true) := by
  unfold qY
  rw [if_neg (by simp), if_pos (by simp; omega)]
 unfold ql
 dsimp only
 rw [hn', hst]
 rfl
theorem be2 (h w : Int) (h0 : 0 ≤ h) (h1 : h < 256) (w0 : 0 ≤ w) (w1 : w < 256) : be 2 (h * 256 + w) = [h, w] := by
 show be 1 ((h * 256 + w) / 256) ++ [(h * 256 + w) % 256] = [h, w]
 rw [show (h * 256 + w) / 256 = h from by omega, show (h * 256 + w) % 256 = w from by omega, be1 h h0 h1]
 rfl
theorem Qs.loop (qa : Nat) (l : List Int) (hl : inS l = true) : ∀ (k m : Nat) (a : Int) (acc : LF), zk l a = true → l.length - a.toNat < k → l.length - a.toNat ≤ m → acc.length ≤ a.toNat →
  Qs.l3 qa l k acc a false = (match QN m (l.drop a.toNat) with | some r => some (acc ++ r, 0) | none => some ([], 2)) := by
 obtain ⟨hb, hlen⟩ := (qaL l).1 hl
 intro k
 induction k with
 | zero => intro m a acc h1 h2; omega
 | succ k ih =>
  intro m a acc h1 h2 h3 h4
  obtain ⟨k1, k2, k3⟩ := (zA l a).1 h1
  rw [Qs.l3]
  unfold Qs.b3
  simp only [veil_eq]
  rw [if_pos h1]
  generalize hd : l.drop a.toNat = rest
  have hrl : rest.length = l.length - a.toNat := by rw [← hd]; simp
  have hmem : ∀ c ∈ rest, 0 ≤ c ∧ c ≤ 255 := fun c hc => ((Qy l).1 hb).2 c (List.mem_of_mem_drop (hd ▸ hc))
  cases rest with
  | nil =>
   simp at hrl
   rw [if_neg (by simp [Zm]; omega)]
   cases m <;> simp [QN]
  | cons t rest =>
   simp at hrl
   obtain ⟨m, rfl⟩ : ∃ m', m = m' + 1 := ⟨m - 1, by omega⟩
   have ht := hmem t (by simp)
   rw [if_pos (by simp [Zm]; omega), if_pos h1]
   have hr1 := qaK l 1 a t rest h1 (by omega) (by omega) ht.1 (by simp; omega) (by rw [hd, n1, be1 t ht.1 (by omega)]; rfl)
   obtain ⟨r1, r2, r3⟩ := hr1
   rw [r1]
   dsimp only
   rw [if_pos r3]
   match rest, hrl, hmem, hd, r2 with
   | [], hrl, hmem, hd, r2 =>
    rw [qh2 l 2 (a + 1) [] (by omega) (by omega) (by omega) r2 (by simp at hrl; omega) (by simp)]
    dsimp only
    rw [if_pos r3]
    simp [qY, QN]
   | [h], hrl, hmem, hd, r2 =>
    rw [qh2 l 2 (a + 1) [h] (by omega) (by omega) (by omega) r2 (by simp at hrl; omega) (by simp)]
    dsimp only
    rw [if_pos r3]
    simp [qY, QN]
   | h :: w :: rest, hrl, hmem, hd, r2 =>
    have hh := hmem h (by simp)
    have hw := hmem w (by simp)
    simp at hrl
    obtain ⟨q1, q2, q3⟩ := qaK l 2 (a + 1) (h * 256 + w) rest r3 (by omega) (by omega) (by omega) (by simp; omega) (by rw [r2, n2, be2 h w hh.1 (by omega) hw.1 (by omega)]; rfl)
    rw [q1]
    dsimp only
    rw [if_pos q3]
    rw [QN]
    have e3 : a + 1 + 2 = a + 3 := by omega
    rw [e3] at q2 q3 ⊢
    by_cases c : h * 256 + w > (rest.length : Int)
    ·have hst : qY l (h * 256 + w) (a + 3) false = ([], false, a + 3, true) := by
      unfold qY
      rw [if_neg (by simp), if_pos (by simp; omega)]
     rw [hst, if_pos c]
     rfl
    ·have hst : qY l (h * 256 + w) (a + 3) false = (seg l (a + 3) (h * 256 + w), true, a + 3 + (h * 256 + w), false) := by
      unfold qY
      rw [if_neg (by simp), if_neg (by simp; omega)]
     have hseg : seg l (a + 3) (h * 256 + w) = rest.take (h * 256 + w).toNat := by
      unfold seg
      rw [List.drop_take, show (a + 3 + (h * 256 + w)).toNat = (a + 3).toNat + (h * 256 + w).toNat from by omega, Nat.add_sub_cancel_left, q2]
     have hdr : l.drop (a + 3 + (h * 256 + w)).toNat = rest.drop (h * 256 + w).toNat := by
      rw [show (a + 3 + (h * 256 + w)).toNat = (a + 3).toNat + (h * 256 + w).toNat from by omega, ← List.drop_drop, q2]
     rw [hst, if_neg c]
     dsimp only
     rw [if_neg (by simp), if_pos (by simp [lim]; omega)]
     rw [ih m (a + 3 + (h * 256 + w)) _ ((zA _ _).2 ⟨hb, by omega, by omega⟩) (by omega) (by omega) (by simp; omega), hdr, hseg]
     cases QN m (rest.drop (h * 256 + w).toNat) <;> simp
theorem Qs.pure (l : List Int) (hl : inS l = true) : Qs.f (l.length + 1) l = some ((zU l).1, (zU l).2) := by
 obtain ⟨hb, hlen⟩ := (qaL l).1 hl
 unfold Qs.f Qs.b
 rw [if_pos hb, Qs.loop (l.length + 1) l hl (l.length + 1) l.length 0 [] ((zA _ _).2 ⟨hb, by omega, by omega⟩) (by simp) (by simp) (by simp)]
 unfold zU
 rw [show (0 : Int).toNat = 0 from rfl, List.drop_zero]
 cases QN l.length l <;> rfl
theorem qi1 : SumOk Tryz.prog 25 qjK := by
 have hE : EnvOk Tryz.prog qk8 := env_ok (l := [(51, qcL)]) th_ok qU ⟨⟨qi2, qhI⟩, trivial⟩ _
 refine sum_ok hE Tryz.func25 rfl (by kernel_rfl) qjK [.dat (.sl (.int .u8)) false] qby.k ?_
 intro R avs qj κ r h
 unfold qjK at h
 simp only at h
 split at h
 ·rename_i n l a bad
  split at h
  case isFalse => cases h
  rename_i hl
  refine ⟨0, _, _, _, (qby.eq (0) n l a bad).trans (qby.pure n l a bad hl), ?_, h⟩
  intro rs ros hk
  unfold qby.k at hk
  split at hk
  ·first | (cases hk; exact ⟨rfl, rfl⟩) | (rw [← Option.some.inj hk]; exact ⟨rfl, rfl⟩)
  ·cases hk
 ·cases h
theorem qer : SumDet qbs := zi fun _ _ _ _ => by
 unfold qbs
 simp only [veil_eq]
 split
 ·first | rfl | (split <;> rfl)
 ·rfl
theorem qe7 : SumOk Tryz.prog 25 qbs := ⟨qi1.1, fun avs qj κ r hr => qi1.2 avs qj κ r (by
 unfold qbs at hr
 simp only [veil_eq] at hr
 split at hr
 ·exact hr
 ·cases hr)⟩
theorem qhJ : SumOk Tryz.prog 74 qiv := by
 have hE : EnvOk Tryz.prog qiO := env_ok (l := [(23, Z1), (90, qcO), (24, QO), (25, qbs), (66, ZY)]) th_ok qU ⟨⟨qcx, qbW⟩, ⟨qi4, qhN⟩, ⟨qai, ZX⟩, ⟨qe7, qer⟩, ⟨qbN, qa9⟩, trivial⟩ _
 refine sum_ok hE Tryz.func74 rfl (by kernel_rfl) qiv [.dat (.sl (.pair tQi (.sl (.int .u8)))) false, .raw] Qs.k ?_
 intro R avs qj κ r h
 unfold qiv at h
 simp only at h
 split at h
 ·rename_i l
  split at h
  case isFalse => cases h
  rename_i hl
  refine ⟨l.length + 1, _, _, _, (Qs.eq (l.length + 1) l).trans (Qs.pure l hl), ?_, h⟩
  intro rs ros hk
  unfold Qs.k at hk
  split at hk
  ·first | (cases hk; exact ⟨rfl, rfl⟩) | (rw [← Option.some.inj hk]; exact ⟨rfl, rfl⟩)
  ·cases hk
 ·cases h
theorem qf1 : SumDet qbJ := zi fun _ _ _ _ => by
 unfold qbJ
 simp only [veil_eq]
 split
 ·first | rfl | (split <;> rfl)
 ·rfl
theorem qgM : SumOk Tryz.prog 74 qbJ := ⟨qhJ.1, fun avs qj κ r hr => qhJ.2 avs qj κ r (by
 unfold qbJ at hr
 simp only [veil_eq] at hr
 split at hr
 ·exact hr
 ·cases hr)⟩
theorem qks : SumDet qda := zi fun _ _ _ _ => by
 unfold qda
 simp only
 split
 ·first | rfl | (split <;> rfl)
 ·rfl
theorem qls : SumOk Tryz.prog 92 qda := by
 have hE : EnvOk Tryz.prog qk6 := env_ok (l := [(23, Z1), (24, qcM), (68, qbL)]) th_ok qU ⟨⟨qcx, qbW⟩, ⟨qei, qhK⟩, ⟨qf4, qfg⟩, trivial⟩ _
 refine sum_ok hE Tryz.func92 rfl (by kernel_rfl) qda [.raw, .raw] Value.k ?_
 intro R avs qj κ r h
 unfold qda at h
 simp only at h
 split at h
 ·rename_i t d n
  split at h
  case isFalse => cases h
  rename_i hl
  refine ⟨0, _, _, _, (Value.eq (0) t d n).trans (Value.pure t n d hl), ?_, h⟩
  intro rs ros hk
  unfold Value.k at hk
  split at hk
  ·first | (cases hk; exact ⟨rfl, rfl⟩) | (rw [← Option.some.inj hk]; exact ⟨rfl, rfl⟩)
  ·cases hk
 ·cases h
theorem qi5 : SumOk Tryz.prog 75 qjP := by
 have hE : EnvOk Tryz.prog qni := env_ok (l := [(92, qda)]) th_ok qU ⟨⟨qls, qks⟩, trivial⟩ _
 refine sum_ok hE Tryz.func75 rfl (by kernel_rfl) qjP [.raw] qc4.k ?_
 intro R avs qj κ r h
 unfold qjP at h
 simp only at h
 split at h
 ·rename_i t n l bad
  split at h
  case isFalse => cases h
  rename_i hl
  refine ⟨0, _, _, _, (qc4.eq (0) t n l bad).trans (qc4.pure t n l bad hl), ?_, h⟩
  intro rs ros hk
  unfold qc4.k at hk
  split at hk
  ·first | (cases hk; exact ⟨rfl, rfl⟩) | (rw [← Option.some.inj hk]; exact ⟨rfl, rfl⟩)
  ·cases hk
 ·cases h
theorem qdo : SumDet qaI := zi fun _ _ _ _ => by
 unfold qaI
 simp only [veil_eq]
 split
 ·first | rfl | (split <;> rfl)
 ·rfl
theorem qdM : SumOk Tryz.prog 75 qaI := ⟨qi5.1, fun avs qj κ r hr => qi5.2 avs qj κ r (by
 unfold qaI at hr
 simp only [veil_eq] at hr
 split at hr
 ·exact hr
 ·cases hr)⟩
theorem qhP : SumOk Tryz.prog 77 qiz := by
 have hE : EnvOk Tryz.prog qlf := env_ok (l := [(75, qaI), (65, qcf)]) th_ok qU ⟨⟨qdM, qdo⟩, ⟨qf2, qe9⟩, trivial⟩ _
 refine sum_ok hE Tryz.func77 rfl (by kernel_rfl) qiz [.dat (.pair tQi tQi) true] qbF.k ?_
 intro R avs qj κ r h
 unfold qiz at h
 simp only at h
 split at h
 ·rename_i t l bad
  split at h
  case isFalse => cases h
  rename_i hl
  refine ⟨0, _, _, _, (qbF.eq (0) t l bad).trans (qbF.pure t l bad hl), ?_, h⟩
  intro rs ros hk
  unfold qbF.k at hk
  split at hk
  ·first | (cases hk; exact ⟨rfl, rfl⟩) | (rw [← Option.some.inj hk]; exact ⟨rfl, rfl⟩)
  ·cases hk
 ·cases h
theorem qf3 : SumDet qbK := zi fun _ _ _ _ => by
 unfold qbK
 simp only [veil_eq]
 split
 ·first | rfl | (split <;> rfl)
 ·rfl
theorem qgO : SumOk Tryz.prog 77 qbK := ⟨qhP.1, fun avs qj κ r hr => qhP.2 avs qj κ r (by
 unfold qbK at hr
 simp only [veil_eq] at hr
 split at hr
 ·exact hr
 ·cases hr)⟩
def QE (b : List Int) : (Int × Int × Int × (Int × Int) × Bool × LF) × Bool :=
 let y := zU b
 let y1 := zp y.1 (y.2 != 0) 1 2
 let y2 := zp y1.2.1 y1.2.2 2 4
 let y3 := zp y2.2.1 y2.2.2 3 1
 let y4 := QY y3.2.1 y3.2.2 4
 ((y1.1, y2.1, y3.1 % 128, (y4.1, y4.2.1), decide (y3.1 ≥ 128), y4.2.2.1), !y4.2.2.2)
def Qd (qh p : Int) (l : LF) (bad : Bool) (t : Int) : Int × LF × Bool := if qt qh p then zp l bad t 2 else (0, l, bad)
def qjM : Den.Sum := ⟨[.dat (.sl (.int .u8)) false], fun qA qj κ => match qA, qj with
 | [.d (.sl (.int .u8)) b], [] => if inS b = true then κ [.agg [.d (.int .i64) (QE b).1.1, .d (.int .i64) (QE b).1.2.1, .d (.int .i64) (QE b).1.2.2.1, .d (.int .i64) (QE b).1.2.2.2.1.1, .d (.int .i64) (QE b).1.2.2.2.1.2, .d .bool (QE b).1.2.2.2.2.1, .d (.sl (.pair (.int .i64) (.sl (.int .u8)))) (QE b).1.2.2.2.2.2], .d .bool (QE b).2] [] else none
 | _, _ => none⟩
def qdQ : Den.Sum := ⟨[.dat (.sl (.int .u8)) false], fun qA qj κ => match qA, qj with
 | [.d (.sl (.int .u8)) b], [] => if inS b = true then (match veil (some (QE b)) with | none => none | some y => κ [.agg [.d (.int .i64) y.1.1, .d (.int .i64) y.1.2.1, .d (.int .i64) y.1.2.2.1, .d (.int .i64) y.1.2.2.2.1.1, .d (.int .i64) y.1.2.2.2.1.2, .d .bool y.1.2.2.2.2.1, .d (.sl (.pair (.int .i64) (.sl (.int .u8)))) y.1.2.2.2.2.2], .d .bool y.2] []) else none
 | _, _ => none⟩
def qnr : Den.Sum := ⟨[.raw, .raw, .raw, .raw], fun qA qj κ => match qA, qj with
 | [.d (.int .i64) p, .d (.int .i64) t, .ptr 0 0, .ptr 1 0], [.box [.d (.int .i64) qh, .d (.int .i64) qv, .d (.int .i64) inc, .d (.int .i64) lo, .d (.int .i64) hi, .d (.int .i64) seq, .d (.int .i64) qk, .d (.int .i64) qQ, .d (.int .i64) qB, .d (.int .i64) qc, .nilsl], .box [.ptr 2 0], .box [.d (.sl (.pair (.int .i64) (.sl (.int .u8)))) l, .d .bool bad]] => if zM l = true then κ [.d (.int .i64) (Qd qh p l bad t).1] [.box [.d (.int .i64) qh, .d (.int .i64) qv, .d (.int .i64) inc, .d (.int .i64) lo, .d (.int .i64) hi, .d (.int .i64) seq, .d (.int .i64) qk, .d (.int .i64) qQ, .d (.int .i64) qB, .d (.int .i64) qc, .nilsl], .box [.ptr 2 0], .box [.d (.sl (.pair (.int .i64) (.sl (.int .u8)))) (Qd qh p l bad t).2.1, .d .bool (Qd qh p l bad t).2.2]] else none
 | _, _ => none⟩
def qgv : Den.Sum := ⟨[.raw, .raw, .raw, .raw], fun qA qj κ => match qA, qj with
 | [.d (.int .i64) p, .d (.int .i64) t, .ptr 0 0, .ptr 1 0], [.box [.d (.int .i64) qh, .d (.int .i64) qv, .d (.int .i64) inc, .d (.int .i64) lo, .d (.int .i64) hi, .d (.int .i64) seq, .d (.int .i64) qk, .d (.int .i64) qQ, .d (.int .i64) qB, .d (.int .i64) qc, .nilsl], .box [.ptr 2 0], .box [.d (.sl (.pair (.int .i64) (.sl (.int .u8)))) l, .d .bool bad]] => if zM l = true then (match veil (some (Qd qh p l bad t)) with | none => none | some y => κ [.d (.int .i64) y.1] [.box [.d (.int .i64) qh, .d (.int .i64) qv, .d (.int .i64) inc, .d (.int .i64) lo, .d (.int .i64) hi, .d (.int .i64) seq, .d (.int .i64) qk, .d (.int .i64) qQ, .d (.int .i64) qB, .d (.int .i64) qc, .nilsl], .box [.ptr 2 0], .box [.d (.sl (.pair (.int .i64) (.sl (.int .u8)))) y.2.1, .d .bool y.2.2]]) else none
 | _, _ => none⟩
def qnf : Env := ⟨th, gam [(74, qbJ), (75, qaI), (77, qbK)], fun i => ⟨[], [], []⟩⟩
def qc1.k (rs : List AV) (os : List Den.Obj) : Option (Int × Int × Int × Int × Int × Bool × LF × Bool) :=
 match rs, os with
 | [.agg [.d (.int .i64) r0, .d (.int .i64) r1, .d (.int .i64) r2, .d (.int .i64) r3, .d (.int .i64) r4, .d .bool r5, .d (.sl (.pair (.int .i64) (.sl (.int .u8)))) r6], .d .bool r7], [] => some (r0, r1, r2, r3, r4, r5, r6, r7)
 | _, _ => none
def qc1.b (b : List Int) : Option (Int × Int × Int × Int × Int × Bool × LF × Bool) :=
 (if (inS b) then (match (veil (Option.some (zU b))) with | none => none | some y0 => (if ((zM y0.1) && (n7 (2 : Int))) then (match (veil (Option.some (zp y0.1 (y0.2 != (0 : Int)) (1 : Int) (2 : Int)))) with | none => none | some y1 => (if ((zM y1.2.1) && (n7 (4 : Int))) then (match (veil (Option.some (zp y1.2.1 y1.2.2 (2 : Int) (4 : Int)))) with | none => none | some y2 => (if ((zM y2.2.1) && (n7 (1 : Int))) then (match (veil (Option.some (zp y2.2.1 y2.2.2 (3 : Int) (1 : Int)))) with | none => none | some y3 => (if (zM y3.2.1) then (match (veil (Option.some (QY y3.2.1 y3.2.2 (4 : Int)))) with | none => none | some y4 => (if (((((List.length y4.2.2.1)) : Nat) : Int) == (0 : Int)) then some (y1.1, y2.1, (bits BinOp.andNot .i64 y3.1 (128 : Int)), y4.1, y4.2.1, (decide (y3.1 ≥ (128 : Int))), ([] : LF), (!y4.2.2.2)) else some (y1.1, y2.1, (bits BinOp.andNot .i64 y3.1 (128 : Int)), y4.1, y4.2.1, (decide (y3.1 ≥ (128 : Int))), y4.2.2.1, (!y4.2.2.2)))) else none)) else none)) else none)) else none)) else none)
def qc1.f (qa : Nat) (b : List Int) : Option (Int × Int × Int × Int × Int × Bool × LF × Bool) := qc1.b b
theorem qc1.eq (qa : Nat) (b : List Int) : (denF qnf loopN qa Tryz.f78 [.dat tQr true, .raw] [.d (.sl (.int .u8)) b] [] qc1.k) = qc1.f qa b := by
 kernel_rfl
def qoz : Env := ⟨th, gam [(71, ZI), (75, qaI)], fun i => ⟨[], [], []⟩⟩
def Tk.k (rs : List AV) (os : List Den.Obj) : Option (Int × Int × Int × Int × Int × Int × Int × Int × Int × Int × Int × LF × Bool) :=
 match rs, os with
 | [.d (.int .i64) r0], [.box [.d (.int .i64) r1, .d (.int .i64) r2, .d (.int .i64) r3, .d (.int .i64) r4, .d (.int .i64) r5, .d (.int .i64) r6, .d (.int .i64) r7, .d (.int .i64) r8, .d (.int .i64) r9, .d (.int .i64) r10, .nilsl], .box [.ptr 2 0], .box [.d (.sl (.pair (.int .i64) (.sl (.int .u8)))) r11, .d .bool r12]] => some (r0, r1, r2, r3, r4, r5, r6, r7, r8, r9, r10, r11, r12)
 | _, _ => none
def Tk.b (p t qh qv inc lo hi seq qk qQ qB qc : Int) (l : LF) (bad : Bool) : Option (Int × Int × Int × Int × Int × Int × Int × Int × Int × Int × Int × LF × Bool) :=
 (if (!(qt qh p)) then some ((0 : Int), qh, qv, inc, lo, hi, seq, qk, qQ, qB, qc, l, bad) else (if ((zM l) && (n7 (2 : Int))) then (match (veil (Option.some (zp l bad t (2 : Int)))) with | none => none | some y0 => some (y0.1, qh, qv, inc, lo, hi, seq, qk, qQ, qB, qc, y0.2.1, y0.2.2)) else none))
def Tk.f (qa : Nat) (p t qh qv inc lo hi seq qk qQ qB qc : Int) (l : LF) (bad : Bool) : Option (Int × Int × Int × Int × Int × Int × Int × Int × Int × Int × Int × LF × Bool) := Tk.b p t qh qv inc lo hi seq qk qQ qB qc l bad
theorem Tk.eq (qa : Nat) (p t qh qv inc lo hi seq qk qQ qB qc : Int) (l : LF) (bad : Bool) : (denF qoz loopN qa Tryz.f76 [.raw] [.d tQi p, .d tQi t, .ptr 0 0, .ptr 1 0] [.box [.d tQi qh, .d tQi qv, .d tQi inc, .d tQi lo, .d tQi hi, .d tQi seq, .d tQi qk, .d tQi qQ, .d tQi qB, .d tQi qc, .nilsl], .box [.ptr 2 0], .box [.d (.sl (.pair tQi (.sl (.int .u8)))) l, .d .bool bad]] Tk.k) = Tk.f qa p t qh qv inc lo hi seq qk qQ qB qc l bad := by
 kernel_rfl
theorem qcH : ∀ (k : Nat) (l : List Int) (r : LF), (∀ c ∈ l, 0 ≤ c ∧ c ≤ 255) → QN k l = some r →
  r.flatMap zX = l ∧ 3 * r.length ≤ l.length ∧ ∀ x ∈ r, (0 ≤ x.1 ∧ x.1 ≤ 255) ∧ x.2.length ≤ 65535 ∧ x.2.length ≤ l.length ∧ ∀ c ∈ x.2, 0 ≤ c ∧ c ≤ 255
 | k, [], r, hl, h => by
  have : r = [] := by cases k <;> simp [QN] at h <;> exact h.symm ▸ rfl
  subst this
  simp
 | 0, t :: l, r, hl, h => by simp [QN] at h
 | k + 1, [t], r, hl, h => by simp [QN] at h
 | k + 1, [t, a], r, hl, h => by simp [QN] at h
 | k + 1, t :: a :: w :: m, r, hl, h => by
  rw [QN] at h
  have ht := hl t (by simp)
  have ha := hl a (by simp)
  have hw := hl w (by simp)
  split at h
  ·cases h
  ·rename_i c
   generalize hn : (a * 256 + w).toNat = n at h
   have hnn : (n : Int) = a * 256 + w := by omega
   cases hs : QN k (m.drop n) with
   | none => rw [hs] at h; cases h
   | some q =>
    rw [hs] at h
    simp at h
    subst h
    obtain ⟨i1, i2, i3⟩ := qcH k (m.drop n) q (fun c hc => hl c (by simp [List.mem_of_mem_drop hc])) hs
    have hlen : (m.take n).length = n := by rw [List.length_take]; omega
    refine ⟨?_, ?_, ?_⟩
    ·rw [List.flatMap_cons, i1]
     unfold zX
     rw [hlen]
     have e1 : ((n / 256 : Nat) : Int) = a := by omega
     have e2 : ((n % 256 : Nat) : Int) = w := by omega
     simp only [e1, e2]
     simp
    ·simp at i2 ⊢; omega
    ·intro x hx
     rcases List.mem_cons.1 hx with rfl | hx
     ·refine ⟨ht, by rw [hlen]; omega, by rw [hlen]; simp; omega, fun c hc => hl c (by simp [List.mem_of_mem_take hc])⟩
     ·obtain ⟨j1, j2, j3, j4⟩ := i3 x hx
      refine ⟨j1, j2, ?_, j4⟩
      simp at j3 ⊢
      omega
theorem qcC {l : List Int} (h : inB l = true) : ∀ c ∈ l, 0 ≤ c ∧ c ≤ 255 := ((Qy l).1 h).2
theorem qj4 {l : List Int} (h : ∀ c ∈ l, 0 ≤ c ∧ c ≤ 255) (hl : l.length < 1000000000) : inS l = true := (qaL l).2 ⟨(Qy l).2 ⟨by omega, h⟩, hl⟩
theorem qcG (b : List Int) (h : inS b = true) : zM (zU b).1 = true := by
 obtain ⟨hb, hl⟩ := (qaL b).1 h
 unfold zU
 cases hs : QN b.length b with
 | none => rfl
 | some r =>
  obtain ⟨i1, i2, i3⟩ := qcH b.length b r (qcC hb) hs
  refine (ZZ _).2 ⟨by show r.length < _; omega, fun x hx => ?_⟩
  obtain ⟨j1, j2, j3, j4⟩ := i3 x hx
  exact qj4 j4 (by omega)
theorem Qm {l : LF} (h : zM l = true) (bad : Bool) (t n : Int) : zM (zp l bad t n).2.1 = true := by
 unfold zp
 cases l with
 | nil => rfl
 | cons x m =>
  dsimp only
  split
  ·exact h
  ·obtain ⟨h1, h2⟩ := (ZZ _).1 h
   refine (ZZ _).2 ⟨?_, fun y hy => h2 y (by simp [hy])⟩
   simp at h1
   show m.length < _
   omega
theorem qfV {l : LF} (h : zM l = true) (bad : Bool) (t : Int) : zM (QY l bad t).2.2.1 = true := Qm h bad t 1
theorem qiU {l : LF} (h : zM l = true) (bad : Bool) (t : Int) : 0 ≤ (zp l bad t 1).1 ∧ (zp l bad t 1).1 ≤ 255 := by
 unfold zp
 cases l with
 | nil => simp
 | cons x m =>
  dsimp only
  split
  ·simp
  ·unfold qc9
   split
   ·rename_i c
    have hx := ((qaL _).1 (((ZZ _).1 h).2 x (by simp))).1
    have hb := qcC hx
    obtain ⟨a, v⟩ := x
    simp at c
    match v, c with
    | [c0], _ =>
     have := hb c0 (by simp)
     simp [QL]
     omega
   ·simp
theorem qna (v : Int) (h0 : 0 ≤ v) (h1 : v ≤ 255) : bits BinOp.andNot .i64 v 128 = v % 128 := by
 have key : ∀ i : Fin 256, bits BinOp.andNot .i64 ((i.val : Nat) : Int) 128 = ((i.val : Nat) : Int) % 128 := by decide +kernel
 have := key ⟨v.toNat, by omega⟩
 simp only [Int.toNat_of_nonneg h0] at this
 exact this
theorem qc1.pure (b : List Int) (hl : inS b = true) : qc1.f 0 b = some ((QE b).1.1, (QE b).1.2.1, (QE b).1.2.2.1, (QE b).1.2.2.2.1.1, (QE b).1.2.2.2.1.2, (QE b).1.2.2.2.2.1, (QE b).1.2.2.2.2.2, (QE b).2) := by
 unfold qc1.f qc1.b
 simp only [veil_eq]
 have h0 := qcG b hl
 have h1 := Qm h0 ((zU b).2 != 0) 1 2
 unfold QE
 dsimp only
 generalize zp (zU b).1 ((zU b).2 != 0) 1 2 = y1 at h1 ⊢
 have h2 := Qm h1 y1.2.2 2 4
 generalize zp y1.2.1 y1.2.2 2 4 = y2 at h2 ⊢
 have h3 := Qm h2 y2.2.2 3 1
 have h3b := qiU h2 y2.2.2 3
 generalize zp y2.2.1 y2.2.2 3 1 = y3 at h3 h3b ⊢
 generalize QY y3.2.1 y3.2.2 4 = y4
 rw [hl, h0, h1, h2, h3, qna _ h3b.1 h3b.2]
 have k2 : n7 2 = true := rfl
 have k4 : n7 4 = true := rfl
 have k1 : n7 1 = true := rfl
 rw [k2, k4, k1]
 simp only [Bool.and_self, if_true]
 split
 ·rename_i c
  have : y4.2.2.1 = [] := by simpa using c
  rw [this]
 ·rfl
theorem Tk.pure (p t qh qv inc lo hi seq qk qQ qB qc : Int) (l : LF) (bad : Bool) (hl : zM l = true) :
  Tk.f 0 p t qh qv inc lo hi seq qk qQ qB qc l bad = some ((Qd qh p l bad t).1, qh, qv, inc, lo, hi, seq, qk, qQ, qB, qc, (Qd qh p l bad t).2.1, (Qd qh p l bad t).2.2) := by
 unfold Tk.f Tk.b Qd
 simp only [veil_eq]
 have k2 : n7 2 = true := rfl
 rw [hl, k2]
 cases qt qh p <;> rfl
theorem qi3 : SumOk Tryz.prog 78 qjM := by
 have hE : EnvOk Tryz.prog qnf := env_ok (l := [(74, qbJ), (75, qaI), (77, qbK)]) th_ok qU ⟨⟨qgM, qf1⟩, ⟨qdM, qdo⟩, ⟨qgO, qf3⟩, trivial⟩ _
 refine sum_ok hE Tryz.func78 rfl (by kernel_rfl) qjM [.dat tQr true, .raw] qc1.k ?_
 intro R avs qj κ r h
 unfold qjM at h
 simp only at h
 split at h
 ·rename_i b
  split at h
  case isFalse => cases h
  rename_i hl
  refine ⟨0, _, _, _, (qc1.eq (0) b).trans (qc1.pure b hl), ?_, h⟩
  intro rs ros hk
  unfold qc1.k at hk
  split at hk
  ·first | (cases hk; exact ⟨rfl, rfl⟩) | (rw [← Option.some.inj hk]; exact ⟨rfl, rfl⟩)
  ·cases hk
 ·cases h
theorem qkx : SumDet qdQ := zi fun _ _ _ _ => by
 unfold qdQ
 simp only [veil_eq]
 split
 ·first | rfl | (split <;> rfl)
 ·rfl
theorem qlC : SumOk Tryz.prog 78 qdQ := ⟨qi3.1, fun avs qj κ r hr => qi3.2 avs qj κ r (by
 unfold qdQ at hr
 simp only [veil_eq] at hr
 split at hr
 ·exact hr
 ·cases hr)⟩
theorem qkO : SumOk Tryz.prog 76 qnr := by
 have hE : EnvOk Tryz.prog qoz := env_ok (l := [(71, ZI), (75, qaI)]) th_ok qU ⟨⟨qbe, qaP⟩, ⟨qdM, qdo⟩, trivial⟩ _
 refine sum_ok hE Tryz.func76 rfl (by kernel_rfl) qnr [.raw] Tk.k ?_
 intro R avs qj κ r h
 unfold qnr at h
 simp only at h
 split at h
 ·rename_i p t qh qv inc lo hi seq qk qQ qB qc l bad
  split at h
  case isFalse => cases h
  rename_i hl
  refine ⟨0, _, _, _, (Tk.eq (0) p t qh qv inc lo hi seq qk qQ qB qc l bad).trans (Tk.pure p t qh qv inc lo hi seq qk qQ qB qc l bad hl), ?_, h⟩
  intro rs ros hk
  unfold Tk.k at hk
  split at hk
  ·first | (cases hk; exact ⟨rfl, rfl⟩) | (rw [← Option.some.inj hk]; exact ⟨rfl, rfl⟩)
  ·cases hk
 ·cases h
theorem qmw : SumDet qgv := zi fun _ _ _ _ => by
 unfold qgv
 simp only [veil_eq]
 split
 ·first | rfl | (split <;> rfl)
 ·rfl
theorem qnq : SumOk Tryz.prog 76 qgv := ⟨qkO.1, fun avs qj κ r hr => qkO.2 avs qj κ r (by
 unfold qgv at hr
 simp only [veil_eq] at hr
 split at hr
 ·exact hr
 ·cases hr)⟩
def qbv : LF → Option LR
 | [] => some []
 | x :: m => if !(QE x.2).2 || x.1 != 7 then none else (qbv m).map fun r => (QE x.2).1 :: r
def qgh (bad : Bool) (qh qv inc lo hi seq qk : Int) (qg : Option LR) : Int × Int × Int × Int × Int × Int × Int × LR × Int :=
 match qg with
 | none => (0, 0, 0, 0, 0, 0, 0, [], 4)
 | some r => if !bad && qaH qh qv inc lo hi seq qk 0 0 0 r then (qh, qv, inc, lo, hi, seq, qk, r, 0) else (0, 0, 0, 0, 0, 0, 0, [], 4)
def zO (b : List Int) : Int × Int × Int × Int × Int × Int × Int × LR × Int :=
 let y := zU b
 let y1 := zp y.1 (y.2 != 0 || decide ((b.length : Int) > 65499)) 1 1
 let y2 := zp y1.2.1 y1.2.2 2 2
 let y3 := zp y2.2.1 y2.2.2 3 6
 let y4 := QY y3.2.1 y3.2.2 4
 let y5 := Qd y1.1 0 y4.2.2.1 y4.2.2.2 5
 let y6 := Qd y1.1 1 y5.2.1 y5.2.2 6
 qgh y6.2.2 y1.1 y2.1 y3.1 y4.1 y4.2.1 y5.1 y6.1 (qbv y6.2.1)
def qjR : Den.Sum := ⟨[.dat (.sl (.int .u8)) false], fun qA qj κ => match qA, qj with
 | [.d (.sl (.int .u8)) b], [] => if inS b = true then κ [.agg [.d (.int .i64) (zO b).1, .d (.int .i64) (zO b).2.1, .d (.int .i64) (zO b).2.2.1, .d (.int .i64) (zO b).2.2.2.1, .d (.int .i64) (zO b).2.2.2.2.1, .d (.int .i64) (zO b).2.2.2.2.2.1, .d (.int .i64) (zO b).2.2.2.2.2.2.1, .d (.int .i64) 0, .d (.int .i64) 0, .d (.int .i64) 0, .d (.sl (.pair (.int .i64) (.pair (.int .i64) (.pair (.int .i64) (.pair (.pair (.int .i64) (.int .i64)) (.pair .bool (.sl (.pair (.int .i64) (.sl (.int .u8)))))))))) ((zO b).2.2.2.2.2.2.2.1)], .d (.int .i64) ((zO b).2.2.2.2.2.2.2.2)] [] else none
 | _, _ => none⟩
def qdR : Den.Sum := ⟨[.dat (.sl (.int .u8)) false], fun qA qj κ => match qA, qj with
 | [.d (.sl (.int .u8)) b], [] => if inS b = true then (match veil (some (zO b)) with | none => none | some y => κ [.agg [.d (.int .i64) y.1, .d (.int .i64) y.2.1, .d (.int .i64) y.2.2.1, .d (.int .i64) y.2.2.2.1, .d (.int .i64) y.2.2.2.2.1, .d (.int .i64) y.2.2.2.2.2.1, .d (.int .i64) y.2.2.2.2.2.2.1, .d (.int .i64) 0, .d (.int .i64) 0, .d (.int .i64) 0, .d (.sl (.pair (.int .i64) (.pair (.int .i64) (.pair (.int .i64) (.pair (.pair (.int .i64) (.int .i64)) (.pair .bool (.sl (.pair (.int .i64) (.sl (.int .u8)))))))))) (y.2.2.2.2.2.2.2.1)], .d (.int .i64) (y.2.2.2.2.2.2.2.2)] []) else none
 | _, _ => none⟩
def qgo : Env := ⟨th, gam [(74, qbJ), (76, qgv), (78, qdQ), (69, qbZ), (75, qaI), (77, qbK)], fun i => if i = 11 then ⟨[2, 6, 7, 50, 51, 52], [(1458, 115, tQr)], []⟩ else ⟨[], [], []⟩⟩
def zI.k (rs : List AV) (os : List Den.Obj) : Option (Int × Int × Int × Int × Int × Int × Int × Int × Int × Int × LR × Int) :=
 match rs, os with
 | [.agg [.d (.int .i64) r0, .d (.int .i64) r1, .d (.int .i64) r2, .d (.int .i64) r3, .d (.int .i64) r4, .d (.int .i64) r5, .d (.int .i64) r6, .d (.int .i64) r7, .d (.int .i64) r8, .d (.int .i64) r9, .d (.sl (.pair (.int .i64) (.pair (.int .i64) (.pair (.int .i64) (.pair (.pair (.int .i64) (.int .i64)) (.pair .bool (.sl (.pair (.int .i64) (.sl (.int .u8)))))))))) r10], .d (.int .i64) r11], [] => some (r0, r1, r2, r3, r4, r5, r6, r7, r8, r9, r10, r11)
 | _, _ => none
def zI.s11 (b : List Int) (x7 : LF) (x8 x9 : Int) (x10 : LF) (x11 : Bool) (x12 x13 x14 x15 x16 x17 x18 : Int) (x19 : LR) : St := ⟨[.dead, .dead, .ptr 64 0, dD, dD, dD, .ptr 65 0, .ptr 67 0, dD, dD, dD, dD, dD, dD, dD, dD, dD, dD, dD, dD, dD, dD, dD, dD, dD, dD, dD, dD, dD, dD, dD, dD, dD, dD, dD, dD, dD, dD, dD, dD, dD, dD, dD, dD, dD, dD, dD, dD, dD, dD, .d (.sl (.pair tQi (.sl (.int .u8)))) x7, .d tQi x8, .d tQi x9, dD, dD, dD, dD, dD, dD, dD, dD, dD, dD, dD, dD, dD, dD, dD, dD, dD, dD, dD, dD, dD, dD, dD, dD, dD, dD, dD, dD, dD, dD, dD, dD, dD, dD, .dead], ofL [(64, .box [.d tQi (0), .d tQi (0), .d tQi (0), .d tQi (0), .d tQi (0), .d tQi (0), .d tQi (0), .d tQi (0), .d tQi (0), .d tQi (0), .nilsl]), (65, .box [.ptr 66 0]), (66, .box [.d (.sl (.pair tQi (.sl (.int .u8)))) x10, .d .bool x11]), (67, .box [.d tQi x12, .d tQi x13, .d tQi x14, .d tQi x15, .d tQi x16, .d tQi x17, .d tQi x18, .d tQi (0), .d tQi (0), .d tQi (0), .row 68]), (68, .row 115 tQr x19 false)], 0⟩
def zI.p11 (qa : Nat) (b : List Int) (k : Nat) := fun x7 x8 x9 x10 x11 x12 x13 x14 x15 x16 x17 x18 x19 => lp qgo qa Tryz.f47 [.dat (.pair tQi (.pair tQi (.pair tQi (.pair (.pair tQi tQi) (.pair tQi (.pair tQi (.pair tQi (.pair tQi (.pair tQi (.sl tQr)))))))))) true, .raw] 0 zI.k 11 [] k (zI.s11 b x7 x8 x9 x10 x11 x12 x13 x14 x15 x16 x17 x18 x19)
def zI.b11 (b : List Int) (A11 : LF → Int → Int → LF → Bool → Int → Int → Int → Int → Int → Int → Int → LR → Option (Int × Int × Int × Int × Int × Int × Int × Int × Int × Int × LR × Int)) (x7 : LF) (x8 : Int) (x9 : Int) (x10 : LF) (x11 : Bool) (x12 : Int) (x13 : Int) (x14 : Int) (x15 : Int) (x16 : Int) (x17 : Int) (x18 : Int) (x19 : LR) : Option (Int × Int × Int × Int × Int × Int × Int × Int × Int × Int × LR × Int) :=
 (if (decide (x9 < x8)) then (match (idx x7 x9) with | none => none | some y20 => (if (inS y20.2) then (match (veil (Option.some (QE y20.2))) with | none => none | some y21 => (if (!y21.2) then some (0, 0, 0, 0, 0, 0, 0, 0, 0, 0, ([] : LR), (4 : Int)) else (if (y20.1 != (7 : Int)) then some (0, 0, 0, 0, 0, 0, 0, 0, 0, 0, ([] : LR), (4 : Int)) else (if ((((List.length x19) + (List.length ((y21.1.1, (y21.1.2.1, (y21.1.2.2.1, ((y21.1.2.2.2.1.1, y21.1.2.2.2.1.2), (y21.1.2.2.2.2.1, y21.1.2.2.2.2.2))))) :: ([] : LR)))) * (72 : Nat)) ≤ lim) then A11 x7 x8 (IntKind.wrap .i64 (x9 + (1 : Int))) x10 x11 x12 x13 x14 x15 x16 x17 x18 (x19 ++ ((y21.1.1, (y21.1.2.1, (y21.1.2.2.1, ((y21.1.2.2.2.1.1, y21.1.2.2.2.1.2), (y21.1.2.2.2.2.1, y21.1.2.2.2.2.2))))) :: ([] : LR))) else none)))) else none)) else (if x11 then some (0, 0, 0, 0, 0, 0, 0, 0, 0, 0, ([] : LR), (4 : Int)) else (if (za x19) then (if (!(qaH x12 x13 x14 x15 x16 x17 x18 0 0 0 x19)) then some (0, 0, 0, 0, 0, 0, 0, 0, 0, 0, ([] : LR), (4 : Int)) else some (x12, x13, x14, x15, x16, x17, x18, 0, 0, 0, x19, (0 : Int))) else none)))
def zI.l11 (qa : Nat) (b : List Int) : Nat → LF → Int → Int → LF → Bool → Int → Int → Int → Int → Int → Int → Int → LR → Option (Int × Int × Int × Int × Int × Int × Int × Int × Int × Int × LR × Int)
 | 0, _, _, _, _, _, _, _, _, _, _, _, _, _ => none
 | k + 1, x7, x8, x9, x10, x11, x12, x13, x14, x15, x16, x17, x18, x19 => zI.b11 b (zI.l11 qa b k) x7 x8 x9 x10 x11 x12 x13 x14 x15 x16 x17 x18 x19
def zI.b (b : List Int) (E11 : LF → Int → Int → LF → Bool → Int → Int → Int → Int → Int → Int → Int → LR → Option (Int × Int × Int × Int × Int × Int × Int × Int × Int × Int × LR × Int)) : Option (Int × Int × Int × Int × Int × Int × Int × Int × Int × Int × LR × Int) :=
 (if (inS b) then (match (veil (Option.some (zU b))) with | none => none | some y0 => (if (y0.2 != (0 : Int)) then (if ((zM y0.1) && (n7 (1 : Int))) then (match (veil (Option.some (zp y0.1 true (1 : Int) (1 : Int)))) with | none => none | some y1 => (if ((zM y1.2.1) && (n7 (2 : Int))) then (match (veil (Option.some (zp y1.2.1 y1.2.2 (2 : Int) (2 : Int)))) with | none => none | some y2 => (if ((zM y2.2.1) && (n7 (6 : Int))) then (match (veil (Option.some (zp y2.2.1 y2.2.2 (3 : Int) (6 : Int)))) with | none => none | some y3 => (if (zM y3.2.1) then (match (veil (Option.some (QY y3.2.1 y3.2.2 (4 : Int)))) with | none => none | some y4 => (if (zM y4.2.2.1) then (match (veil (Option.some (Qd y1.1 (0 : Int) y4.2.2.1 y4.2.2.2 (5 : Int)))) with | none => none | some y5 => (if (zM y5.2.1) then (match (veil (Option.some (Qd y1.1 (1 : Int) y5.2.1 y5.2.2 (6 : Int)))) with | none => none | some y6 => E11 y6.2.1 ((((List.length y6.2.1)) : Nat) : Int) (0 : Int) y6.2.1 y6.2.2 y1.1 y2.1 y3.1 y4.1 y4.2.1 y5.1 y6.1 ([] : LR)) else none)) else none)) else none)) else none)) else none)) else none) else (if ((zM y0.1) && (n7 (1 : Int))) then (match (veil (Option.some (zp y0.1 (decide (((((List.length b)) : Nat) : Int) > (65499 : Int))) (1 : Int) (1 : Int)))) with | none => none | some y22 => (if ((zM y22.2.1) && (n7 (2 : Int))) then (match (veil (Option.some (zp y22.2.1 y22.2.2 (2 : Int) (2 : Int)))) with | none => none | some y23 => (if ((zM y23.2.1) && (n7 (6 : Int))) then (match (veil (Option.some (zp y23.2.1 y23.2.2 (3 : Int) (6 : Int)))) with | none => none | some y24 => (if (zM y24.2.1) then (match (veil (Option.some (QY y24.2.1 y24.2.2 (4 : Int)))) with | none => none | some y25 => (if (zM y25.2.2.1) then (match (veil (Option.some (Qd y22.1 (0 : Int) y25.2.2.1 y25.2.2.2 (5 : Int)))) with | none => none | some y26 => (if (zM y26.2.1) then (match (veil (Option.some (Qd y22.1 (1 : Int) y26.2.1 y26.2.2 (6 : Int)))) with | none => none | some y27 => E11 y27.2.1 ((((List.length y27.2.1)) : Nat) : Int) (0 : Int) y27.2.1 y27.2.2 y22.1 y23.1 y24.1 y25.1 y25.2.1 y26.1 y27.1 ([] : LR)) else none)) else none)) else none)) else none)) else none)) else none))) else none)
def zI.f (qa : Nat) (b : List Int) : Option (Int × Int × Int × Int × Int × Int × Int × Int × Int × Int × LR × Int) := zI.b b (zI.l11 qa b qa)
theorem zI.l11_eq (qa : Nat) (b : List Int) : ∀ k : Nat, zI.p11 qa b k = zI.l11 qa b k
 | 0 => by kernel_rfl
 | k + 1 => by
  refine Eq.trans (b := zI.b11 b (zI.p11 qa b k)) (by kernel_rfl) ?_
  rw [zI.l11_eq qa b k]
  kernel_rfl
theorem zI.eq (qa : Nat) (b : List Int) : (denF qgo loopN qa Tryz.f47 [.dat (.pair tQi (.pair tQi (.pair tQi (.pair (.pair tQi tQi) (.pair tQi (.pair tQi (.pair tQi (.pair tQi (.pair tQi (.sl tQr)))))))))) true, .raw] [.d (.sl (.int .u8)) b] [] zI.k) = zI.f qa b := by
 refine Eq.trans (b := zI.b b (zI.p11 qa b qa)) (by kernel_rfl) ?_
 rw [zI.l11_eq qa b qa]
 kernel_rfl
def qop (e : Int × Int × Int × Int × Int × Int × Int × LR × Int) : Int × Int × Int × Int × Int × Int × Int × Int × Int × Int × LR × Int :=
 (e.1, e.2.1, e.2.2.1, e.2.2.2.1, e.2.2.2.2.1, e.2.2.2.2.2.1, e.2.2.2.2.2.2.1, 0, 0, 0, e.2.2.2.2.2.2.2.1, e.2.2.2.2.2.2.2.2)
theorem qic {l : LF} (h : zM l = true) : zn l = true := by
 obtain ⟨h1, h2⟩ := (ZZ l).1 h
 refine (qas l).2 ⟨by omega, fun x hx => ?_⟩
 have := ((qaL _).1 (h2 x hx)).2
 omega
theorem qi9 (b : List Int) (hl : inS b = true) : zM (QE b).1.2.2.2.2.2 = true := by
 unfold QE
 dsimp only
 exact qfV (Qm (Qm (Qm (qcG b hl) _ _ _) _ _ _) _ _ _) _ _
theorem zI.loop (qa : Nat) (b : List Int) (fs fs' : LF) (bad : Bool) (qh qv inc lo hi seq qk : Int) (hf : zM fs = true) : ∀ (k i : Nat) (acc : LR), i ≤ fs.length → fs.length - i < k → acc.length + (fs.length - i) < 2000000000 → (∀ r ∈ acc, zn r.2.2.2.2.2 = true) →
  zI.l11 qa b k fs (fs.length : Int) (i : Int) fs' bad qh qv inc lo hi seq qk acc = some (qop (qgh bad qh qv inc lo hi seq qk ((qbv (fs.drop i)).map fun r => acc ++ r))) := by
 obtain ⟨hf1, hf2⟩ := (ZZ fs).1 hf
 intro k
 induction k with
 | zero => intro i acc h1 h2; omega
 | succ k ih =>
  intro i acc h1 h2 h3 h4
  rw [zI.l11]
  unfold zI.b11
  simp only [veil_eq]
  by_cases hi' : i < fs.length
  ·rw [if_pos (by simp; omega), Qn, List.getElem?_eq_getElem hi']
   dsimp only
   have hx := hf2 fs[i] (List.getElem_mem hi')
   rw [List.drop_eq_getElem_cons hi', qbv]
   generalize fs[i] = x at hx ⊢
   rw [if_pos hx]
   have hsm := qic (qi9 x.2 hx)
   cases c1 : (QE x.2).2
   ·rw [if_pos (by simp), if_pos (by simp)]
    rfl
   ·by_cases c2 : x.1 = 7
    ·rw [if_neg (by simp), if_neg (by simpa using c2), if_pos (by simp [lim]; omega), if_neg (by simp [c2]), qK ((i : Int) + 1) (by omega) (by omega)]
     simp only [qiF]
     have := ih (i + 1) (acc ++ [(QE x.2).1]) (by omega) (by omega) (by simp; omega) (by
      intro r hr
      rcases List.mem_append.1 hr with hr | hr
      ·exact h4 r hr
      ·simp at hr; subst hr; exact hsm)
     rw [show ((i + 1 : Nat) : Int) = (i : Int) + 1 from by omega] at this
     rw [this]
     cases qbv (fs.drop (i + 1)) <;> simp
    ·rw [if_neg (by simp), if_pos (by simpa using c2), if_pos (by simp [c2])]
     rfl
  ·rw [if_neg (by simp; omega), List.drop_of_length_le (by omega)]
   have hs : za acc = true := (Zk acc).2 ⟨by omega, h4⟩
   cases bad
   ·rw [if_neg (by simp), hs, if_pos rfl]
    simp only [qbv, Option.map_some, List.append_nil, qgh, Bool.not_false, Bool.true_and]
    cases qaH qh qv inc lo hi seq qk 0 0 0 acc <;> rfl
   ·rfl
theorem qbq {l : LF} (h : zM l = true) (qh p : Int) (bad : Bool) (t : Int) : zM (Qd qh p l bad t).2.1 = true := by
 unfold Qd
 split
 ·exact Qm h bad t 2
 ·exact h
theorem qba {l : LF} (bad : Bool) (t n : Int) : (zp l bad t n).2.1.length ≤ l.length := by
 unfold zp
 cases l with
 | nil => simp
 | cons x m => dsimp only; split <;> simp
theorem qdJ {l : LF} (qh p : Int) (bad : Bool) (t : Int) : (Qd qh p l bad t).2.1.length ≤ l.length := by
 unfold Qd
 split
 ·exact qba bad t 2
 ·simp
theorem qmt (b : List Int) (h : inS b = true) : (zU b).1.length ≤ b.length := by
 obtain ⟨hb, hl⟩ := (qaL b).1 h
 unfold zU
 cases hs : QN b.length b with
 | none => simp
 | some r =>
  have := (qcH b.length b r (qcC hb) hs).2.1
  show r.length ≤ _
  omega
theorem zI.pure (b : List Int) (hl : inS b = true) : zI.f (b.length + 1) b = some (qop (zO b)) := by
 have hbl := ((qaL b).1 hl).2
 unfold zI.f zI.b
 simp only [veil_eq]
 have h0 := qcG b hl
 have g0 := qmt b hl
 rw [hl, if_pos rfl, h0]
 have k2 : n7 2 = true := rfl
 have k6 : n7 6 = true := rfl
 have k1 : n7 1 = true := rfl
 rw [k2, k6, k1]
 unfold zO
 dsimp only
 cases hy : ((zU b).2 != 0)
 ·rw [if_neg (by simp), Bool.false_or]
  generalize decide ((b.length : Int) > 65499) = bad0
  have h1 := Qm h0 bad0 1 1
  have g1 := @qba (zU b).1 bad0 1 1
  generalize zp (zU b).1 bad0 1 1 = y1 at h1 g1 ⊢
  have h2 := Qm h1 y1.2.2 2 2
  have g2 := @qba y1.2.1 y1.2.2 2 2
  generalize zp y1.2.1 y1.2.2 2 2 = y2 at h2 g2 ⊢
  have h3 := Qm h2 y2.2.2 3 6
  have g3 := @qba y2.2.1 y2.2.2 3 6
  generalize zp y2.2.1 y2.2.2 3 6 = y3 at h3 g3 ⊢
  have h4 := qfV h3 y3.2.2 4
  have g4 : (QY y3.2.1 y3.2.2 4).2.2.1.length ≤ _ := @qba y3.2.1 y3.2.2 4 1
  generalize QY y3.2.1 y3.2.2 4 = y4 at h4 g4 ⊢
  have h5 := qbq h4 y1.1 0 y4.2.2.2 5
  have g5 := @qdJ y4.2.2.1 y1.1 0 y4.2.2.2 5
  generalize Qd y1.1 0 y4.2.2.1 y4.2.2.2 5 = y5 at h5 g5 ⊢
  have h6 := qbq h5 y1.1 1 y5.2.2 6
  have g6 := @qdJ y5.2.1 y1.1 1 y5.2.2 6
  generalize Qd y1.1 1 y5.2.1 y5.2.2 6 = y6 at h6 g6 ⊢
  have hlp := zI.loop (b.length + 1) b y6.2.1 y6.2.1 y6.2.2 y1.1 y2.1 y3.1 y4.1 y4.2.1 y5.1 y6.1 h6 (b.length + 1) 0 [] (by omega) (by omega) (by simp; omega) (by simp)
  rw [show ((0 : Nat) : Int) = 0 from rfl, List.drop_zero] at hlp
  simp only [Bool.and_true, if_true, h1, h2, h3, h4, h5, h6]
  rw [hlp]
  simp
 ·rw [if_pos rfl, Bool.true_or]
  have h1 := Qm h0 true 1 1
  have g1 := @qba (zU b).1 true 1 1
  generalize zp (zU b).1 true 1 1 = y1 at h1 g1 ⊢
  have h2 := Qm h1 y1.2.2 2 2
  have g2 := @qba y1.2.1 y1.2.2 2 2
  generalize zp y1.2.1 y1.2.2 2 2 = y2 at h2 g2 ⊢
  have h3 := Qm h2 y2.2.2 3 6
  have g3 := @qba y2.2.1 y2.2.2 3 6
  generalize zp y2.2.1 y2.2.2 3 6 = y3 at h3 g3 ⊢
  have h4 := qfV h3 y3.2.2 4
  have g4 : (QY y3.2.1 y3.2.2 4).2.2.1.length ≤ _ := @qba y3.2.1 y3.2.2 4 1
  generalize QY y3.2.1 y3.2.2 4 = y4 at h4 g4 ⊢
  have h5 := qbq h4 y1.1 0 y4.2.2.2 5
  have g5 := @qdJ y4.2.2.1 y1.1 0 y4.2.2.2 5
  generalize Qd y1.1 0 y4.2.2.1 y4.2.2.2 5 = y5 at h5 g5 ⊢
  have h6 := qbq h5 y1.1 1 y5.2.2 6
  have g6 := @qdJ y5.2.1 y1.1 1 y5.2.2 6
  generalize Qd y1.1 1 y5.2.1 y5.2.2 6 = y6 at h6 g6 ⊢
  have hlp := zI.loop (b.length + 1) b y6.2.1 y6.2.1 y6.2.2 y1.1 y2.1 y3.1 y4.1 y4.2.1 y5.1 y6.1 h6 (b.length + 1) 0 [] (by omega) (by omega) (by simp; omega) (by simp)
  rw [show ((0 : Nat) : Int) = 0 from rfl, List.drop_zero] at hlp
  simp only [Bool.and_true, if_true, h1, h2, h3, h4, h5, h6]
  rw [hlp]
  simp
theorem qi6 : SumOk Tryz.prog 47 qjR := by
 have hE : EnvOk Tryz.prog qgo := env_ok (l := [(74, qbJ), (76, qgv), (78, qdQ), (69, qbZ), (75, qaI), (77, qbK)]) th_ok qU ⟨⟨qgM, qf1⟩, ⟨qnq, qmw⟩, ⟨qlC, qkx⟩, ⟨qhT, qgP⟩, ⟨qdM, qdo⟩, ⟨qgO, qf3⟩, trivial⟩ _
 refine sum_ok hE Tryz.func47 rfl (by kernel_rfl) qjR [.dat (.pair tQi (.pair tQi (.pair tQi (.pair (.pair tQi tQi) (.pair tQi (.pair tQi (.pair tQi (.pair tQi (.pair tQi (.sl tQr)))))))))) true, .raw] zI.k ?_
 intro R avs qj κ r h
 unfold qjR at h
 simp only at h
 split at h
 ·rename_i b
  split at h
  case isFalse => cases h
  rename_i hl
  refine ⟨b.length + 1, _, _, _, (zI.eq (b.length + 1) b).trans (zI.pure b hl), ?_, h⟩
  intro rs ros hk
  unfold zI.k at hk
  split at hk
  ·first | (cases hk; exact ⟨rfl, rfl⟩) | (rw [← Option.some.inj hk]; exact ⟨rfl, rfl⟩)
  ·cases hk
 ·cases h
theorem qkA : SumDet qdR := zi fun _ _ _ _ => by
 unfold qdR
 simp only [veil_eq]
 split
 ·first | rfl | (split <;> rfl)
 ·rfl
theorem qlK : SumOk Tryz.prog 47 qdR := ⟨qi6.1, fun avs qj κ r hr => qi6.2 avs qj κ r (by
 unfold qdR at hr
 simp only [veil_eq] at hr
 split at hr
 ·exact hr
 ·cases hr)⟩
theorem qbT {l : LF} (hf : zM l = true) (bad : Bool) (t n : Int) (n1 : 1 ≤ n) (n7 : n ≤ 7) (h : (zp l bad t n).2.2 = false) :
  bad = false ∧ l.flatMap zX = itB t n (zp l bad t n).1 ++ (zp l bad t n).2.1.flatMap zX := by
 unfold zp at h ⊢
 cases l with
 | nil => cases h
 | cons x m =>
  dsimp only at h ⊢
  split at h
  ·cases h
  ·rename_i c
   rw [if_neg c]
   simp at c
   unfold qc9 at h ⊢
   split at h
   ·rename_i c2
    rw [if_pos c2]
    simp at c2
    refine ⟨c.1, ?_⟩
    have hx := qcC ((qaL _).1 (((ZZ _).1 hf).2 x (by simp))).1
    have hb := qk4 x.2 hx
    rw [List.flatMap_cons]
    unfold zX itB
    rw [show n.toNat = x.2.length from by omega, hb, c.2]
    have e1 : ((x.2.length / 256 : Nat) : Int) = 0 := by omega
    have e2 : ((x.2.length % 256 : Nat) : Int) = n := by omega
    rw [e1, e2]
    try rfl
   ·cases h
theorem qiH {c : Int} (h : okS (zF z8 c).1 (zF z8 c).2.1 = true) : (zF z8 c).1 * 16 + (zF z8 c).2.1 = c := by
 have h2 : (zF z8 c).2.2 = true := by
  unfold z8 zF zF zF zF zF zF zF at h ⊢
  split
  ·rfl
  rename_i c1
  rw [if_neg c1] at h
  split
  ·rfl
  rename_i c2
  rw [if_neg c2] at h
  split
  ·rfl
  rename_i c3
  rw [if_neg c3] at h
  split
  ·rfl
  rename_i c4
  rw [if_neg c4] at h
  split
  ·rfl
  rename_i c5
  rw [if_neg c5] at h
  split
  ·rfl
  rename_i c6
  rw [if_neg c6] at h
  cases h
 have := qjb h2
 rw [qdl h] at this
 exact this
theorem qn7 (b : List Int) (hl : inS b = true) (h : (QE b).2 = true) (hr : zu (QE b).1 = true) : QM (QE b).1 = b := by
 have f7 := (zy hr).2.2.2.2.2.2.1
 unfold QE at h f7 ⊢
 dsimp only at h f7 ⊢
 have h0 := qcG b hl
 have h1 := Qm h0 ((zU b).2 != 0) 1 2
 have t1 := qbT h0 ((zU b).2 != 0) 1 2 (by omega) (by omega)
 generalize zp (zU b).1 ((zU b).2 != 0) 1 2 = y1 at *
 have h2 := Qm h1 y1.2.2 2 4
 have t2 := qbT h1 y1.2.2 2 4 (by omega) (by omega)
 generalize zp y1.2.1 y1.2.2 2 4 = y2 at *
 have h3 := Qm h2 y2.2.2 3 1
 have h3b := qiU h2 y2.2.2 3
 have t3 := qbT h2 y2.2.2 3 1 (by omega) (by omega)
 generalize zp y2.2.1 y2.2.2 3 1 = y3 at *
 have t4 := qbT h3 y3.2.2 4 1 (by omega) (by omega)
 unfold QY at h f7 ⊢
 dsimp only at h f7 ⊢
 have e4 := qiH f7
 generalize zp y3.2.1 y3.2.2 4 1 = y4 at *
 obtain ⟨q4, p4⟩ := t4 (by simpa using h)
 obtain ⟨q3, p3⟩ := t3 q4
 obtain ⟨q2, p2⟩ := t2 q3
 obtain ⟨q1, p1⟩ := t1 q2
 have hs : (zU b).1.flatMap zX = b := by
  unfold zU at q1 ⊢
  cases hs : QN b.length b with
  | none => rw [hs] at q1; simp at q1
  | some r => exact (qcH b.length b r (qcC ((qaL b).1 hl).1) hs).1
 unfold QM qcW
 dsimp only
 rw [e4]
 have e3 : (if decide (y3.1 ≥ 128) = true then y3.1 % 128 + 128 else y3.1 % 128) = y3.1 := by
  split
  ·rename_i c; simp at c; omega
  ·rename_i c; simp at c; omega
 rw [e3]
 conv => rhs; rw [← hs, p1, p2, p3, p4]
theorem qjU : ∀ (fs : LF) (r : LR), zM fs = true → qbv fs = some r → (∀ x ∈ r, zu x = true) → r.flatMap qdq = fs.flatMap zX ∧ ∀ x ∈ r, zn x.2.2.2.2.2 = true
 | [], r, hf, h, hr => by
  simp [qbv] at h
  subst h
  exact ⟨rfl, by simp⟩
 | x :: m, r, hf, h, hr => by
  rw [qbv] at h
  obtain ⟨f1, f2⟩ := (ZZ _).1 hf
  have hm : zM m = true := (ZZ _).2 ⟨by simp at f1; omega, fun y hy => f2 y (by simp [hy])⟩
  split at h
  ·cases h
  ·rename_i c
   simp at c
   cases hs : qbv m with
   | none => rw [hs] at h; cases h
   | some q =>
    rw [hs] at h
    simp at h
    subst h
    obtain ⟨i1, i2⟩ := qjU m q hm hs (fun y hy => hr y (by simp [hy]))
    have hx := f2 x (by simp)
    have hrx := hr (QE x.2).1 (by simp)
    refine ⟨?_, ?_⟩
    ·rw [List.flatMap_cons, List.flatMap_cons, i1]
     unfold qdq
     rw [qn7 x.2 hx c.1 hrx, ← c.2]
    ·intro y hy
     rcases List.mem_cons.1 hy with rfl | hy
     ·exact qic (qi9 x.2 hx)
     ·exact i2 y hy
theorem qiW {l : LF} (hf : zM l = true) (qh p : Int) (bad : Bool) (t : Int) (h : (Qd qh p l bad t).2.2 = false) :
  bad = false ∧ l.flatMap zX = (if qt qh p then itB t 2 (Qd qh p l bad t).1 else []) ++ (Qd qh p l bad t).2.1.flatMap zX := by
 unfold Qd at h ⊢
 cases hc : qt qh p
 ·rw [hc] at h
  simp at h ⊢
  exact h
 ·rw [hc] at h
  simp at h ⊢
  exact qbT hf bad t 2 (by omega) (by omega) h
theorem qow (l : List Int) (hl : inS l = true) (h : (zO l).2.2.2.2.2.2.2.2 = 0) :
  qaH (zO l).1 (zO l).2.1 (zO l).2.2.1 (zO l).2.2.2.1 (zO l).2.2.2.2.1 (zO l).2.2.2.2.2.1 (zO l).2.2.2.2.2.2.1 0 0 0 (zO l).2.2.2.2.2.2.2.1 = true ∧
  ZQ (zO l).1 (zO l).2.1 (zO l).2.2.1 (zO l).2.2.2.1 (zO l).2.2.2.2.1 (zO l).2.2.2.2.2.1 (zO l).2.2.2.2.2.2.1 (zO l).2.2.2.2.2.2.2.1 = l ∧ za (zO l).2.2.2.2.2.2.2.1 = true := by
 unfold zO at h ⊢
 dsimp only at h ⊢
 have h0 := qcG l hl
 generalize hb0 : ((zU l).2 != 0 || decide ((l.length : Int) > 65499)) = bad0 at *
 have h1 := Qm h0 bad0 1 1
 have t1 := qbT h0 bad0 1 1 (by omega) (by omega)
 generalize zp (zU l).1 bad0 1 1 = y1 at *
 have h2 := Qm h1 y1.2.2 2 2
 have t2 := qbT h1 y1.2.2 2 2 (by omega) (by omega)
 generalize zp y1.2.1 y1.2.2 2 2 = y2 at *
 have h3 := Qm h2 y2.2.2 3 6
 have t3 := qbT h2 y2.2.2 3 6 (by omega) (by omega)
 generalize zp y2.2.1 y2.2.2 3 6 = y3 at *
 have h4 := Qm h3 y3.2.2 4 1
 have t4 := qbT h3 y3.2.2 4 1 (by omega) (by omega)
 unfold QY at h ⊢
 dsimp only at h ⊢
 generalize zp y3.2.1 y3.2.2 4 1 = y4 at *
 have h5 := qbq h4 y1.1 0 y4.2.2 5
 have t5 := qiW h4 y1.1 0 y4.2.2 5
 generalize Qd y1.1 0 y4.2.1 y4.2.2 5 = y5 at *
 have h6 := qbq h5 y1.1 1 y5.2.2 6
 have t6 := qiW h5 y1.1 1 y5.2.2 6
 generalize Qd y1.1 1 y5.2.1 y5.2.2 6 = y6 at *
 cases hr : qbv y6.2.1 with
 | none => rw [hr] at h; simp [qgh] at h
 | some r =>
  rw [hr] at h
  unfold qgh at h ⊢
  dsimp only at h ⊢
  split at h
  ·rename_i c
   rw [if_pos c]
   dsimp only
   simp at c
   obtain ⟨hv, w1, w2, w3, w4⟩ := qeC c.2
   obtain ⟨v1, v2, v3, v4, v5, v6, v7, v8, v9, v10, v11, _, v12, v13⟩ := Ql hv
   obtain ⟨i1, i2⟩ := qjU y6.2.1 r h6 hr v13
   obtain ⟨q6, p6⟩ := t6 c.1
   obtain ⟨q5, p5⟩ := t5 q6
   obtain ⟨q4, p4⟩ := t4 q5
   obtain ⟨q3, p3⟩ := t3 q4
   obtain ⟨q2, p2⟩ := t2 q3
   obtain ⟨q1, p1⟩ := t1 q2
   have hs : (zU l).1.flatMap zX = l := by
    rw [q1] at hb0
    unfold zU at hb0 ⊢
    cases hs : QN l.length l with
    | none => rw [hs] at hb0; simp at hb0
    | some r => exact (qcH l.length l r (qcC ((qaL l).1 hl).1) hs).1
   refine ⟨c.2, ?_, (Zk r).2 ⟨by omega, i2⟩⟩
   unfold ZQ
   rw [qiH v7, i1]
   conv => rhs; rw [← hs, p1, p2, p3, p4, p5, p6]
  ·cases h
def qdw : Env := ⟨th, gam [], fun i => ⟨[], [], []⟩⟩
def zJ.k (rs : List AV) (os : List Den.Obj) : Option (List Int) :=
 match rs, os with
 | [.ptr 0 0], [.box [.row 2, .d .bool false], .gone, .row 5 (.int .u8) r0 false] => some r0
 | _, _ => none
def zJ.b (l b : List Int) : Option (List Int) :=
 (if ((((List.length l) + (List.length b)) * (1 : Nat)) ≤ lim) then some ((l ++ b)) else none)
def zJ.f (qa : Nat) (l b : List Int) : Option (List Int) := zJ.b l b
theorem zJ.eq (qa : Nat) (l b : List Int) : (denF qdw loopN qa Tryz.f106 [.raw, .pb [.own (some 0) [] 0 5 (.int .u8) true, .kill 1]] [.ptr 0 0, .d (.sl (.int .u8)) b] [.box [.row 1, .d .bool false], .row 5 (.int .u8) l false] zJ.k) = zJ.f qa l b := by
 kernel_rfl
def Qz : Den.Sum := ⟨[.pb [.own none [] 0 5 (.int .u8) false], .dat (.sl (.int .u8)) false], fun qA qj κ => match qA, qj with
 | [.ptr 0 0, .d (.sl (.int .u8)) b], [.box [.row 1, .d .bool false], .row 5 (.int .u8) l false] => (match veil (zJ.f BIG l b) with | none => none | some y => κ [.ptr 0 0] [.box [.row 2, .d .bool false], .gone, .row 5 (.int .u8) y false])
 | _, _ => none⟩
theorem qcg : SumDet Qz := zi fun _ _ _ _ => by
 unfold Qz
 simp only [veil_eq]
 split
 ·split <;> rfl
 ·rfl
theorem qcy : SumOk Tryz.prog 106 Qz := by
 have hE : EnvOk Tryz.prog qdw := env_ok (l := []) th_ok qU trivial _
 refine sum_ok hE Tryz.func106 rfl (by kernel_rfl) Qz [.raw, .pb [.own (some 0) [] 0 5 (.int .u8) true, .kill 1]] zJ.k ?_
 intro R avs qj κ r h
 unfold Qz at h
 simp only [veil_eq] at h
 split at h
 ·rename_i b l
  split at h
  ·cases h
  ·rename_i y hy
   refine ⟨BIG, _, _, _, (zJ.eq BIG l b).trans hy, ?_, h⟩
   intro rs ros hk
   unfold zJ.k at hk
   split at hk
   ·rw [← sj hk]; exact ⟨rfl, rfl⟩
   ·cases hk
 ·cases h
def qep : Env := ⟨th, gam [], fun i => if i = 2 then ⟨[0, 3], [(3, 5, (.int .u8))], []⟩ else ⟨[], [], []⟩⟩
def zo.k (rs : List AV) (os : List Den.Obj) : Option (List Int) :=
 match rs, os with
 | [.row 0], [.row 5 (.int .u8) r0 false] => some r0
 | _, _ => none
def zo.s2 (v x0 : Int) (x1 : (List Int)) : St := ⟨[.d (.int .u64) x0, .dead, .dead, .row 64, dD, dD, dD, dD, dD, dD, dD, dD, dD, dD, dD, dD, dD, dD, .dead], ofL [(64, .row 5 (.int .u8) x1 false)], 0⟩
def zo.p2 (qa : Nat) (v : Int) (k : Nat) := fun x0 x1 => lp qep qa Tryz.f107 [.own 5 (.int .u8)] 0 zo.k 2 [] k (zo.s2 v x0 x1)
def zo.b2 (v : Int) (A2 : Int → (List Int) → Option (List Int)) (x0 : Int) (x1 : (List Int)) : Option (List Int) :=
 (if (decide (x0 ≥ (128 : Int))) then (if ((((List.length x1) + (List.length ((bits BinOp.or .u8 (IntKind.wrap .u8 x0) (128 : Int)) :: ([] : List Int)))) * (1 : Nat)) ≤ lim) then A2 (Int.fdiv x0 ((2 : Int) ^ (Min.min (Int.toNat (7 : Int)) (IntKind.bits .u64)))) (x1 ++ ((bits BinOp.or .u8 (IntKind.wrap .u8 x0) (128 : Int)) :: ([] : List Int))) else none) else (if ((((List.length x1) + (List.length ((IntKind.wrap .u8 x0) :: ([] : List Int)))) * (1 : Nat)) ≤ lim) then some ((x1 ++ ((IntKind.wrap .u8 x0) :: ([] : List Int)))) else none))
def zo.l2 (qa : Nat) (v : Int) : Nat → Int → (List Int) → Option (List Int)
 | 0, _, _ => none
 | k + 1, x0, x1 => zo.b2 v (zo.l2 qa v k) x0 x1
def zo.b (v : Int) (E2 : Int → (List Int) → Option (List Int)) : Option (List Int) :=
 E2 v ([] : List Int)
def zo.f (qa : Nat) (v : Int) : Option (List Int) := zo.b v (zo.l2 qa v qa)
theorem zo.l2_eq (qa : Nat) (v : Int) : ∀ k : Nat, zo.p2 qa v k = zo.l2 qa v k
 | 0 => by kernel_rfl
 | k + 1 => by
  refine Eq.trans (b := zo.b2 v (zo.p2 qa v k)) (by kernel_rfl) ?_
  rw [zo.l2_eq qa v k]
  kernel_rfl
theorem zo.eq (qa : Nat) (v : Int) : (denF qep loopN qa Tryz.f107 [.own 5 (.int .u8)] [.d (.int .u64) v] [] zo.k) = zo.f qa v := by
 refine Eq.trans (b := zo.b v (zo.p2 qa v qa)) (by kernel_rfl) ?_
 rw [zo.l2_eq qa v qa]
 kernel_rfl
def ZV : Den.Sum := ⟨[.raw], fun qA qj κ => match qA, qj with
 | [.d (.int .u64) v], [] => (match veil (zo.f BIG v) with | none => none | some y => κ [.row 0] [.row 5 (.int .u8) y false])
 | _, _ => none⟩
theorem qeg : SumDet ZV := zi fun _ _ _ _ => by
 unfold ZV
 simp only [veil_eq]
 split
 ·split <;> rfl
 ·rfl
theorem qeP : SumOk Tryz.prog 107 ZV := by
 have hE : EnvOk Tryz.prog qep := env_ok (l := []) th_ok qU trivial _
 refine sum_ok hE Tryz.func107 rfl (by kernel_rfl) ZV [.own 5 (.int .u8)] zo.k ?_
 intro R avs qj κ r h
 unfold ZV at h
 simp only [veil_eq] at h
 split at h
 ·rename_i v
  split at h
  ·cases h
  ·rename_i y hy
   refine ⟨BIG, _, _, _, (zo.eq BIG v).trans hy, ?_, h⟩
   intro rs ros hk
   unfold zo.k at hk
   split at hk
   ·rw [← sj hk]; exact ⟨rfl, rfl⟩
   ·cases hk
 ·cases h
def qfO : Env := ⟨th, gam [], fun i => ⟨[], [], []⟩⟩
def Q8.k (rs : List AV) (os : List Den.Obj) : Option Int :=
 match rs, os with
 | [.d (.int .u64) r0], [] => some r0
 | _, _ => none
def Q8.b (n : Int) : Option Int :=
 some ((bits BinOp.xor .u64 (IntKind.wrap .u64 ((IntKind.wrap .u64 n) * ((2 : Int) ^ (Min.min (Int.toNat (1 : Int)) (IntKind.bits .u64))))) (IntKind.wrap .u64 (Int.fdiv n ((2 : Int) ^ (Min.min (Int.toNat (63 : Int)) (IntKind.bits .i64)))))))
def Q8.f (qa : Nat) (n : Int) : Option Int := Q8.b n
theorem Q8.eq (qa : Nat) (n : Int) : (denF qfO loopN qa Tryz.f108 [.raw] [.d tQi n] [] Q8.k) = Q8.f qa n := by
 kernel_rfl
def qau : Den.Sum := ⟨[.raw], fun qA qj κ => match qA, qj with
 | [.d (.int .i64) n], [] => (match veil (Q8.f BIG n) with | none => none | some y => κ [.d (.int .u64) y] [])
 | _, _ => none⟩
theorem qg7 : SumDet qau := zi fun _ _ _ _ => by
 unfold qau
 simp only [veil_eq]
 split
 ·split <;> rfl
 ·rfl
theorem qhE : SumOk Tryz.prog 108 qau := by
 have hE : EnvOk Tryz.prog qfO := env_ok (l := []) th_ok qU trivial _
 refine sum_ok hE Tryz.func108 rfl (by kernel_rfl) qau [.raw] Q8.k ?_
 intro R avs qj κ r h
 unfold qau at h
 simp only [veil_eq] at h
 split at h
 ·rename_i n
  split at h
  ·cases h
  ·rename_i y hy
   refine ⟨BIG, _, _, _, (Q8.eq BIG n).trans hy, ?_, h⟩
   intro rs ros hk
   unfold Q8.k at hk
   split at hk
   ·rw [← sj hk]; exact ⟨rfl, rfl⟩
   ·cases hk
 ·cases h
def qfH : Env := ⟨th, gam [], fun i => ⟨[], [], []⟩⟩
def Zl.k (rs : List AV) (os : List Den.Obj) : Option (Bool × Int) :=
 match rs, os with
 | [.d .bool r0], [.box [.d (.int .i64) r1]] => some (r0, r1)
 | _, _ => none
def Zl.b (qW qO qs qp qq : Int) (qN : Bool) (qL : LF) (id0 : Int) : Option (Bool × Int) :=
 some ((qW == id0), id0)
def Zl.f (qa : Nat) (qW qO qs qp qq : Int) (qN : Bool) (qL : LF) (id0 : Int) : Option (Bool × Int) := Zl.b qW qO qs qp qq qN qL id0
theorem Zl.eq (qa : Nat) (qW qO qs qp qq : Int) (qN : Bool) (qL : LF) (id0 : Int) : (denF qfH loopN qa Tryz.f110 [.raw] [.agg [.d tQi qW, .d tQi qO, .d tQi qs, .d tQi qp, .d tQi qq, .d .bool qN, .d (.sl (.pair tQi (.sl (.int .u8)))) qL], .ptr 0 0] [.box [.d tQi id0]] Zl.k) = Zl.f qa qW qO qs qp qq qN qL id0 := by
 kernel_rfl
def ZA : Den.Sum := ⟨[.dat tQr true, .raw], fun qA qj κ => match qA, qj with
 | [.agg [.d (.int .i64) qW, .d (.int .i64) qO, .d (.int .i64) qs, .d (.int .i64) qp, .d (.int .i64) qq, .d .bool qN, .d (.sl (.pair (.int .i64) (.sl (.int .u8)))) qL], .ptr 0 0], [.box [.d (.int .i64) id0]] => (match veil (Zl.f BIG qW qO qs qp qq qN qL id0) with | none => none | some y => κ [.d .bool y.1] [.box [.d (.int .i64) y.2]])
 | _, _ => none⟩
theorem qdH : SumDet ZA := zi fun _ _ _ _ => by
 unfold ZA
 simp only [veil_eq]
 split
 ·split <;> rfl
 ·rfl
theorem qd2 : SumOk Tryz.prog 110 ZA := by
 have hE : EnvOk Tryz.prog qfH := env_ok (l := []) th_ok qU trivial _
 refine sum_ok hE Tryz.func110 rfl (by kernel_rfl) ZA [.raw] Zl.k ?_
 intro R avs qj κ r h
 unfold ZA at h
 simp only [veil_eq] at h
 split at h
 ·rename_i qW qO qs qp qq qN qL id0
  split at h
  ·cases h
  ·rename_i y hy
   refine ⟨BIG, _, _, _, (Zl.eq BIG qW qO qs qp qq qN qL id0).trans hy, ?_, h⟩
   intro rs ros hk
   unfold Zl.k at hk
   split at hk
   ·rw [← sj hk]; exact ⟨rfl, rfl⟩
   ·cases hk
 ·cases h
def qjj : Env := ⟨th, gam [], fun i => ⟨[], [], []⟩⟩
def Z7.k (rs : List AV) (os : List Den.Obj) : Option (Int × (List Int)) :=
 match rs, os with
 | [.agg [.d (.int .i64) r0, .d (.sl (.int .u8)) r1]], [] => some (r0, r1)
 | _, _ => none
def Z7.b (qeD : Int) (qal : List Int) : Option (Int × (List Int)) :=
 (if (((0 : Int) ≤ ((((List.length qal)) : Nat) : Int)) ∧ ((((((List.length qal)) : Nat) : Int) ≤ ((((List.length qal)) : Nat) : Int)) ∧ (((((((List.length qal)) : Nat) : Int) * ((((1 : Nat)) : Nat) : Int)) ≤ (1099511627776 : Int)) ∧ (((((List.length qal)) : Nat) : Int) ≤ (1099511627776 : Int))))) then (if ((false = false) ∧ ((List.length qal) ≤ (List.length (List.replicate (Int.toNat ((((List.length qal)) : Nat) : Int)) (zeroI (Go.Den.Ty.int .u8)))))) then some (qeD, (qal ++ (List.drop (List.length qal) (List.replicate (Int.toNat ((((List.length qal)) : Nat) : Int)) (zeroI (Go.Den.Ty.int .u8)))))) else none) else none)
def Z7.f (qa : Nat) (qeD : Int) (qal : List Int) : Option (Int × (List Int)) := Z7.b qeD qal
theorem Z7.eq (qa : Nat) (qeD : Int) (qal : List Int) : (denF qjj loopN qa Tryz.f115 [.dat (.pair tQi (.sl (.int .u8))) true] [.agg [.d tQi qeD, .d (.sl (.int .u8)) qal]] [] Z7.k) = Z7.f qa qeD qal := by
 kernel_rfl
def qbM : Den.Sum := ⟨[.dat (.pair tQi (.sl (.int .u8))) true], fun qA qj κ => match qA, qj with
 | [.agg [.d (.int .i64) qeD, .d (.sl (.int .u8)) qal]], [] => (match veil (Z7.f BIG qeD qal) with | none => none | some y => κ [.agg [.d (.int .i64) y.1, .d (.sl (.int .u8)) y.2]] [])
 | _, _ => none⟩
theorem qjt : SumDet qbM := zi fun _ _ _ _ => by
 unfold qbM
 simp only [veil_eq]
 split
 ·split <;> rfl
 ·rfl
theorem qjS : SumOk Tryz.prog 115 qbM := by
 have hE : EnvOk Tryz.prog qjj := env_ok (l := []) th_ok qU trivial _
 refine sum_ok hE Tryz.func115 rfl (by kernel_rfl) qbM [.dat (.pair tQi (.sl (.int .u8))) true] Z7.k ?_
 intro R avs qj κ r h
 unfold qbM at h
 simp only [veil_eq] at h
 split at h
 ·rename_i qeD qal
  split at h
  ·cases h
  ·rename_i y hy
   refine ⟨BIG, _, _, _, (Z7.eq BIG qeD qal).trans hy, ?_, h⟩
   intro rs ros hk
   unfold Z7.k at hk
   split at hk
   ·rw [← sj hk]; exact ⟨rfl, rfl⟩
   ·cases hk
 ·cases h
def qaC : Env := ⟨th, gam [(110, ZA)], fun i => if i = 2 then ⟨[0, 1, 7, 8, 9], [], []⟩ else ⟨[], [], []⟩⟩
def qG.k (rs : List AV) (os : List Den.Obj) : Option (Int × Int) :=
 match rs, os with
 | [.d (.int .i64) r0], [.box [.d (.int .i64) r1]] => some (r0, r1)
 | _, _ => none
def qG.s2 (l : LR) (id0 x0 x1 x2 : Int) : St := ⟨[.d (.sl tQr) (l), .fn (.func 110) [] [.ptr 0 0], dD, dD, dD, dD, dD, .d (.sl tQr) (l), .d tQi x0, .d tQi x1, dD, dD, dD, dD, dD, dD, dD, dD, dD, dD, .dead], ofL [(0, .box [.d tQi x2])], 1⟩
def qG.p2 (qa : Nat) (l : LR) (id0 : Int) (k : Nat) := fun x0 x1 x2 => lp qaC qa Tryz.f93 [.raw] 1 qG.k 2 [] k (qG.s2 l id0 x0 x1 x2)
def qG.b2 (l : LR) (id0 : Int) (A2 : Int → Int → Int → Option (Int × Int)) (x0 : Int) (x1 : Int) (x2 : Int) : Option (Int × Int) :=
 (if (decide (x1 < x0)) then (match (idx l x1) with | none => none | some y3 => (match (veil (Zl.f BIG y3.1 y3.2.1 y3.2.2.1 y3.2.2.2.1.1 y3.2.2.2.1.2 y3.2.2.2.2.1 y3.2.2.2.2.2 x2)) with | none => none | some y4 => (if y4.1 then some (x1, y4.2) else A2 x0 (IntKind.wrap .i64 (x1 + (1 : Int))) y4.2))) else some (((((List.length l)) : Nat) : Int), x2))
def qG.l2 (qa : Nat) (l : LR) (id0 : Int) : Nat → Int → Int → Int → Option (Int × Int)
 | 0, _, _, _ => none
 | k + 1, x0, x1, x2 => qG.b2 l id0 (qG.l2 qa l id0 k) x0 x1 x2
def qG.b (l : LR) (id0 : Int) (E2 : Int → Int → Int → Option (Int × Int)) : Option (Int × Int) :=
 E2 ((((List.length l)) : Nat) : Int) (0 : Int) id0
def qG.f (qa : Nat) (l : LR) (id0 : Int) : Option (Int × Int) := qG.b l id0 (qG.l2 qa l id0 qa)
theorem qG.l2_eq (qa : Nat) (l : LR) (id0 : Int) : ∀ k : Nat, qG.p2 qa l id0 k = qG.l2 qa l id0 k
 | 0 => by kernel_rfl
 | k + 1 => by
  refine Eq.trans (b := qG.b2 l id0 (qG.p2 qa l id0 k)) (by kernel_rfl) ?_
  rw [qG.l2_eq qa l id0 k]
  kernel_rfl
theorem qG.eq (qa : Nat) (l : LR) (id0 : Int) : (denF qaC loopN qa Tryz.f93 [.raw] [.d (.sl tQr) l, .fn (.func 110) [] [.ptr 0 0]] [.box [.d tQi id0]] qG.k) = qG.f qa l id0 := by
 refine Eq.trans (b := qG.b l id0 (qG.p2 qa l id0 qa)) (by kernel_rfl) ?_
 rw [qG.l2_eq qa l id0 qa]
 kernel_rfl
def QJ : Den.Sum := ⟨[.dat (.sl tQr) false, .raw], fun qA qj κ => match qA, qj with
 | [.d (.sl (.pair (.int .i64) (.pair (.int .i64) (.pair (.int .i64) (.pair (.pair (.int .i64) (.int .i64)) (.pair .bool (.sl (.pair (.int .i64) (.sl (.int .u8)))))))))) l, .fn (.func 110) [] [.ptr 0 0]], [.box [.d (.int .i64) id0]] => (match veil (qG.f BIG l id0) with | none => none | some y => κ [.d (.int .i64) y.1] [.box [.d (.int .i64) y.2]])
 | _, _ => none⟩
theorem qdg : SumDet QJ := zi fun _ _ _ _ => by
 unfold QJ
 simp only [veil_eq]
 split
 ·split <;> rfl
 ·rfl
theorem qdu : SumOk Tryz.prog 93 QJ := by
 have hE : EnvOk Tryz.prog qaC := env_ok (l := [(110, ZA)]) th_ok qU ⟨⟨qd2, qdH⟩, trivial⟩ _
 refine sum_ok hE Tryz.func93 rfl (by kernel_rfl) QJ [.raw] qG.k ?_
 intro R avs qj κ r h
 unfold QJ at h
 simp only [veil_eq] at h
 split at h
 ·rename_i l id0
  split at h
  ·cases h
  ·rename_i y hy
   refine ⟨BIG, _, _, _, (qG.eq BIG l id0).trans hy, ?_, h⟩
   intro rs ros hk
   unfold qG.k at hk
   split at hk
   ·rw [← sj hk]; exact ⟨rfl, rfl⟩
   ·cases hk
 ·cases h
def Zy : Den.Sum := ⟨[.dat (.sl tQr) false, .raw], fun qA qj κ => match qA, qj with
 | [.d (.sl (.pair (.int .i64) (.pair (.int .i64) (.pair (.int .i64) (.pair (.pair (.int .i64) (.int .i64)) (.pair .bool (.sl (.pair (.int .i64) (.sl (.int .u8)))))))))) l, .fn (.func 94) [] [.ptr 0 0]], [.box [.d (.int .i64) qe]] => qcw.run [.d (.sl (.pair (.int .i64) (.pair (.int .i64) (.pair (.int .i64) (.pair (.pair (.int .i64) (.int .i64)) (.pair .bool (.sl (.pair (.int .i64) (.sl (.int .u8)))))))))) l, .fn (.func 94) [] [.ptr 0 0]] [.box [.d (.int .i64) qe]] κ
 | [.d (.sl (.pair (.int .i64) (.pair (.int .i64) (.pair (.int .i64) (.pair (.pair (.int .i64) (.int .i64)) (.pair .bool (.sl (.pair (.int .i64) (.sl (.int .u8)))))))))) l, .fn (.func 110) [] [.ptr 0 0]], [.box [.d (.int .i64) id0]] => QJ.run [.d (.sl (.pair (.int .i64) (.pair (.int .i64) (.pair (.int .i64) (.pair (.pair (.int .i64) (.int .i64)) (.pair .bool (.sl (.pair (.int .i64) (.sl (.int .u8)))))))))) l, .fn (.func 110) [] [.ptr 0 0]] [.box [.d (.int .i64) id0]] κ
 | _, _ => none⟩
theorem qed : SumDet Zy := zi fun _ _ R κ => by
 unfold Zy
 simp only
 split
 ·exact qgL _ _ R κ
 ·exact qdg _ _ R κ
 ·rfl
theorem qeu : SumOk Tryz.prog 93 Zy := by
 refine ⟨qe6.1, ?_⟩
 intro R avs qj κ r h
 unfold Zy at h
 simp only at h
 split at h
 ·exact qe6.2 _ _ κ r h
 ·exact qdu.2 _ _ κ r h
 ·cases h
def qbR : Env := ⟨th, gam [(106, Qz), (107, ZV)], fun i => if i = 2 then ⟨[2, 6, 7, 8], [], [1001]⟩ else ⟨[], [], []⟩⟩
def qf.k (rs : List AV) (os : List Den.Obj) : Option (List Int) :=
 match rs, os with
 | [], [.box [.row 2, .d .bool false], .gone, .row 5 (.int .u8) r0 false] => some r0
 | _, _ => none
def qf.s2 (l lq : List Int) (x0 x1 : Int) (x2 : (List Int)) : St := ⟨[.dead, .dead, .ptr 65 0, dD, dD, dD, .d (.sl tQi) (lq), .d tQi x0, .d tQi x1, dD, dD, dD, dD, dD, dD, dD, dD, dD, .dead], ofL [(0, .box [.row 64, .d .bool (false)]), (1, .gone), (64, .row 5 (.int .u8) x2 false), (65, .box [.ptr 0 0])], 2⟩
def qf.p2 (qa : Nat) (l lq : List Int) (k : Nat) := fun x0 x1 x2 => lp qbR qa Tryz.f96 [.pb [.own (some 0) [] 0 5 (.int .u8) true, .kill 1]] 2 qf.k 2 [] k (qf.s2 l lq x0 x1 x2)
def qf.b2 (l lq : List Int) (A2 : Int → Int → (List Int) → Option (List Int)) (x0 : Int) (x1 : Int) (x2 : (List Int)) : Option (List Int) :=
 (if (decide (x1 < x0)) then (match (idx lq x1) with | none => none | some y3 => (match (veil (zo.f BIG (IntKind.wrap .u64 y3))) with | none => none | some y4 => (match (veil (zJ.f BIG x2 y4)) with | none => none | some y5 => A2 x0 (IntKind.wrap .i64 (x1 + (1 : Int))) y5))) else some (x2))
def qf.l2 (qa : Nat) (l lq : List Int) : Nat → Int → Int → (List Int) → Option (List Int)
 | 0, _, _, _ => none
 | k + 1, x0, x1, x2 => qf.b2 l lq (qf.l2 qa l lq k) x0 x1 x2
def qf.b (l lq : List Int) (E2 : Int → Int → (List Int) → Option (List Int)) : Option (List Int) :=
 E2 ((((List.length lq)) : Nat) : Int) (0 : Int) l
def qf.f (qa : Nat) (l lq : List Int) : Option (List Int) := qf.b l lq (qf.l2 qa l lq qa)
theorem qf.l2_eq (qa : Nat) (l lq : List Int) : ∀ k : Nat, qf.p2 qa l lq k = qf.l2 qa l lq k
 | 0 => by kernel_rfl
 | k + 1 => by
  refine Eq.trans (b := qf.b2 l lq (qf.p2 qa l lq k)) (by kernel_rfl) ?_
  rw [qf.l2_eq qa l lq k]
  kernel_rfl
theorem qf.eq (qa : Nat) (l lq : List Int) : (denF qbR loopN qa Tryz.f96 [.pb [.own (some 0) [] 0 5 (.int .u8) true, .kill 1]] [.agg [.ptr 0 0], .d (.sl tQi) lq] [.box [.row 1, .d .bool false], .row 5 (.int .u8) l false] qf.k) = qf.f qa l lq := by
 refine Eq.trans (b := qf.b l lq (qf.p2 qa l lq qa)) (by kernel_rfl) ?_
 rw [qf.l2_eq qa l lq qa]
 kernel_rfl
def QA : Den.Sum := ⟨[.pb [.own none [0] 0 5 (.int .u8) false], .dat (.sl tQi) false], fun qA qj κ => match qA, qj with
 | [.agg [.ptr 0 0], .d (.sl (.int .i64)) lq], [.box [.row 1, .d .bool false], .row 5 (.int .u8) l false] => (match veil (qf.f BIG l lq) with | none => none | some y => κ [] [.box [.row 2, .d .bool false], .gone, .row 5 (.int .u8) y false])
 | _, _ => none⟩
theorem qch : SumDet QA := zi fun _ _ _ _ => by
 unfold QA
 simp only [veil_eq]
 split
 ·split <;> rfl
 ·rfl
theorem qcz : SumOk Tryz.prog 96 QA := by
 have hE : EnvOk Tryz.prog qbR := env_ok (l := [(106, Qz), (107, ZV)]) th_ok qU ⟨⟨qcy, qcg⟩, ⟨qeP, qeg⟩, trivial⟩ _
 refine sum_ok hE Tryz.func96 rfl (by kernel_rfl) QA [.pb [.own (some 0) [] 0 5 (.int .u8) true, .kill 1]] qf.k ?_
 intro R avs qj κ r h
 unfold QA at h
 simp only [veil_eq] at h
 split at h
 ·rename_i lq l
  split at h
  ·cases h
  ·rename_i y hy
   refine ⟨BIG, _, _, _, (qf.eq BIG l lq).trans hy, ?_, h⟩
   intro rs ros hk
   unfold qf.k at hk
   split at hk
   ·rw [← sj hk]; exact ⟨rfl, rfl⟩
   ·cases hk
 ·cases h
def qfx : Env := ⟨th, gam [(115, qbM)], fun i => if i = 3 then ⟨[3, 6, 7, 8], [(3, 122, (.pair tQi (.sl (.int .u8))))], []⟩ else ⟨[], [], []⟩⟩
def zD.k (rs : List AV) (os : List Den.Obj) : Option LF :=
 match rs, os with
 | [.row 0], [.row 122 (.pair (.int .i64) (.sl (.int .u8))) r0 false] => some r0
 | _, _ => none
def zD.s3 (b : LF) (x0 x1 : Int) (x2 : LF) : St := ⟨[dD, dD, dD, .row 64, .dead, .dead, .d (.sl (.pair tQi (.sl (.int .u8)))) (b), .d tQi x0, .d tQi x1, dD, dD, dD, dD, dD, dD, dD, dD, dD, .dead], ofL [(64, .row 122 (.pair tQi (.sl (.int .u8))) x2 false)], 0⟩
def zD.p3 (qa : Nat) (b : LF) (k : Nat) := fun x0 x1 x2 => lp qfx qa Tryz.f113 [.own 122 (.pair tQi (.sl (.int .u8)))] 0 zD.k 3 [] k (zD.s3 b x0 x1 x2)
def zD.b3 (b : LF) (A3 : Int → Int → LF → Option LF) (x0 x1 : Int) (x2 : LF) : Option LF :=
 (if (decide (x1 < x0)) then (match (idx b x1) with | none => none | some y3 => (match (veil (Z7.f BIG y3.1 y3.2)) with | none => none | some y4 => (if ((((List.length x2) + (List.length ((y4.1, y4.2) :: ([] : LF)))) * (32 : Nat)) ≤ lim) then A3 x0 (IntKind.wrap .i64 (x1 + (1 : Int))) (x2 ++ ((y4.1, y4.2) :: ([] : LF))) else none))) else some (x2))
def zD.l3 (qa : Nat) (b : LF) : Nat → Int → Int → LF → Option LF
 | 0, _, _, _ => none
 | k + 1, x0, x1, x2 => zD.b3 b (zD.l3 qa b k) x0 x1 x2
def zD.b (b : LF) (E3 : Int → Int → LF → Option LF) : Option LF :=
 E3 ((((List.length b)) : Nat) : Int) (0 : Int) ([] : LF)
def zD.f (qa : Nat) (b : LF) : Option LF := zD.b b (zD.l3 qa b qa)
theorem zD.l3_eq (qa : Nat) (b : LF) : ∀ k : Nat, zD.p3 qa b k = zD.l3 qa b k
 | 0 => by kernel_rfl
 | k + 1 => by
  refine Eq.trans (b := zD.b3 b (zD.p3 qa b k)) (by kernel_rfl) ?_
  rw [zD.l3_eq qa b k]
  kernel_rfl
theorem zD.eq (qa : Nat) (b : LF) : (denF qfx loopN qa Tryz.f113 [.own 122 (.pair tQi (.sl (.int .u8)))] [.d (.sl (.pair tQi (.sl (.int .u8)))) b] [] zD.k) = zD.f qa b := by
 refine Eq.trans (b := zD.b b (zD.p3 qa b qa)) (by kernel_rfl) ?_
 rw [zD.l3_eq qa b qa]
 kernel_rfl
def qbi : Den.Sum := ⟨[.dat (.sl (.pair tQi (.sl (.int .u8)))) false], fun qA qj κ => match qA, qj with
 | [.d (.sl (.pair (.int .i64) (.sl (.int .u8)))) b], [] => (match veil (zD.f BIG b) with | none => none | some y => κ [.row 0] [.row 122 (.pair (.int .i64) (.sl (.int .u8))) y false])
 | _, _ => none⟩
theorem qiD : SumDet qbi := zi fun _ _ _ _ => by
 unfold qbi
 simp only [veil_eq]
 split
 ·split <;> rfl
 ·rfl
theorem qju : SumOk Tryz.prog 113 qbi := by
 have hE : EnvOk Tryz.prog qfx := env_ok (l := [(115, qbM)]) th_ok qU ⟨⟨qjS, qjt⟩, trivial⟩ _
 refine sum_ok hE Tryz.func113 rfl (by kernel_rfl) qbi [.own 122 (.pair tQi (.sl (.int .u8)))] zD.k ?_
 intro R avs qj κ r h
 unfold qbi at h
 simp only [veil_eq] at h
 split at h
 ·rename_i b
  split at h
  ·cases h
  ·rename_i y hy
   refine ⟨BIG, _, _, _, (zD.eq BIG b).trans hy, ?_, h⟩
   intro rs ros hk
   unfold zD.k at hk
   split at hk
   ·rw [← sj hk]; exact ⟨rfl, rfl⟩
   ·cases hk
 ·cases h
def qgU : Env := ⟨th, gam [(113, qbi)], fun i => ⟨[], [], []⟩⟩
def Zu.k (rs : List AV) (os : List Den.Obj) : Option (Int × Int × Int × Int × Int × Bool × LF) :=
 match rs, os with
 | [.agg [.d (.int .i64) r0, .d (.int .i64) r1, .d (.int .i64) r2, .d (.int .i64) r3, .d (.int .i64) r4, .d .bool r5, .d (.sl (.pair (.int .i64) (.sl (.int .u8)))) r6]], [] => some (r0, r1, r2, r3, r4, r5, r6)
 | _, _ => none
def Zu.b (qW qO qs qp qq : Int) (qN : Bool) (qL : LF) : Option (Int × Int × Int × Int × Int × Bool × LF) :=
 (match (veil (zD.f BIG qL)) with | none => none | some y0 => some (qW, qO, qs, qp, qq, qN, y0))
def Zu.f (qa : Nat) (qW qO qs qp qq : Int) (qN : Bool) (qL : LF) : Option (Int × Int × Int × Int × Int × Bool × LF) := Zu.b qW qO qs qp qq qN qL
theorem Zu.eq (qa : Nat) (qW qO qs qp qq : Int) (qN : Bool) (qL : LF) : (denF qgU loopN qa Tryz.f111 [.dat tQr true] [.agg [.d tQi qW, .d tQi qO, .d tQi qs, .d tQi qp, .d tQi qq, .d .bool qN, .d (.sl (.pair tQi (.sl (.int .u8)))) qL]] [] Zu.k) = Zu.f qa qW qO qs qp qq qN qL := by
 kernel_rfl
def qaY : Den.Sum := ⟨[.dat tQr true], fun qA qj κ => match qA, qj with
 | [.agg [.d (.int .i64) qW, .d (.int .i64) qO, .d (.int .i64) qs, .d (.int .i64) qp, .d (.int .i64) qq, .d .bool qN, .d (.sl (.pair (.int .i64) (.sl (.int .u8)))) qL]], [] => (match veil (Zu.f BIG qW qO qs qp qq qN qL) with | none => none | some y => κ [.agg [.d (.int .i64) y.1, .d (.int .i64) y.2.1, .d (.int .i64) y.2.2.1, .d (.int .i64) y.2.2.2.1, .d (.int .i64) y.2.2.2.2.1, .d .bool y.2.2.2.2.2.1, .d (.sl (.pair (.int .i64) (.sl (.int .u8)))) y.2.2.2.2.2.2]] [])
 | _, _ => none⟩
theorem qhL : SumDet qaY := zi fun _ _ _ _ => by
 unfold qaY
 simp only [veil_eq]
 split
 ·split <;> rfl
 ·rfl
theorem qix : SumOk Tryz.prog 111 qaY := by
 have hE : EnvOk Tryz.prog qgU := env_ok (l := [(113, qbi)]) th_ok qU ⟨⟨qju, qiD⟩, trivial⟩ _
 refine sum_ok hE Tryz.func111 rfl (by kernel_rfl) qaY [.dat tQr true] Zu.k ?_
 intro R avs qj κ r h
 unfold qaY at h
 simp only [veil_eq] at h
 split at h
 ·rename_i qW qO qs qp qq qN qL
  split at h
  ·cases h
  ·rename_i y hy
   refine ⟨BIG, _, _, _, (Zu.eq BIG qW qO qs qp qq qN qL).trans hy, ?_, h⟩
   intro rs ros hk
   unfold Zu.k at hk
   split at hk
   ·rw [← sj hk]; exact ⟨rfl, rfl⟩
   ·cases hk
 ·cases h
def qhZ : Env := ⟨th, gam [(93, Zy), (110, ZA), (111, qaY)], fun i => ⟨[], [], []⟩⟩
def ZC.k (rs : List AV) (os : List Den.Obj) : Option (Int × Int × Int × Int × Int × Bool × LF × Bool) :=
 match rs, os with
 | [.agg [.d (.int .i64) r0, .d (.int .i64) r1, .d (.int .i64) r2, .d (.int .i64) r3, .d (.int .i64) r4, .d .bool r5, .d (.sl (.pair (.int .i64) (.sl (.int .u8)))) r6], .d .bool r7], [] => some (r0, r1, r2, r3, r4, r5, r6, r7)
 | _, _ => none
def ZC.b (l : LR) (id : Int) : Option (Int × Int × Int × Int × Int × Bool × LF × Bool) :=
 (match (veil (qG.f BIG l id)) with | none => none | some y0 => (if (y0.1 == ((((List.length l)) : Nat) : Int)) then some (0, 0, 0, 0, 0, false, ([] : LF), false) else (match (idx l y0.1) with | none => none | some y1 => (match (veil (Zu.f BIG y1.1 y1.2.1 y1.2.2.1 y1.2.2.2.1.1 y1.2.2.2.1.2 y1.2.2.2.2.1 y1.2.2.2.2.2)) with | none => none | some y2 => some (y2.1, y2.2.1, y2.2.2.1, y2.2.2.2.1, y2.2.2.2.2.1, y2.2.2.2.2.2.1, y2.2.2.2.2.2.2, true)))))
def ZC.f (qa : Nat) (l : LR) (id : Int) : Option (Int × Int × Int × Int × Int × Bool × LF × Bool) := ZC.b l id
theorem ZC.eq (qa : Nat) (l : LR) (id : Int) : (denF qhZ loopN qa Tryz.f99 [.dat tQr true, .raw] [.d (.sl tQr) l, .d tQi id] [] ZC.k) = ZC.f qa l id := by
 kernel_rfl
def qaj : Den.Sum := ⟨[.dat (.sl tQr) false, .raw], fun qA qj κ => match qA, qj with
 | [.d (.sl (.pair (.int .i64) (.pair (.int .i64) (.pair (.int .i64) (.pair (.pair (.int .i64) (.int .i64)) (.pair .bool (.sl (.pair (.int .i64) (.sl (.int .u8)))))))))) l, .d (.int .i64) id], [] => (match veil (ZC.f BIG l id) with | none => none | some y => κ [.agg [.d (.int .i64) y.1, .d (.int .i64) y.2.1, .d (.int .i64) y.2.2.1, .d (.int .i64) y.2.2.2.1, .d (.int .i64) y.2.2.2.2.1, .d .bool y.2.2.2.2.2.1, .d (.sl (.pair (.int .i64) (.sl (.int .u8)))) y.2.2.2.2.2.2.1], .d .bool y.2.2.2.2.2.2.2] [])
 | _, _ => none⟩
theorem qeQ : SumDet qaj := zi fun _ _ _ _ => by
 unfold qaj
 simp only [veil_eq]
 split
 ·split <;> rfl
 ·rfl
theorem qfG : SumOk Tryz.prog 99 qaj := by
 have hE : EnvOk Tryz.prog qhZ := env_ok (l := [(93, Zy), (110, ZA), (111, qaY)]) th_ok qU ⟨⟨qeu, qed⟩, ⟨qd2, qdH⟩, ⟨qix, qhL⟩, trivial⟩ _
 refine sum_ok hE Tryz.func99 rfl (by kernel_rfl) qaj [.dat tQr true, .raw] ZC.k ?_
 intro R avs qj κ r h
 unfold qaj at h
 simp only [veil_eq] at h
 split at h
 ·rename_i l id
  split at h
  ·cases h
  ·rename_i y hy
   refine ⟨BIG, _, _, _, (ZC.eq BIG l id).trans hy, ?_, h⟩
   intro rs ros hk
   unfold ZC.k at hk
   split at hk
   ·rw [← sj hk]; exact ⟨rfl, rfl⟩
   ·cases hk
 ·cases h
def Zs : Env := ⟨th, gam [(61, qbY), (62, Z2), (96, QA), (102, qb2), (106, Qz), (107, ZV), (99, qaj), (108, qau)], fun i => if i = 17 then ⟨[4, 92, 93, 94], [], []⟩ else if i = 5 then ⟨[2, 4, 5, 8, 9, 10], [], [777777]⟩ else if i = 7 then ⟨[2, 4, 5, 8, 9, 10], [], [777777]⟩ else if i = 9 then ⟨[2, 4, 5, 8, 10], [], [777777]⟩ else if i = 13 then ⟨[4, 5, 8, 10], [], [777777]⟩ else ⟨[], [], []⟩⟩
def qd.k (rs : List AV) (os : List Den.Obj) : Option (List Int) :=
 match rs, os with
 | [], [.box [.row 2, .d .bool false], .gone, .row 5 (.int .u8) r0 false] => some r0
 | _, _ => none
def qd.s17 (l : List Int) (qW qO qs qp qq : Int) (qN : Bool) (qL : LF) (qe : Int) (qc : LR) (x41 x42 : Int) (x43 : (List Int)) : St := ⟨[dD, dD, dD, dD, .ptr 65 0, dD, dD, dD, dD, dD, dD, dD, dD, dD, dD, dD, dD, dD, dD, dD, dD, dD, dD, dD, dD, dD, dD, dD, dD, dD, dD, dD, dD, dD, dD, dD, dD, dD, dD, dD, dD, dD, dD, dD, dD, dD, dD, dD, dD, dD, dD, dD, dD, dD, dD, dD, dD, dD, dD, dD, dD, dD, dD, dD, dD, dD, dD, dD, dD, dD, dD, dD, dD, dD, dD, dD, dD, dD, dD, dD, dD, dD, dD, dD, dD, dD, dD, dD, dD, dD, dD, dD, .d (.sl (.pair tQi (.sl (.int .u8)))) (qL), .d tQi x41, .d tQi x42, dD, dD, dD, dD, dD, dD, dD, dD, dD, dD, dD, dD, dD, dD, dD, dD, dD, dD, dD, .dead], ofL [(0, .box [.row 64, .d .bool (false)]), (1, .gone), (64, .row 5 (.int .u8) x43 false), (65, .box [.ptr 0 0])], 2⟩
def qd.p17 (qa : Nat) (l : List Int) (qW qO qs qp qq : Int) (qN : Bool) (qL : LF) (qe : Int) (qc : LR) (k : Nat) := fun x41 x42 x43 => lp Zs qa Tryz.f97 [.pb [.own (some 0) [] 0 5 (.int .u8) true, .kill 1]] 2 qd.k 17 [] k (qd.s17 l qW qO qs qp qq qN qL qe qc x41 x42 x43)
def qd.b17 (l : List Int) (qW qO qs qp qq : Int) (qN : Bool) (qL : LF) (qe : Int) (qc : LR) (A17 : Int → Int → (List Int) → Option (List Int)) (x41 : Int) (x42 : Int) (x43 : (List Int)) : Option (List Int) :=
 (if (decide (x42 < x41)) then (match (idx qL x42) with | none => none | some y44 => (if ((zN (1 : Int) y44.1) ∧ (QQ x43)) then (match (veil (qf.f BIG (x43 ++ (be (Int.toNat (1 : Int)) y44.1)) (((((List.length y44.2)) : Nat) : Int) :: ([] : List Int)))) with | none => none | some y45 => (match (veil (zJ.f BIG y45 y44.2)) with | none => none | some y46 => A17 x41 (IntKind.wrap .i64 (x42 + (1 : Int))) y46)) else none)) else some (x43))
def qd.l17 (qa : Nat) (l : List Int) (qW qO qs qp qq : Int) (qN : Bool) (qL : LF) (qe : Int) (qc : LR) : Nat → Int → Int → (List Int) → Option (List Int)
 | 0, _, _, _ => none
 | k + 1, x41, x42, x43 => qd.b17 l qW qO qs qp qq qN qL qe qc (qd.l17 qa l qW qO qs qp qq qN qL qe qc k) x41 x42 x43
def qd.s13 (l : List Int) (qW qO qs qp qq : Int) (qN : Bool) (qL : LF) (qe : Int) (qc : LR) (x28 : Int) (x29 : (List Int)) (x30 x31 x32 x33 x34 : Int) (x35 : Bool) (x36 : LF) : St := ⟨[dD, dD, dD, dD, .ptr 65 0, .ptr 66 0, .dead, .dead, .ptr 67 0, .dead, .d tQi x28, dD, dD, dD, dD, dD, dD, dD, dD, dD, dD, dD, dD, dD, dD, dD, dD, dD, dD, dD, dD, dD, dD, dD, dD, dD, dD, dD, dD, dD, dD, dD, dD, dD, dD, dD, dD, dD, dD, dD, dD, dD, dD, dD, dD, dD, dD, dD, dD, dD, dD, dD, dD, dD, dD, dD, dD, dD, dD, dD, dD, dD, dD, dD, dD, dD, dD, dD, dD, dD, dD, dD, dD, dD, dD, dD, dD, dD, dD, dD, dD, dD, dD, dD, dD, dD, dD, dD, dD, dD, dD, dD, dD, dD, dD, dD, dD, dD, dD, dD, dD, dD, dD, dD, .dead], ofL [(0, .box [.row 64, .d .bool (false)]), (1, .gone), (64, .row 5 (.int .u8) x29 false), (65, .box [.ptr 0 0]), (66, .box [.d tQi (qW), .d tQi (qO), .d tQi (qs), .d tQi (qp), .d tQi (qq), .d .bool (qN), .d (.sl (.pair tQi (.sl (.int .u8)))) (qL)]), (67, .box [.d tQi x30, .d tQi x31, .d tQi x32, .d tQi x33, .d tQi x34, .d .bool x35, .d (.sl (.pair tQi (.sl (.int .u8)))) x36])], 2⟩
def qd.p13 (qa : Nat) (l : List Int) (qW qO qs qp qq : Int) (qN : Bool) (qL : LF) (qe : Int) (qc : LR) (k : Nat) := fun x28 x29 x30 x31 x32 x33 x34 x35 x36 => lp Zs qa Tryz.f97 [.pb [.own (some 0) [] 0 5 (.int .u8) true, .kill 1]] 2 qd.k 13 [] k (qd.s13 l qW qO qs qp qq qN qL qe qc x28 x29 x30 x31 x32 x33 x34 x35 x36)
def qd.b13 (l : List Int) (qW qO qs qp qq : Int) (qN : Bool) (qL : LF) (qe : Int) (qc : LR) (A13 : Int → (List Int) → Int → Int → Int → Int → Int → Bool → LF → Option (List Int)) (E17 : Int → Int → (List Int) → Option (List Int)) (x28 : Int) (x29 : (List Int)) (x30 : Int) (x31 : Int) (x32 : Int) (x33 : Int) (x34 : Int) (x35 : Bool) (x36 : LF) : Option (List Int) :=
 (match (veil (Q8.f BIG (IntKind.wrap .i64 (qO - x31)))) with | none => none | some y37 => (match (veil (zo.f BIG y37)) with | none => none | some y38 => (match (veil (zJ.f BIG x29 y38)) with | none => none | some y39 => (if ((bits BinOp.and .i64 x28 (20 : Int)) != (0 : Int)) then some (y39) else (match (veil (qf.f BIG y39 (((((List.length qL)) : Nat) : Int) :: ([] : List Int)))) with | none => none | some y40 => E17 ((((List.length qL)) : Nat) : Int) (0 : Int) y40)))))
def qd.l13 (qa : Nat) (l : List Int) (qW qO qs qp qq : Int) (qN : Bool) (qL : LF) (qe : Int) (qc : LR) : Nat → Int → (List Int) → Int → Int → Int → Int → Int → Bool → LF → Option (List Int)
 | 0, _, _, _, _, _, _, _, _, _ => none
 | k + 1, x28, x29, x30, x31, x32, x33, x34, x35, x36 => qd.b13 l qW qO qs qp qq qN qL qe qc (qd.l13 qa l qW qO qs qp qq qN qL qe qc k) (qd.l17 qa l qW qO qs qp qq qN qL qe qc qa) x28 x29 x30 x31 x32 x33 x34 x35 x36
def qd.s9 (l : List Int) (qW qO qs qp qq : Int) (qN : Bool) (qL : LF) (qe : Int) (qc : LR) (x19 x20 x21 x22 x23 x24 : Int) (x25 : Bool) (x26 : LF) : St := ⟨[.dead, .dead, .d tQi (qe), .dead, .ptr 64 0, .ptr 65 0, .dead, .dead, .ptr 66 0, .dead, .d tQi x19, dD, dD, dD, dD, dD, dD, dD, dD, dD, dD, dD, dD, dD, dD, dD, dD, dD, dD, dD, dD, dD, dD, dD, dD, dD, dD, dD, dD, dD, dD, dD, dD, dD, dD, dD, dD, dD, dD, dD, dD, dD, dD, dD, dD, dD, dD, dD, dD, dD, dD, dD, dD, dD, dD, dD, dD, dD, dD, dD, dD, dD, dD, dD, dD, dD, dD, dD, dD, dD, dD, dD, dD, dD, dD, dD, dD, dD, dD, dD, dD, dD, dD, dD, dD, dD, dD, dD, dD, dD, dD, dD, dD, dD, dD, dD, dD, dD, dD, dD, dD, dD, dD, dD, .dead], ofL [(0, .box [.row 1, .d .bool (false)]), (1, .row 5 (.int .u8) (l) false), (64, .box [.ptr 0 0]), (65, .box [.d tQi (qW), .d tQi (qO), .d tQi (qs), .d tQi (qp), .d tQi (qq), .d .bool (qN), .d (.sl (.pair tQi (.sl (.int .u8)))) (qL)]), (66, .box [.d tQi x20, .d tQi x21, .d tQi x22, .d tQi x23, .d tQi x24, .d .bool x25, .d (.sl (.pair tQi (.sl (.int .u8)))) x26])], 2⟩
def qd.p9 (qa : Nat) (l : List Int) (qW qO qs qp qq : Int) (qN : Bool) (qL : LF) (qe : Int) (qc : LR) (k : Nat) := fun x19 x20 x21 x22 x23 x24 x25 x26 => lp Zs qa Tryz.f97 [.pb [.own (some 0) [] 0 5 (.int .u8) true, .kill 1]] 2 qd.k 9 [] k (qd.s9 l qW qO qs qp qq qN qL qe qc x19 x20 x21 x22 x23 x24 x25 x26)
def qd.b9 (l : List Int) (qW qO qs qp qq : Int) (qN : Bool) (qL : LF) (qe : Int) (qc : LR) (A9 : Int → Int → Int → Int → Int → Int → Bool → LF → Option (List Int)) (E13 : Int → (List Int) → Int → Int → Int → Int → Int → Bool → LF → Option (List Int)) (x19 : Int) (x20 : Int) (x21 : Int) (x22 : Int) (x23 : Int) (x24 : Int) (x25 : Bool) (x26 : LF) : Option (List Int) :=
 (match (veil (qf.f BIG l ((IntKind.wrap .i64 ((IntKind.wrap .i64 (qW - qe)) - (1 : Int))) :: ([] : List Int)))) with | none => none | some y27 => (if ((zN (1 : Int) x19) ∧ (QQ y27)) then (if ((bits BinOp.and .i64 x19 (8 : Int)) == (0 : Int)) then (if ((zN (1 : Int) (z6 qp qq)) ∧ (QQ (y27 ++ (be (Int.toNat (1 : Int)) x19)))) then E13 x19 ((y27 ++ (be (Int.toNat (1 : Int)) x19)) ++ (be (Int.toNat (1 : Int)) (z6 qp qq))) x20 x21 x22 x23 x24 x25 x26 else none) else E13 x19 (y27 ++ (be (Int.toNat (1 : Int)) x19)) x20 x21 x22 x23 x24 x25 x26) else none))
def qd.l9 (qa : Nat) (l : List Int) (qW qO qs qp qq : Int) (qN : Bool) (qL : LF) (qe : Int) (qc : LR) : Nat → Int → Int → Int → Int → Int → Int → Bool → LF → Option (List Int)
 | 0, _, _, _, _, _, _, _, _ => none
 | k + 1, x19, x20, x21, x22, x23, x24, x25, x26 => qd.b9 l qW qO qs qp qq qN qL qe qc (qd.l9 qa l qW qO qs qp qq qN qL qe qc k) (qd.l13 qa l qW qO qs qp qq qN qL qe qc qa) x19 x20 x21 x22 x23 x24 x25 x26
def qd.s7 (l : List Int) (qW qO qs qp qq : Int) (qN : Bool) (qL : LF) (qe : Int) (qc : LR) (x10 : Bool) (x11 x12 x13 x14 x15 x16 : Int) (x17 : Bool) (x18 : LF) : St := ⟨[.dead, .dead, .d tQi (qe), .dead, .ptr 64 0, .ptr 65 0, .dead, .dead, .ptr 66 0, .d .bool x10, .d tQi x11, dD, dD, dD, dD, dD, dD, dD, dD, dD, dD, dD, dD, dD, dD, dD, dD, dD, dD, dD, dD, dD, dD, dD, dD, dD, dD, dD, dD, dD, dD, dD, dD, dD, dD, dD, dD, dD, dD, dD, dD, dD, dD, dD, dD, dD, dD, dD, dD, dD, dD, dD, dD, dD, dD, dD, dD, dD, dD, dD, dD, dD, dD, dD, dD, dD, dD, dD, dD, dD, dD, dD, dD, dD, dD, dD, dD, dD, dD, dD, dD, dD, dD, dD, dD, dD, dD, dD, dD, dD, dD, dD, dD, dD, dD, dD, dD, dD, dD, dD, dD, dD, dD, dD, .dead], ofL [(0, .box [.row 1, .d .bool (false)]), (1, .row 5 (.int .u8) (l) false), (64, .box [.ptr 0 0]), (65, .box [.d tQi (qW), .d tQi (qO), .d tQi (qs), .d tQi (qp), .d tQi (qq), .d .bool (qN), .d (.sl (.pair tQi (.sl (.int .u8)))) (qL)]), (66, .box [.d tQi x12, .d tQi x13, .d tQi x14, .d tQi x15, .d tQi x16, .d .bool x17, .d (.sl (.pair tQi (.sl (.int .u8)))) x18])], 2⟩
def qd.p7 (qa : Nat) (l : List Int) (qW qO qs qp qq : Int) (qN : Bool) (qL : LF) (qe : Int) (qc : LR) (k : Nat) := fun x10 x11 x12 x13 x14 x15 x16 x17 x18 => lp Zs qa Tryz.f97 [.pb [.own (some 0) [] 0 5 (.int .u8) true, .kill 1]] 2 qd.k 7 [] k (qd.s7 l qW qO qs qp qq qN qL qe qc x10 x11 x12 x13 x14 x15 x16 x17 x18)
def qd.b7 (l : List Int) (qW qO qs qp qq : Int) (qN : Bool) (qL : LF) (qe : Int) (qc : LR) (A7 : Bool → Int → Int → Int → Int → Int → Int → Bool → LF → Option (List Int)) (E9 : Int → Int → Int → Int → Int → Int → Bool → LF → Option (List Int)) (x10 : Bool) (x11 : Int) (x12 : Int) (x13 : Int) (x14 : Int) (x15 : Int) (x16 : Int) (x17 : Bool) (x18 : LF) : Option (List Int) :=
 (if x10 then (if (!qN) then (if ((zn x18) && (zn qL)) then (if ((Zf x18 qL) == (0 : Int)) then E9 (bits BinOp.or .i64 x11 (16 : Int)) x12 x13 x14 x15 x16 x17 x18 else E9 x11 x12 x13 x14 x15 x16 x17 x18) else none) else E9 x11 x12 x13 x14 x15 x16 x17 x18) else E9 x11 x12 x13 x14 x15 x16 x17 x18)
def qd.l7 (qa : Nat) (l : List Int) (qW qO qs qp qq : Int) (qN : Bool) (qL : LF) (qe : Int) (qc : LR) : Nat → Bool → Int → Int → Int → Int → Int → Int → Bool → LF → Option (List Int)
 | 0, _, _, _, _, _, _, _, _, _ => none
 | k + 1, x10, x11, x12, x13, x14, x15, x16, x17, x18 => qd.b7 l qW qO qs qp qq qN qL qe qc (qd.l7 qa l qW qO qs qp qq qN qL qe qc k) (qd.l9 qa l qW qO qs qp qq qN qL qe qc qa) x10 x11 x12 x13 x14 x15 x16 x17 x18
def qd.s5 (l : List Int) (qW qO qs qp qq : Int) (qN : Bool) (qL : LF) (qe : Int) (qc : LR) (x1 : Bool) (x2 x3 x4 x5 x6 x7 : Int) (x8 : Bool) (x9 : LF) : St := ⟨[.dead, .dead, .d tQi (qe), .dead, .ptr 64 0, .ptr 65 0, .dead, .dead, .ptr 66 0, .d .bool x1, .d tQi x2, dD, dD, dD, dD, dD, dD, dD, dD, dD, dD, dD, dD, dD, dD, dD, dD, dD, dD, dD, dD, dD, dD, dD, dD, dD, dD, dD, dD, dD, dD, dD, dD, dD, dD, dD, dD, dD, dD, dD, dD, dD, dD, dD, dD, dD, dD, dD, dD, dD, dD, dD, dD, dD, dD, dD, dD, dD, dD, dD, dD, dD, dD, dD, dD, dD, dD, dD, dD, dD, dD, dD, dD, dD, dD, dD, dD, dD, dD, dD, dD, dD, dD, dD, dD, dD, dD, dD, dD, dD, dD, dD, dD, dD, dD, dD, dD, dD, dD, dD, dD, dD, dD, dD, .dead], ofL [(0, .box [.row 1, .d .bool (false)]), (1, .row 5 (.int .u8) (l) false), (64, .box [.ptr 0 0]), (65, .box [.d tQi (qW), .d tQi (qO), .d tQi (qs), .d tQi (qp), .d tQi (qq), .d .bool (qN), .d (.sl (.pair tQi (.sl (.int .u8)))) (qL)]), (66, .box [.d tQi x3, .d tQi x4, .d tQi x5, .d tQi x6, .d tQi x7, .d .bool x8, .d (.sl (.pair tQi (.sl (.int .u8)))) x9])], 2⟩
def qd.p5 (qa : Nat) (l : List Int) (qW qO qs qp qq : Int) (qN : Bool) (qL : LF) (qe : Int) (qc : LR) (k : Nat) := fun x1 x2 x3 x4 x5 x6 x7 x8 x9 => lp Zs qa Tryz.f97 [.pb [.own (some 0) [] 0 5 (.int .u8) true, .kill 1]] 2 qd.k 5 [] k (qd.s5 l qW qO qs qp qq qN qL qe qc x1 x2 x3 x4 x5 x6 x7 x8 x9)
def qd.b5 (l : List Int) (qW qO qs qp qq : Int) (qN : Bool) (qL : LF) (qe : Int) (qc : LR) (A5 : Bool → Int → Int → Int → Int → Int → Int → Bool → LF → Option (List Int)) (E7 : Bool → Int → Int → Int → Int → Int → Int → Bool → LF → Option (List Int)) (x1 : Bool) (x2 : Int) (x3 : Int) (x4 : Int) (x5 : Int) (x6 : Int) (x7 : Int) (x8 : Bool) (x9 : LF) : Option (List Int) :=
 (if x1 then (if (if (x6 == qp) then (if (x7 == qq) then true else false) else false) then E7 x1 (bits BinOp.or .i64 x2 (8 : Int)) x3 x4 x5 x6 x7 x8 x9 else E7 x1 x2 x3 x4 x5 x6 x7 x8 x9) else E7 x1 x2 x3 x4 x5 x6 x7 x8 x9)
def qd.l5 (qa : Nat) (l : List Int) (qW qO qs qp qq : Int) (qN : Bool) (qL : LF) (qe : Int) (qc : LR) : Nat → Bool → Int → Int → Int → Int → Int → Int → Bool → LF → Option (List Int)
 | 0, _, _, _, _, _, _, _, _, _ => none
 | k + 1, x1, x2, x3, x4, x5, x6, x7, x8, x9 => qd.b5 l qW qO qs qp qq qN qL qe qc (qd.l5 qa l qW qO qs qp qq qN qL qe qc k) (qd.l7 qa l qW qO qs qp qq qN qL qe qc qa) x1 x2 x3 x4 x5 x6 x7 x8 x9
def qd.b (l : List Int) (qW qO qs qp qq : Int) (qN : Bool) (qL : LF) (qe : Int) (qc : LR) (E5 : Bool → Int → Int → Int → Int → Int → Int → Bool → LF → Option (List Int)) : Option (List Int) :=
 (match (veil (ZC.f BIG qc qW)) with | none => none | some y0 => (if qN then E5 y0.2.2.2.2.2.2.2 (bits BinOp.or .i64 qs (4 : Int)) y0.1 y0.2.1 y0.2.2.1 y0.2.2.2.1 y0.2.2.2.2.1 y0.2.2.2.2.2.1 y0.2.2.2.2.2.2.1 else E5 y0.2.2.2.2.2.2.2 qs y0.1 y0.2.1 y0.2.2.1 y0.2.2.2.1 y0.2.2.2.2.1 y0.2.2.2.2.2.1 y0.2.2.2.2.2.2.1))
def qd.f (qa : Nat) (l : List Int) (qW qO qs qp qq : Int) (qN : Bool) (qL : LF) (qe : Int) (qc : LR) : Option (List Int) := qd.b l qW qO qs qp qq qN qL qe qc (qd.l5 qa l qW qO qs qp qq qN qL qe qc qa)
theorem qd.l17_eq (qa : Nat) (l : List Int) (qW qO qs qp qq : Int) (qN : Bool) (qL : LF) (qe : Int) (qc : LR) : ∀ k : Nat, qd.p17 qa l qW qO qs qp qq qN qL qe qc k = qd.l17 qa l qW qO qs qp qq qN qL qe qc k
 | 0 => by kernel_rfl
 | k + 1 => by
  refine Eq.trans (b := qd.b17 l qW qO qs qp qq qN qL qe qc (qd.p17 qa l qW qO qs qp qq qN qL qe qc k)) (by kernel_rfl) ?_
  rw [qd.l17_eq qa l qW qO qs qp qq qN qL qe qc k]
  kernel_rfl
theorem qd.l13_eq (qa : Nat) (l : List Int) (qW qO qs qp qq : Int) (qN : Bool) (qL : LF) (qe : Int) (qc : LR) : ∀ k : Nat, qd.p13 qa l qW qO qs qp qq qN qL qe qc k = qd.l13 qa l qW qO qs qp qq qN qL qe qc k
 | 0 => by kernel_rfl
 | k + 1 => by
  refine Eq.trans (b := qd.b13 l qW qO qs qp qq qN qL qe qc (qd.p13 qa l qW qO qs qp qq qN qL qe qc k) (qd.p17 qa l qW qO qs qp qq qN qL qe qc qa)) (by kernel_rfl) ?_
  rw [qd.l13_eq qa l qW qO qs qp qq qN qL qe qc k, qd.l17_eq qa l qW qO qs qp qq qN qL qe qc qa]
  kernel_rfl
theorem qd.l9_eq (qa : Nat) (l : List Int) (qW qO qs qp qq : Int) (qN : Bool) (qL : LF) (qe : Int) (qc : LR) : ∀ k : Nat, qd.p9 qa l qW qO qs qp qq qN qL qe qc k = qd.l9 qa l qW qO qs qp qq qN qL qe qc k
 | 0 => by kernel_rfl
 | k + 1 => by
  refine Eq.trans (b := qd.b9 l qW qO qs qp qq qN qL qe qc (qd.p9 qa l qW qO qs qp qq qN qL qe qc k) (qd.p13 qa l qW qO qs qp qq qN qL qe qc qa)) (by kernel_rfl) ?_
  rw [qd.l9_eq qa l qW qO qs qp qq qN qL qe qc k, qd.l13_eq qa l qW qO qs qp qq qN qL qe qc qa]
  kernel_rfl
theorem qd.l7_eq (qa : Nat) (l : List Int) (qW qO qs qp qq : Int) (qN : Bool) (qL : LF) (qe : Int) (qc : LR) : ∀ k : Nat, qd.p7 qa l qW qO qs qp qq qN qL qe qc k = qd.l7 qa l qW qO qs qp qq qN qL qe qc k
 | 0 => by kernel_rfl
 | k + 1 => by
  refine Eq.trans (b := qd.b7 l qW qO qs qp qq qN qL qe qc (qd.p7 qa l qW qO qs qp qq qN qL qe qc k) (qd.p9 qa l qW qO qs qp qq qN qL qe qc qa)) (by kernel_rfl) ?_
  rw [qd.l7_eq qa l qW qO qs qp qq qN qL qe qc k, qd.l9_eq qa l qW qO qs qp qq qN qL qe qc qa]
  kernel_rfl
theorem qd.l5_eq (qa : Nat) (l : List Int) (qW qO qs qp qq : Int) (qN : Bool) (qL : LF) (qe : Int) (qc : LR) : ∀ k : Nat, qd.p5 qa l qW qO qs qp qq qN qL qe qc k = qd.l5 qa l qW qO qs qp qq qN qL qe qc k
 | 0 => by kernel_rfl
 | k + 1 => by
  refine Eq.trans (b := qd.b5 l qW qO qs qp qq qN qL qe qc (qd.p5 qa l qW qO qs qp qq qN qL qe qc k) (qd.p7 qa l qW qO qs qp qq qN qL qe qc qa)) (by kernel_rfl) ?_
  rw [qd.l5_eq qa l qW qO qs qp qq qN qL qe qc k, qd.l7_eq qa l qW qO qs qp qq qN qL qe qc qa]
  kernel_rfl
theorem qd.eq (qa : Nat) (l : List Int) (qW qO qs qp qq : Int) (qN : Bool) (qL : LF) (qe : Int) (qc : LR) : (denF Zs loopN qa Tryz.f97 [.pb [.own (some 0) [] 0 5 (.int .u8) true, .kill 1]] [.agg [.ptr 0 0], .agg [.d tQi qW, .d tQi qO, .d tQi qs, .d tQi qp, .d tQi qq, .d .bool qN, .d (.sl (.pair tQi (.sl (.int .u8)))) qL], .d tQi qe, .d (.sl tQr) qc] [.box [.row 1, .d .bool false], .row 5 (.int .u8) l false] qd.k) = qd.f qa l qW qO qs qp qq qN qL qe qc := by
 refine Eq.trans (b := qd.b l qW qO qs qp qq qN qL qe qc (qd.p5 qa l qW qO qs qp qq qN qL qe qc qa)) (by kernel_rfl) ?_
 rw [qd.l5_eq qa l qW qO qs qp qq qN qL qe qc qa]
 kernel_rfl
def Zo : Den.Sum := ⟨[.pb [.own none [0] 0 5 (.int .u8) false], .dat tQr true, .raw, .dat (.sl tQr) false], fun qA qj κ => match qA, qj with
 | [.agg [.ptr 0 0], .agg [.d (.int .i64) qW, .d (.int .i64) qO, .d (.int .i64) qs, .d (.int .i64) qp, .d (.int .i64) qq, .d .bool qN, .d (.sl (.pair (.int .i64) (.sl (.int .u8)))) qL], .d (.int .i64) qe, .d (.sl (.pair (.int .i64) (.pair (.int .i64) (.pair (.int .i64) (.pair (.pair (.int .i64) (.int .i64)) (.pair .bool (.sl (.pair (.int .i64) (.sl (.int .u8)))))))))) qc], [.box [.row 1, .d .bool false], .row 5 (.int .u8) l false] => (match veil (qd.f BIG l qW qO qs qp qq qN qL qe qc) with | none => none | some y => κ [] [.box [.row 2, .d .bool false], .gone, .row 5 (.int .u8) y false])
 | _, _ => none⟩
theorem qeS : SumDet Zo := zi fun _ _ _ _ => by
 unfold Zo
 simp only [veil_eq]
 split
 ·split <;> rfl
 ·rfl
theorem qfd : SumOk Tryz.prog 97 Zo := by
 have hE : EnvOk Tryz.prog Zs := env_ok (l := [(61, qbY), (62, Z2), (96, QA), (102, qb2), (106, Qz), (107, ZV), (99, qaj), (108, qau)]) th_ok qU ⟨⟨qfc, qej⟩, ⟨qcA, qb1⟩, ⟨qcz, qch⟩, ⟨qhV, qgS⟩, ⟨qcy, qcg⟩, ⟨qeP, qeg⟩, ⟨qfG, qeQ⟩, ⟨qhE, qg7⟩, trivial⟩ _
 refine sum_ok hE Tryz.func97 rfl (by kernel_rfl) Zo [.pb [.own (some 0) [] 0 5 (.int .u8) true, .kill 1]] qd.k ?_
 intro R avs qj κ r h
 unfold Zo at h
 simp only [veil_eq] at h
 split at h
 ·rename_i qW qO qs qp qq qN qL qe qc l
  split at h
  ·cases h
  ·rename_i y hy
   refine ⟨BIG, _, _, _, (qd.eq BIG l qW qO qs qp qq qN qL qe qc).trans hy, ?_, h⟩
   intro rs ros hk
   unfold qd.k at hk
   split at hk
   ·rw [← sj hk]; exact ⟨rfl, rfl⟩
   ·cases hk
 ·cases h
def qfq : Env := ⟨th, gam [(60, qa5), (61, qbY), (62, Z2), (64, qa7), (71, ZI), (96, QA), (97, Zo)], fun i => if i = 19 then ⟨[1, 5, 6, 78, 79, 80], [(1, 114, tQr)], [1]⟩ else ⟨[], [], []⟩⟩
def zv.k (rs : List AV) (os : List Den.Obj) : Option (List Int) :=
 match rs, os with
 | [.d (.sl (.int .u8)) r0], [] => some r0
 | _, _ => none
def zv.s19 (qC q9 zh qH qI zg qM qZ qS qV : Int) (qx qc x6 : LR) (x7 x8 x9 : Int) (x10 : (List Int)) : St := ⟨[.dead, .d (.sl tQr) x6, dD, dD, dD, .ptr 64 0, .d tQi x7, dD, dD, dD, dD, dD, dD, dD, dD, dD, dD, dD, dD, dD, dD, dD, dD, dD, dD, dD, dD, dD, dD, dD, dD, dD, dD, dD, dD, dD, dD, dD, dD, dD, dD, dD, dD, dD, dD, dD, dD, dD, dD, dD, dD, dD, dD, dD, dD, dD, dD, dD, dD, dD, dD, dD, dD, dD, dD, dD, dD, dD, dD, dD, dD, dD, dD, dD, dD, dD, dD, dD, .d (.sl tQr) (qx), .d tQi x8, .d tQi x9, dD, dD, dD, dD, dD, dD, dD, dD, dD, dD, dD, dD, dD, dD, dD, dD, dD, .dead], ofL [(64, .box [.ptr 65 0]), (65, .box [.row 66, .d .bool (false)]), (66, .row 5 (.int .u8) x10 false)], 0⟩
def zv.p19 (qa : Nat) (qC q9 zh qH qI zg qM qZ qS qV : Int) (qx qc : LR) (k : Nat) := fun x6 x7 x8 x9 x10 => lp qfq qa Tryz.f80 [.own 5 (.int .u8)] 0 zv.k 19 [] k (zv.s19 qC q9 zh qH qI zg qM qZ qS qV qx qc x6 x7 x8 x9 x10)
def zv.b19 (qC q9 zh qH qI zg qM qZ qS qV : Int) (qx qc : LR) (A19 : LR → Int → Int → Int → (List Int) → Option (List Int)) (x6 : LR) (x7 : Int) (x8 : Int) (x9 : Int) (x10 : (List Int)) : Option (List Int) :=
 (if (decide (x9 < x8)) then (match (idx qx x9) with | none => none | some y11 => (match (veil (qd.f BIG x10 y11.1 y11.2.1 y11.2.2.1 y11.2.2.2.1.1 y11.2.2.2.1.2 y11.2.2.2.2.1 y11.2.2.2.2.2 x7 x6)) with | none => none | some y12 => A19 x6 y11.1 x8 (IntKind.wrap .i64 (x9 + (1 : Int))) y12)) else (if (QQ x10) then some (x10) else none))
def zv.l19 (qa : Nat) (qC q9 zh qH qI zg qM qZ qS qV : Int) (qx qc : LR) : Nat → LR → Int → Int → Int → (List Int) → Option (List Int)
 | 0, _, _, _, _, _ => none
 | k + 1, x6, x7, x8, x9, x10 => zv.b19 qC q9 zh qH qI zg qM qZ qS qV qx qc (zv.l19 qa qC q9 zh qH qI zg qM qZ qS qV qx qc k) x6 x7 x8 x9 x10
def zv.b (qC q9 zh qH qI zg qM qZ qS qV : Int) (qx qc : LR) (E19 : LR → Int → Int → Int → (List Int) → Option (List Int)) : Option (List Int) :=
 (if (qV == (0 : Int)) then (if (zN (1 : Int) qC) then (match (veil (qf.f BIG (be (Int.toNat (1 : Int)) qC) (q9 :: (zh :: ([] : List Int))))) with | none => none | some y0 => (if ((zN (1 : Int) (z6 qH qI)) ∧ (QQ y0)) then (if (qt qC (0 : Int)) then (match (veil (qf.f BIG (y0 ++ (be (Int.toNat (1 : Int)) (z6 qH qI))) (zg :: ([] : List Int)))) with | none => none | some y1 => (if (qt qC (1 : Int)) then (match (veil (qf.f BIG y1 (qM :: ([] : List Int)))) with | none => none | some y2 => (if (qt qC (2 : Int)) then (match (veil (qf.f BIG y2 (qZ :: (qS :: ([] : List Int))))) with | none => none | some y3 => (if (qt qC (3 : Int)) then (match (veil (qf.f BIG y3 (qV :: ([] : List Int)))) with | none => none | some y4 => (if (qt qC (4 : Int)) then (match (veil (qf.f BIG y4 (((((List.length qx)) : Nat) : Int) :: ([] : List Int)))) with | none => none | some y5 => E19 ([] : LR) (-(1 : Int)) ((((List.length qx)) : Nat) : Int) (0 : Int) y5) else E19 ([] : LR) (-(1 : Int)) ((((List.length qx)) : Nat) : Int) (0 : Int) y4)) else (if (qt qC (4 : Int)) then (match (veil (qf.f BIG y3 (((((List.length qx)) : Nat) : Int) :: ([] : List Int)))) with | none => none | some y13 => E19 ([] : LR) (-(1 : Int)) ((((List.length qx)) : Nat) : Int) (0 : Int) y13) else E19 ([] : LR) (-(1 : Int)) ((((List.length qx)) : Nat) : Int) (0 : Int) y3))) else (if (qt qC (3 : Int)) then (match (veil (qf.f BIG y2 (qV :: ([] : List Int)))) with | none => none | some y14 => (if (qt qC (4 : Int)) then (match (veil (qf.f BIG y14 (((((List.length qx)) : Nat) : Int) :: ([] : List Int)))) with | none => none | some y15 => E19 ([] : LR) (-(1 : Int)) ((((List.length qx)) : Nat) : Int) (0 : Int) y15) else E19 ([] : LR) (-(1 : Int)) ((((List.length qx)) : Nat) : Int) (0 : Int) y14)) else (if (qt qC (4 : Int)) then (match (veil (qf.f BIG y2 (((((List.length qx)) : Nat) : Int) :: ([] : List Int)))) with | none => none | some y16 => E19 ([] : LR) (-(1 : Int)) ((((List.length qx)) : Nat) : Int) (0 : Int) y16) else E19 ([] : LR) (-(1 : Int)) ((((List.length qx)) : Nat) : Int) (0 : Int) y2)))) else (if (qt qC (2 : Int)) then (match (veil (qf.f BIG y1 (qZ :: (qS :: ([] : List Int))))) with | none => none | some y17 => (if (qt qC (3 : Int)) then (match (veil (qf.f BIG y17 (qV :: ([] : List Int)))) with | none => none | some y18 => (if (qt qC (4 : Int)) then (match (veil (qf.f BIG y18 (((((List.length qx)) : Nat) : Int) :: ([] : List Int)))) with | none => none | some y19 => E19 ([] : LR) (-(1 : Int)) ((((List.length qx)) : Nat) : Int) (0 : Int) y19) else E19 ([] : LR) (-(1 : Int)) ((((List.length qx)) : Nat) : Int) (0 : Int) y18)) else (if (qt qC (4 : Int)) then (match (veil (qf.f BIG y17 (((((List.length qx)) : Nat) : Int) :: ([] : List Int)))) with | none => none | some y20 => E19 ([] : LR) (-(1 : Int)) ((((List.length qx)) : Nat) : Int) (0 : Int) y20) else E19 ([] : LR) (-(1 : Int)) ((((List.length qx)) : Nat) : Int) (0 : Int) y17))) else (if (qt qC (3 : Int)) then (match (veil (qf.f BIG y1 (qV :: ([] : List Int)))) with | none => none | some y21 => (if (qt qC (4 : Int)) then (match (veil (qf.f BIG y21 (((((List.length qx)) : Nat) : Int) :: ([] : List Int)))) with | none => none | some y22 => E19 ([] : LR) (-(1 : Int)) ((((List.length qx)) : Nat) : Int) (0 : Int) y22) else E19 ([] : LR) (-(1 : Int)) ((((List.length qx)) : Nat) : Int) (0 : Int) y21)) else (if (qt qC (4 : Int)) then (match (veil (qf.f BIG y1 (((((List.length qx)) : Nat) : Int) :: ([] : List Int)))) with | none => none | some y23 => E19 ([] : LR) (-(1 : Int)) ((((List.length qx)) : Nat) : Int) (0 : Int) y23) else E19 ([] : LR) (-(1 : Int)) ((((List.length qx)) : Nat) : Int) (0 : Int) y1))))) else (if (qt qC (1 : Int)) then (match (veil (qf.f BIG (y0 ++ (be (Int.toNat (1 : Int)) (z6 qH qI))) (qM :: ([] : List Int)))) with | none => none | some y24 => (if (qt qC (2 : Int)) then (match (veil (qf.f BIG y24 (qZ :: (qS :: ([] : List Int))))) with | none => none | some y25 => (if (qt qC (3 : Int)) then (match (veil (qf.f BIG y25 (qV :: ([] : List Int)))) with | none => none | some y26 => (if (qt qC (4 : Int)) then (match (veil (qf.f BIG y26 (((((List.length qx)) : Nat) : Int) :: ([] : List Int)))) with | none => none | some y27 => E19 ([] : LR) (-(1 : Int)) ((((List.length qx)) : Nat) : Int) (0 : Int) y27) else E19 ([] : LR) (-(1 : Int)) ((((List.length qx)) : Nat) : Int) (0 : Int) y26)) else (if (qt qC (4 : Int)) then (match (veil (qf.f BIG y25 (((((List.length qx)) : Nat) : Int) :: ([] : List Int)))) with | none => none | some y28 => E19 ([] : LR) (-(1 : Int)) ((((List.length qx)) : Nat) : Int) (0 : Int) y28) else E19 ([] : LR) (-(1 : Int)) ((((List.length qx)) : Nat) : Int) (0 : Int) y25))) else (if (qt qC (3 : Int)) then (match (veil (qf.f BIG y24 (qV :: ([] : List Int)))) with | none => none | some y29 => (if (qt qC (4 : Int)) then (match (veil (qf.f BIG y29 (((((List.length qx)) : Nat) : Int) :: ([] : List Int)))) with | none => none | some y30 => E19 ([] : LR) (-(1 : Int)) ((((List.length qx)) : Nat) : Int) (0 : Int) y30) else E19 ([] : LR) (-(1 : Int)) ((((List.length qx)) : Nat) : Int) (0 : Int) y29)) else (if (qt qC (4 : Int)) then (match (veil (qf.f BIG y24 (((((List.length qx)) : Nat) : Int) :: ([] : List Int)))) with | none => none | some y31 => E19 ([] : LR) (-(1 : Int)) ((((List.length qx)) : Nat) : Int) (0 : Int) y31) else E19 ([] : LR) (-(1 : Int)) ((((List.length qx)) : Nat) : Int) (0 : Int) y24)))) else (if (qt qC (2 : Int)) then (match (veil (qf.f BIG (y0 ++ (be (Int.toNat (1 : Int)) (z6 qH qI))) (qZ :: (qS :: ([] : List Int))))) with | none => none | some y32 => (if (qt qC (3 : Int)) then (match (veil (qf.f BIG y32 (qV :: ([] : List Int)))) with | none => none | some y33 => (if (qt qC (4 : Int)) then (match (veil (qf.f BIG y33 (((((List.length qx)) : Nat) : Int) :: ([] : List Int)))) with | none => none | some y34 => E19 ([] : LR) (-(1 : Int)) ((((List.length qx)) : Nat) : Int) (0 : Int) y34) else E19 ([] : LR) (-(1 : Int)) ((((List.length qx)) : Nat) : Int) (0 : Int) y33)) else (if (qt qC (4 : Int)) then (match (veil (qf.f BIG y32 (((((List.length qx)) : Nat) : Int) :: ([] : List Int)))) with | none => none | some y35 => E19 ([] : LR) (-(1 : Int)) ((((List.length qx)) : Nat) : Int) (0 : Int) y35) else E19 ([] : LR) (-(1 : Int)) ((((List.length qx)) : Nat) : Int) (0 : Int) y32))) else (if (qt qC (3 : Int)) then (match (veil (qf.f BIG (y0 ++ (be (Int.toNat (1 : Int)) (z6 qH qI))) (qV :: ([] : List Int)))) with | none => none | some y36 => (if (qt qC (4 : Int)) then (match (veil (qf.f BIG y36 (((((List.length qx)) : Nat) : Int) :: ([] : List Int)))) with | none => none | some y37 => E19 ([] : LR) (-(1 : Int)) ((((List.length qx)) : Nat) : Int) (0 : Int) y37) else E19 ([] : LR) (-(1 : Int)) ((((List.length qx)) : Nat) : Int) (0 : Int) y36)) else (if (qt qC (4 : Int)) then (match (veil (qf.f BIG (y0 ++ (be (Int.toNat (1 : Int)) (z6 qH qI))) (((((List.length qx)) : Nat) : Int) :: ([] : List Int)))) with | none => none | some y38 => E19 ([] : LR) (-(1 : Int)) ((((List.length qx)) : Nat) : Int) (0 : Int) y38) else E19 ([] : LR) (-(1 : Int)) ((((List.length qx)) : Nat) : Int) (0 : Int) (y0 ++ (be (Int.toNat (1 : Int)) (z6 qH qI)))))))) else none)) else none) else (if (zN (1 : Int) qC) then (match (veil (qf.f BIG (be (Int.toNat (1 : Int)) qC) (q9 :: (zh :: ([] : List Int))))) with | none => none | some y39 => (if ((zN (1 : Int) (z6 qH qI)) ∧ (QQ y39)) then (if (qt qC (0 : Int)) then (match (veil (qf.f BIG (y39 ++ (be (Int.toNat (1 : Int)) (z6 qH qI))) (zg :: ([] : List Int)))) with | none => none | some y40 => (if (qt qC (1 : Int)) then (match (veil (qf.f BIG y40 (qM :: ([] : List Int)))) with | none => none | some y41 => (if (qt qC (2 : Int)) then (match (veil (qf.f BIG y41 (qZ :: (qS :: ([] : List Int))))) with | none => none | some y42 => (if (qt qC (3 : Int)) then (match (veil (qf.f BIG y42 (qV :: ([] : List Int)))) with | none => none | some y43 => (if (qt qC (4 : Int)) then (match (veil (qf.f BIG y43 (((((List.length qx)) : Nat) : Int) :: ([] : List Int)))) with | none => none | some y44 => E19 qc (-(1 : Int)) ((((List.length qx)) : Nat) : Int) (0 : Int) y44) else E19 qc (-(1 : Int)) ((((List.length qx)) : Nat) : Int) (0 : Int) y43)) else (if (qt qC (4 : Int)) then (match (veil (qf.f BIG y42 (((((List.length qx)) : Nat) : Int) :: ([] : List Int)))) with | none => none | some y45 => E19 qc (-(1 : Int)) ((((List.length qx)) : Nat) : Int) (0 : Int) y45) else E19 qc (-(1 : Int)) ((((List.length qx)) : Nat) : Int) (0 : Int) y42))) else (if (qt qC (3 : Int)) then (match (veil (qf.f BIG y41 (qV :: ([] : List Int)))) with | none => none | some y46 => (if (qt qC (4 : Int)) then (match (veil (qf.f BIG y46 (((((List.length qx)) : Nat) : Int) :: ([] : List Int)))) with | none => none | some y47 => E19 qc (-(1 : Int)) ((((List.length qx)) : Nat) : Int) (0 : Int) y47) else E19 qc (-(1 : Int)) ((((List.length qx)) : Nat) : Int) (0 : Int) y46)) else (if (qt qC (4 : Int)) then (match (veil (qf.f BIG y41 (((((List.length qx)) : Nat) : Int) :: ([] : List Int)))) with | none => none | some y48 => E19 qc (-(1 : Int)) ((((List.length qx)) : Nat) : Int) (0 : Int) y48) else E19 qc (-(1 : Int)) ((((List.length qx)) : Nat) : Int) (0 : Int) y41)))) else (if (qt qC (2 : Int)) then (match (veil (qf.f BIG y40 (qZ :: (qS :: ([] : List Int))))) with | none => none | some y49 => (if (qt qC (3 : Int)) then (match (veil (qf.f BIG y49 (qV :: ([] : List Int)))) with | none => none | some y50 => (if (qt qC (4 : Int)) then (match (veil (qf.f BIG y50 (((((List.length qx)) : Nat) : Int) :: ([] : List Int)))) with | none => none | some y51 => E19 qc (-(1 : Int)) ((((List.length qx)) : Nat) : Int) (0 : Int) y51) else E19 qc (-(1 : Int)) ((((List.length qx)) : Nat) : Int) (0 : Int) y50)) else (if (qt qC (4 : Int)) then (match (veil (qf.f BIG y49 (((((List.length qx)) : Nat) : Int) :: ([] : List Int)))) with | none => none | some y52 => E19 qc (-(1 : Int)) ((((List.length qx)) : Nat) : Int) (0 : Int) y52) else E19 qc (-(1 : Int)) ((((List.length qx)) : Nat) : Int) (0 : Int) y49))) else (if (qt qC (3 : Int)) then (match (veil (qf.f BIG y40 (qV :: ([] : List Int)))) with | none => none | some y53 => (if (qt qC (4 : Int)) then (match (veil (qf.f BIG y53 (((((List.length qx)) : Nat) : Int) :: ([] : List Int)))) with | none => none | some y54 => E19 qc (-(1 : Int)) ((((List.length qx)) : Nat) : Int) (0 : Int) y54) else E19 qc (-(1 : Int)) ((((List.length qx)) : Nat) : Int) (0 : Int) y53)) else (if (qt qC (4 : Int)) then (match (veil (qf.f BIG y40 (((((List.length qx)) : Nat) : Int) :: ([] : List Int)))) with | none => none | some y55 => E19 qc (-(1 : Int)) ((((List.length qx)) : Nat) : Int) (0 : Int) y55) else E19 qc (-(1 : Int)) ((((List.length qx)) : Nat) : Int) (0 : Int) y40))))) else (if (qt qC (1 : Int)) then (match (veil (qf.f BIG (y39 ++ (be (Int.toNat (1 : Int)) (z6 qH qI))) (qM :: ([] : List Int)))) with | none => none | some y56 => (if (qt qC (2 : Int)) then (match (veil (qf.f BIG y56 (qZ :: (qS :: ([] : List Int))))) with | none => none | some y57 => (if (qt qC (3 : Int)) then (match (veil (qf.f BIG y57 (qV :: ([] : List Int)))) with | none => none | some y58 => (if (qt qC (4 : Int)) then (match (veil (qf.f BIG y58 (((((List.length qx)) : Nat) : Int) :: ([] : List Int)))) with | none => none | some y59 => E19 qc (-(1 : Int)) ((((List.length qx)) : Nat) : Int) (0 : Int) y59) else E19 qc (-(1 : Int)) ((((List.length qx)) : Nat) : Int) (0 : Int) y58)) else (if (qt qC (4 : Int)) then (match (veil (qf.f BIG y57 (((((List.length qx)) : Nat) : Int) :: ([] : List Int)))) with | none => none | some y60 => E19 qc (-(1 : Int)) ((((List.length qx)) : Nat) : Int) (0 : Int) y60) else E19 qc (-(1 : Int)) ((((List.length qx)) : Nat) : Int) (0 : Int) y57))) else (if (qt qC (3 : Int)) then (match (veil (qf.f BIG y56 (qV :: ([] : List Int)))) with | none => none | some y61 => (if (qt qC (4 : Int)) then (match (veil (qf.f BIG y61 (((((List.length qx)) : Nat) : Int) :: ([] : List Int)))) with | none => none | some y62 => E19 qc (-(1 : Int)) ((((List.length qx)) : Nat) : Int) (0 : Int) y62) else E19 qc (-(1 : Int)) ((((List.length qx)) : Nat) : Int) (0 : Int) y61)) else (if (qt qC (4 : Int)) then (match (veil (qf.f BIG y56 (((((List.length qx)) : Nat) : Int) :: ([] : List Int)))) with | none => none | some y63 => E19 qc (-(1 : Int)) ((((List.length qx)) : Nat) : Int) (0 : Int) y63) else E19 qc (-(1 : Int)) ((((List.length qx)) : Nat) : Int) (0 : Int) y56)))) else (if (qt qC (2 : Int)) then (match (veil (qf.f BIG (y39 ++ (be (Int.toNat (1 : Int)) (z6 qH qI))) (qZ :: (qS :: ([] : List Int))))) with | none => none | some y64 => (if (qt qC (3 : Int)) then (match (veil (qf.f BIG y64 (qV :: ([] : List Int)))) with | none => none | some y65 => (if (qt qC (4 : Int)) then (match (veil (qf.f BIG y65 (((((List.length qx)) : Nat) : Int) :: ([] : List Int)))) with | none => none | some y66 => E19 qc (-(1 : Int)) ((((List.length qx)) : Nat) : Int) (0 : Int) y66) else E19 qc (-(1 : Int)) ((((List.length qx)) : Nat) : Int) (0 : Int) y65)) else (if (qt qC (4 : Int)) then (match (veil (qf.f BIG y64 (((((List.length qx)) : Nat) : Int) :: ([] : List Int)))) with | none => none | some y67 => E19 qc (-(1 : Int)) ((((List.length qx)) : Nat) : Int) (0 : Int) y67) else E19 qc (-(1 : Int)) ((((List.length qx)) : Nat) : Int) (0 : Int) y64))) else (if (qt qC (3 : Int)) then (match (veil (qf.f BIG (y39 ++ (be (Int.toNat (1 : Int)) (z6 qH qI))) (qV :: ([] : List Int)))) with | none => none | some y68 => (if (qt qC (4 : Int)) then (match (veil (qf.f BIG y68 (((((List.length qx)) : Nat) : Int) :: ([] : List Int)))) with | none => none | some y69 => E19 qc (-(1 : Int)) ((((List.length qx)) : Nat) : Int) (0 : Int) y69) else E19 qc (-(1 : Int)) ((((List.length qx)) : Nat) : Int) (0 : Int) y68)) else (if (qt qC (4 : Int)) then (match (veil (qf.f BIG (y39 ++ (be (Int.toNat (1 : Int)) (z6 qH qI))) (((((List.length qx)) : Nat) : Int) :: ([] : List Int)))) with | none => none | some y70 => E19 qc (-(1 : Int)) ((((List.length qx)) : Nat) : Int) (0 : Int) y70) else E19 qc (-(1 : Int)) ((((List.length qx)) : Nat) : Int) (0 : Int) (y39 ++ (be (Int.toNat (1 : Int)) (z6 qH qI)))))))) else none)) else none))
def zv.f (qa : Nat) (qC q9 zh qH qI zg qM qZ qS qV : Int) (qx qc : LR) : Option (List Int) := zv.b qC q9 zh qH qI zg qM qZ qS qV qx qc (zv.l19 qa qC q9 zh qH qI zg qM qZ qS qV qx qc qa)
theorem zv.l19_eq (qa : Nat) (qC q9 zh qH qI zg qM qZ qS qV : Int) (qx qc : LR) : ∀ k : Nat, zv.p19 qa qC q9 zh qH qI zg qM qZ qS qV qx qc k = zv.l19 qa qC q9 zh qH qI zg qM qZ qS qV qx qc k
 | 0 => by kernel_rfl
 | k + 1 => by
  refine Eq.trans (b := zv.b19 qC q9 zh qH qI zg qM qZ qS qV qx qc (zv.p19 qa qC q9 zh qH qI zg qM qZ qS qV qx qc k)) (by kernel_rfl) ?_
  rw [zv.l19_eq qa qC q9 zh qH qI zg qM qZ qS qV qx qc k]
  kernel_rfl
theorem zv.eq (qa : Nat) (qC q9 zh qH qI zg qM qZ qS qV : Int) (qx qc : LR) : (denF qfq loopN qa Tryz.f80 [.own 5 (.int .u8)] [.agg [.d tQi qC, .d tQi q9, .d tQi zh, .d tQi qH, .d tQi qI, .d tQi zg, .d tQi qM, .d tQi qZ, .d tQi qS, .d tQi qV, .d (.sl tQr) qx], .d (.sl tQr) qc] [] zv.k) = zv.f qa qC q9 zh qH qI zg qM qZ qS qV qx qc := by
 refine Eq.trans (b := zv.b qC q9 zh qH qI zg qM qZ qS qV qx qc (zv.p19 qa qC q9 zh qH qI zg qM qZ qS qV qx qc qa)) (by kernel_rfl) ?_
 rw [zv.l19_eq qa qC q9 zh qH qI zg qM qZ qS qV qx qc qa]
 kernel_rfl
def qbf : Den.Sum := ⟨[.dat (.pair tQi (.pair tQi (.pair tQi (.pair (.pair tQi tQi) (.pair tQi (.pair tQi (.pair tQi (.pair tQi (.pair tQi (.sl tQr)))))))))) true, .dat (.sl tQr) false], fun qA qj κ => match qA, qj with
 | [.agg [.d (.int .i64) qC, .d (.int .i64) q9, .d (.int .i64) zh, .d (.int .i64) qH, .d (.int .i64) qI, .d (.int .i64) zg, .d (.int .i64) qM, .d (.int .i64) qZ, .d (.int .i64) qS, .d (.int .i64) qV, .d (.sl (.pair (.int .i64) (.pair (.int .i64) (.pair (.int .i64) (.pair (.pair (.int .i64) (.int .i64)) (.pair .bool (.sl (.pair (.int .i64) (.sl (.int .u8)))))))))) qx], .d (.sl (.pair (.int .i64) (.pair (.int .i64) (.pair (.int .i64) (.pair (.pair (.int .i64) (.int .i64)) (.pair .bool (.sl (.pair (.int .i64) (.sl (.int .u8)))))))))) qc], [] => (match veil (zv.f BIG qC q9 zh qH qI zg qM qZ qS qV qx qc) with | none => none | some y => κ [.d (.sl (.int .u8)) y] [])
 | _, _ => none⟩
theorem qiA : SumDet qbf := zi fun _ _ _ _ => by
 unfold qbf
 simp only [veil_eq]
 split
 ·split <;> rfl
 ·rfl
theorem qjr : SumOk Tryz.prog 80 qbf := by
 have hE : EnvOk Tryz.prog qfq := env_ok (l := [(60, qa5), (61, qbY), (62, Z2), (64, qa7), (71, ZI), (96, QA), (97, Zo)]) th_ok qU ⟨⟨qe5, qeq⟩, ⟨qfc, qej⟩, ⟨qcA, qb1⟩, ⟨qfh, qex⟩, ⟨qbe, qaP⟩, ⟨qcz, qch⟩, ⟨qfd, qeS⟩, trivial⟩ _
 refine sum_ok hE Tryz.func80 rfl (by kernel_rfl) qbf [.own 5 (.int .u8)] zv.k ?_
 intro R avs qj κ r h
 unfold qbf at h
 simp only [veil_eq] at h
 split at h
 ·rename_i qC q9 zh qH qI zg qM qZ qS qV qx qc
  split at h
  ·cases h
  ·rename_i y hy
   refine ⟨BIG, _, _, _, (zv.eq BIG qC q9 zh qH qI zg qM qZ qS qV qx qc).trans hy, ?_, h⟩
   intro rs ros hk
   unfold zv.k at hk
   split at hk
   ·rw [← sj hk]; exact ⟨rfl, rfl⟩
   ·cases hk
 ·cases h
def qfL : Env := ⟨th, gam [(58, QI), (79, qax), (80, qbf)], fun i => ⟨[], [], []⟩⟩
def QK.k (rs : List AV) (os : List Den.Obj) : Option ((List Int) × Int) :=
 match rs, os with
 | [.d (.sl (.int .u8)) r0, .d (.int .i64) r1], [] => some (r0, r1)
 | _, _ => none
def QK.b (qC q9 zh qH qI zg qM qZ qS qV : Int) (qx qc : LR) : Option ((List Int) × Int) :=
 (if (za qx) then (if (!(qR qC q9 zh qH qI zg qM qZ qS qV qx)) then some (([] : List Int), (1 : Int)) else (if (za qc) then (if (!(QC qc)) then some (([] : List Int), (1 : Int)) else (match (veil (zv.f BIG qC q9 zh qH qI zg qM qZ qS qV qx qc)) with | none => none | some y0 => (if (decide (((((List.length y0)) : Nat) : Int) > (65499 : Int))) then some (([] : List Int), (14 : Int)) else some (y0, (0 : Int))))) else none)) else none)
def QK.f (qa : Nat) (qC q9 zh qH qI zg qM qZ qS qV : Int) (qx qc : LR) : Option ((List Int) × Int) := QK.b qC q9 zh qH qI zg qM qZ qS qV qx qc
theorem QK.eq (qa : Nat) (qC q9 zh qH qI zg qM qZ qS qV : Int) (qx qc : LR) : (denF qfL loopN qa Tryz.f48 [.dat (.sl (.int .u8)) false, .raw] [.agg [.d tQi qC, .d tQi q9, .d tQi zh, .d tQi qH, .d tQi qI, .d tQi zg, .d tQi qM, .d tQi qZ, .d tQi qS, .d tQi qV, .d (.sl tQr) qx], .d (.sl tQr) qc] [] QK.k) = QK.f qa qC q9 zh qH qI zg qM qZ qS qV qx qc := by
 kernel_rfl
def QW : Den.Sum := ⟨[.dat (.pair tQi (.pair tQi (.pair tQi (.pair (.pair tQi tQi) (.pair tQi (.pair tQi (.pair tQi (.pair tQi (.pair tQi (.sl tQr)))))))))) true, .dat (.sl tQr) false], fun qA qj κ => match qA, qj with
 | [.agg [.d (.int .i64) qC, .d (.int .i64) q9, .d (.int .i64) zh, .d (.int .i64) qH, .d (.int .i64) qI, .d (.int .i64) zg, .d (.int .i64) qM, .d (.int .i64) qZ, .d (.int .i64) qS, .d (.int .i64) qV, .d (.sl (.pair (.int .i64) (.pair (.int .i64) (.pair (.int .i64) (.pair (.pair (.int .i64) (.int .i64)) (.pair .bool (.sl (.pair (.int .i64) (.sl (.int .u8)))))))))) qx], .d (.sl (.pair (.int .i64) (.pair (.int .i64) (.pair (.int .i64) (.pair (.pair (.int .i64) (.int .i64)) (.pair .bool (.sl (.pair (.int .i64) (.sl (.int .u8)))))))))) qc], [] => (match veil (QK.f BIG qC q9 zh qH qI zg qM qZ qS qV qx qc) with | none => none | some y => κ [.d (.sl (.int .u8)) y.1, .d (.int .i64) y.2] [])
 | _, _ => none⟩
theorem qca : SumDet QW := zi fun _ _ _ _ => by
 unfold QW
 simp only [veil_eq]
 split
 ·split <;> rfl
 ·rfl
theorem qcr : SumOk Tryz.prog 48 QW := by
 have hE : EnvOk Tryz.prog qfL := env_ok (l := [(58, QI), (79, qax), (80, qbf)]) th_ok qU ⟨⟨qah, ZW⟩, ⟨qes, qdY⟩, ⟨qjr, qiA⟩, trivial⟩ _
 refine sum_ok hE Tryz.func48 rfl (by kernel_rfl) QW [.dat (.sl (.int .u8)) false, .raw] QK.k ?_
 intro R avs qj κ r h
 unfold QW at h
 simp only [veil_eq] at h
 split at h
 ·rename_i qC q9 zh qH qI zg qM qZ qS qV qx qc
  split at h
  ·cases h
  ·rename_i y hy
   refine ⟨BIG, _, _, _, (QK.eq BIG qC q9 zh qH qI zg qM qZ qS qV qx qc).trans hy, ?_, h⟩
   intro rs ros hk
   unfold QK.k at hk
   split at hk
   ·rw [← sj hk]; exact ⟨rfl, rfl⟩
   ·cases hk
 ·cases h
def qdy : Env := ⟨th, gam [(24, QO), (65, qcf)], fun i => ⟨[], [], []⟩⟩
def zd.k (rs : List AV) (os : List Den.Obj) : Option (Int × Int × Bool × (List Int) × Int × Bool) :=
 match rs, os with
 | [.agg [.d (.int .i64) r0, .d (.int .i64) r1]], [.box [.ptr 1 0, .d .bool r2], .box [.d (.sl (.int .u8)) r3, .d (.int .i64) r4, .d .bool r5]] => some (r0, r1, r2, r3, r4, r5)
 | _, _ => none
def zd.b (bs : List Int) (at0 : Int) (bad qP : Bool) : Option (Int × Int × Bool × (List Int) × Int × Bool) :=
 (if (zk bs at0) then (match (veil (Option.some (ql bs (1 : Int) at0 bad))) with | none => none | some y0 => (match (veil (Option.some (zF z8 y0.1))) with | none => none | some y1 => (if qP then some (y1.1, y1.2.1, true, bs, y0.2.1, y0.2.2) else some (y1.1, y1.2.1, (!y1.2.2), bs, y0.2.1, y0.2.2)))) else none)
def zd.f (qa : Nat) (bs : List Int) (at0 : Int) (bad qP : Bool) : Option (Int × Int × Bool × (List Int) × Int × Bool) := zd.b bs at0 bad qP
theorem zd.eq (qa : Nat) (bs : List Int) (at0 : Int) (bad qP : Bool) : (denF qdy loopN qa Tryz.f83 [.dat (.pair tQi tQi) true] [.ptr 0 0] [.box [.ptr 1 0, .d .bool qP], .box [.d (.sl (.int .u8)) bs, .d tQi at0, .d .bool bad]] zd.k) = zd.f qa bs at0 bad qP := by
 kernel_rfl
def Qb : Den.Sum := ⟨[.pb [.frz none [0] 0 (.int .u8)]], fun qA qj κ => match qA, qj with
 | [.ptr 0 0], [.box [.ptr 1 0, .d .bool qP], .box [.d (.sl (.int .u8)) bs, .d (.int .i64) at0, .d .bool bad]] => (match veil (zd.f BIG bs at0 bad qP) with | none => none | some y => κ [.agg [.d (.int .i64) y.1, .d (.int .i64) y.2.1]] [.box [.ptr 1 0, .d .bool y.2.2.1], .box [.d (.sl (.int .u8)) y.2.2.2.1, .d (.int .i64) y.2.2.2.2.1, .d .bool y.2.2.2.2.2]])
 | _, _ => none⟩
theorem qaZ : SumDet Qb := zi fun _ _ _ _ => by
 unfold Qb
 simp only [veil_eq]
 split
 ·split <;> rfl
 ·rfl
theorem qa6 : SumOk Tryz.prog 83 Qb := by
 have hE : EnvOk Tryz.prog qdy := env_ok (l := [(24, QO), (65, qcf)]) th_ok qU ⟨⟨qai, ZX⟩, ⟨qf2, qe9⟩, trivial⟩ _
 refine sum_ok hE Tryz.func83 rfl (by kernel_rfl) Qb [.dat (.pair tQi tQi) true] zd.k ?_
 intro R avs qj κ r h
 unfold Qb at h
 simp only [veil_eq] at h
 split at h
 ·rename_i qP bs at0 bad
  split at h
  ·cases h
  ·rename_i y hy
   refine ⟨BIG, _, _, _, (zd.eq BIG bs at0 bad qP).trans hy, ?_, h⟩
   intro rs ros hk
   unfold zd.k at hk
   split at hk
   ·rw [← sj hk]; exact ⟨rfl, rfl⟩
   ·cases hk
 ·cases h
def qdV : Env := ⟨th, gam [], fun i => if i = 4 then ⟨[0, 5, 6, 7, 10], [], []⟩ else ⟨[], [], []⟩⟩
def zf.k (rs : List AV) (os : List Den.Obj) : Option (Int × Int × Int) :=
 match rs, os with
 | [.d (.int .u64) r0, .d (.int .i64) r1, .d (.int .i64) r2], [] => some (r0, r1, r2)
 | _, _ => none
def zf.s4 (b : List Int) (x0 x1 : Int) : St := ⟨[.d (.sl (.int .u8)) (b), dD, dD, dD, dD, .d (.int .u64) x0, .d tQi ((0 : Int)), .d tQi ((2 : Int)), .dead, .dead, .d tQi x1, dD, dD, dD, dD, dD, dD, dD, dD, dD, dD, dD, dD, dD, dD, dD, dD, dD, dD, dD, dD, dD, dD, dD, dD, dD, dD, dD, dD, dD, dD, dD, dD, dD, dD, dD, dD, dD, dD, dD, .dead], ofL [], 0⟩
def zf.p4 (qa : Nat) (b : List Int) (k : Nat) := fun x0 x1 => lp qdV qa Tryz.f109 [.raw, .raw, .raw] 0 zf.k 4 [] k (zf.s4 b x0 x1)
def zf.b4 (b : List Int) (A4 : Int → Int → Option (Int × Int × Int)) (x0 : Int) (x1 : Int) : Option (Int × Int × Int) :=
 (if (decide (x1 < (10 : Int))) then (if (decide (x1 ≥ ((((List.length b)) : Nat) : Int))) then some ((0 : Int), (0 : Int), (2 : Int)) else (match (idx b x1) with | none => none | some y2 => (if (x1 == (9 : Int)) then (if (decide (y2 > (1 : Int))) then some ((0 : Int), (0 : Int), (4 : Int)) else (if ((IntKind.wrap .i64 ((7 : Int) * x1)) < (0 : Int)) then none else (if (decide (y2 < (128 : Int))) then (if (y2 == (0 : Int)) then (if (decide (x1 > (0 : Int))) then some ((0 : Int), (0 : Int), (4 : Int)) else some ((bits BinOp.or .u64 x0 (IntKind.wrap .u64 ((IntKind.wrap .u64 (bits BinOp.and .u8 y2 (127 : Int))) * ((2 : Int) ^ (Min.min (Int.toNat (IntKind.wrap .i64 ((7 : Int) * x1))) (IntKind.bits .u64)))))), (IntKind.wrap .i64 (x1 + (1 : Int))), (0 : Int))) else some ((bits BinOp.or .u64 x0 (IntKind.wrap .u64 ((IntKind.wrap .u64 (bits BinOp.and .u8 y2 (127 : Int))) * ((2 : Int) ^ (Min.min (Int.toNat (IntKind.wrap .i64 ((7 : Int) * x1))) (IntKind.bits .u64)))))), (IntKind.wrap .i64 (x1 + (1 : Int))), (0 : Int))) else A4 (bits BinOp.or .u64 x0 (IntKind.wrap .u64 ((IntKind.wrap .u64 (bits BinOp.and .u8 y2 (127 : Int))) * ((2 : Int) ^ (Min.min (Int.toNat (IntKind.wrap .i64 ((7 : Int) * x1))) (IntKind.bits .u64)))))) (IntKind.wrap .i64 (x1 + (1 : Int)))))) else (if ((IntKind.wrap .i64 ((7 : Int) * x1)) < (0 : Int)) then none else (if (decide (y2 < (128 : Int))) then (if (y2 == (0 : Int)) then (if (decide (x1 > (0 : Int))) then some ((0 : Int), (0 : Int), (4 : Int)) else some ((bits BinOp.or .u64 x0 (IntKind.wrap .u64 ((IntKind.wrap .u64 (bits BinOp.and .u8 y2 (127 : Int))) * ((2 : Int) ^ (Min.min (Int.toNat (IntKind.wrap .i64 ((7 : Int) * x1))) (IntKind.bits .u64)))))), (IntKind.wrap .i64 (x1 + (1 : Int))), (0 : Int))) else some ((bits BinOp.or .u64 x0 (IntKind.wrap .u64 ((IntKind.wrap .u64 (bits BinOp.and .u8 y2 (127 : Int))) * ((2 : Int) ^ (Min.min (Int.toNat (IntKind.wrap .i64 ((7 : Int) * x1))) (IntKind.bits .u64)))))), (IntKind.wrap .i64 (x1 + (1 : Int))), (0 : Int))) else A4 (bits BinOp.or .u64 x0 (IntKind.wrap .u64 ((IntKind.wrap .u64 (bits BinOp.and .u8 y2 (127 : Int))) * ((2 : Int) ^ (Min.min (Int.toNat (IntKind.wrap .i64 ((7 : Int) * x1))) (IntKind.bits .u64)))))) (IntKind.wrap .i64 (x1 + (1 : Int)))))))) else some ((0 : Int), (0 : Int), (2 : Int)))
def zf.l4 (qa : Nat) (b : List Int) : Nat → Int → Int → Option (Int × Int × Int)
 | 0, _, _ => none
 | k + 1, x0, x1 => zf.b4 b (zf.l4 qa b k) x0 x1
def zf.b (b : List Int) (E4 : Int → Int → Option (Int × Int × Int)) : Option (Int × Int × Int) :=
 E4 (0 : Int) (0 : Int)
def zf.f (qa : Nat) (b : List Int) : Option (Int × Int × Int) := zf.b b (zf.l4 qa b qa)
theorem zf.l4_eq (qa : Nat) (b : List Int) : ∀ k : Nat, zf.p4 qa b k = zf.l4 qa b k
 | 0 => by kernel_rfl
 | k + 1 => by
  refine Eq.trans (b := zf.b4 b (zf.p4 qa b k)) (by kernel_rfl) ?_
  rw [zf.l4_eq qa b k]
  kernel_rfl
theorem zf.eq (qa : Nat) (b : List Int) : (denF qdV loopN qa Tryz.f109 [.raw, .raw, .raw] [.d (.sl (.int .u8)) b] [] zf.k) = zf.f qa b := by
 refine Eq.trans (b := zf.b b (zf.p4 qa b qa)) (by kernel_rfl) ?_
 rw [zf.l4_eq qa b qa]
 kernel_rfl
def qaw : Den.Sum := ⟨[.dat (.sl (.int .u8)) false], fun qA qj κ => match qA, qj with
 | [.d (.sl (.int .u8)) b], [] => (match veil (zf.f BIG b) with | none => none | some y => κ [.d (.int .u64) y.1, .d (.int .i64) y.2.1, .d (.int .i64) y.2.2] [])
 | _, _ => none⟩
theorem qg9 : SumDet qaw := zi fun _ _ _ _ => by
 unfold qaw
 simp only [veil_eq]
 split
 ·split <;> rfl
 ·rfl
theorem qhG : SumOk Tryz.prog 109 qaw := by
 have hE : EnvOk Tryz.prog qdV := env_ok (l := []) th_ok qU trivial _
 refine sum_ok hE Tryz.func109 rfl (by kernel_rfl) qaw [.raw, .raw, .raw] zf.k ?_
 intro R avs qj κ r h
 unfold qaw at h
 simp only [veil_eq] at h
 split at h
 ·rename_i b
  split at h
  ·cases h
  ·rename_i y hy
   refine ⟨BIG, _, _, _, (zf.eq BIG b).trans hy, ?_, h⟩
   intro rs ros hk
   unfold zf.k at hk
   split at hk
   ·rw [← sj hk]; exact ⟨rfl, rfl⟩
   ·cases hk
 ·cases h
def qfD : Env := ⟨th, gam [(41, qff)], fun i => ⟨[], [], []⟩⟩
def Q3.k (rs : List AV) (os : List Den.Obj) : Option ((List Int) × Int) :=
 match rs, os with
 | [.d (.sl (.int .u8)) r0, .d (.int .i64) r1], [] => some (r0, r1)
 | _, _ => none
def Q3.b (qC q9 zh qH qI zg qM qZ qS qV : Int) (qx qc : LR) : Option ((List Int) × Int) :=
 (if (za qx) then some ((qcT qC q9 zh qH qI zg qM qZ qS qV qx).1, (qcT qC q9 zh qH qI zg qM qZ qS qV qx).2) else none)
def Q3.f (qa : Nat) (qC q9 zh qH qI zg qM qZ qS qV : Int) (qx qc : LR) : Option ((List Int) × Int) := Q3.b qC q9 zh qH qI zg qM qZ qS qV qx qc
theorem Q3.eq (qa : Nat) (qC q9 zh qH qI zg qM qZ qS qV : Int) (qx qc : LR) : (denF qfD loopN qa Tryz.f40 [.own 5 (.int .u8), .raw] [.agg [.d tQi qC, .d tQi q9, .d tQi zh, .d tQi qH, .d tQi qI, .d tQi zg, .d tQi qM, .d tQi qZ, .d tQi qS, .d tQi qV, .d (.sl tQr) qx], .d (.sl tQr) qc] [] Q3.k) = Q3.f qa qC q9 zh qH qI zg qM qZ qS qV qx qc := by
 kernel_rfl
def QV : Den.Sum := ⟨[.dat (.pair tQi (.pair tQi (.pair tQi (.pair (.pair tQi tQi) (.pair tQi (.pair tQi (.pair tQi (.pair tQi (.pair tQi (.sl tQr)))))))))) true, .dat (.sl tQr) false], fun qA qj κ => match qA, qj with
 | [.agg [.d (.int .i64) qC, .d (.int .i64) q9, .d (.int .i64) zh, .d (.int .i64) qH, .d (.int .i64) qI, .d (.int .i64) zg, .d (.int .i64) qM, .d (.int .i64) qZ, .d (.int .i64) qS, .d (.int .i64) qV, .d (.sl (.pair (.int .i64) (.pair (.int .i64) (.pair (.int .i64) (.pair (.pair (.int .i64) (.int .i64)) (.pair .bool (.sl (.pair (.int .i64) (.sl (.int .u8)))))))))) qx], .d (.sl (.pair (.int .i64) (.pair (.int .i64) (.pair (.int .i64) (.pair (.pair (.int .i64) (.int .i64)) (.pair .bool (.sl (.pair (.int .i64) (.sl (.int .u8)))))))))) qc], [] => (match veil (Q3.f BIG qC q9 zh qH qI zg qM qZ qS qV qx qc) with | none => none | some y => κ [.d (.sl (.int .u8)) y.1, .d (.int .i64) y.2] [])
 | _, _ => none⟩
theorem qb9 : SumDet QV := zi fun _ _ _ _ => by
 unfold QV
 simp only [veil_eq]
 split
 ·split <;> rfl
 ·rfl
theorem qcp : SumOk Tryz.prog 40 QV := by
 have hE : EnvOk Tryz.prog qfD := env_ok (l := [(41, qff)]) th_ok qU ⟨⟨qns, qmD⟩, trivial⟩ _
 refine sum_ok hE Tryz.func40 rfl (by kernel_rfl) QV [.own 5 (.int .u8), .raw] Q3.k ?_
 intro R avs qj κ r h
 unfold QV at h
 simp only [veil_eq] at h
 split at h
 ·rename_i qC q9 zh qH qI zg qM qZ qS qV qx qc
  split at h
  ·cases h
  ·rename_i y hy
   refine ⟨BIG, _, _, _, (Q3.eq BIG qC q9 zh qH qI zg qM qZ qS qV qx qc).trans hy, ?_, h⟩
   intro rs ros hk
   unfold Q3.k at hk
   split at hk
   ·rw [← sj hk]; exact ⟨rfl, rfl⟩
   ·cases hk
 ·cases h
def qfC : Env := ⟨th, gam [(43, qeV)], fun i => ⟨[], [], []⟩⟩
def Q2.k (rs : List AV) (os : List Den.Obj) : Option (Int × Int × Int × Int × Int × Int × Int × Int × Int × Int × LR × Int) :=
 match rs, os with
 | [.agg [.d (.int .i64) r0, .d (.int .i64) r1, .d (.int .i64) r2, .d (.int .i64) r3, .d (.int .i64) r4, .d (.int .i64) r5, .d (.int .i64) r6, .d (.int .i64) r7, .d (.int .i64) r8, .d (.int .i64) r9, .d (.sl (.pair (.int .i64) (.pair (.int .i64) (.pair (.int .i64) (.pair (.pair (.int .i64) (.int .i64)) (.pair .bool (.sl (.pair (.int .i64) (.sl (.int .u8)))))))))) r10], .d (.int .i64) r11], [] => some (r0, r1, r2, r3, r4, r5, r6, r7, r8, r9, r10, r11)
 | _, _ => none
def Q2.b (b : List Int) (qc : LR) : Option (Int × Int × Int × Int × Int × Int × Int × Int × Int × Int × LR × Int) :=
 (if (inB b) then (match (veil (Option.some (Qc b))) with | none => none | some y0 => some (y0.1, y0.2.1, y0.2.2.1, y0.2.2.2.1, y0.2.2.2.2.1, y0.2.2.2.2.2.1, y0.2.2.2.2.2.2.1, 0, 0, 0, y0.2.2.2.2.2.2.2.1, y0.2.2.2.2.2.2.2.2)) else none)
def Q2.f (qa : Nat) (b : List Int) (qc : LR) : Option (Int × Int × Int × Int × Int × Int × Int × Int × Int × Int × LR × Int) := Q2.b b qc
theorem Q2.eq (qa : Nat) (b : List Int) (qc : LR) : (denF qfC loopN qa Tryz.f42 [.dat (.pair tQi (.pair tQi (.pair tQi (.pair (.pair tQi tQi) (.pair tQi (.pair tQi (.pair tQi (.pair tQi (.pair tQi (.sl tQr)))))))))) true, .raw] [.d (.sl (.int .u8)) b, .d (.sl tQr) qc] [] Q2.k) = Q2.f qa b qc := by
 kernel_rfl
def QU : Den.Sum := ⟨[.dat (.sl (.int .u8)) false, .dat (.sl tQr) false], fun qA qj κ => match qA, qj with
 | [.d (.sl (.int .u8)) b, .d (.sl (.pair (.int .i64) (.pair (.int .i64) (.pair (.int .i64) (.pair (.pair (.int .i64) (.int .i64)) (.pair .bool (.sl (.pair (.int .i64) (.sl (.int .u8)))))))))) qc], [] => (match veil (Q2.f BIG b qc) with | none => none | some y => κ [.agg [.d (.int .i64) y.1, .d (.int .i64) y.2.1, .d (.int .i64) y.2.2.1, .d (.int .i64) y.2.2.2.1, .d (.int .i64) y.2.2.2.2.1, .d (.int .i64) y.2.2.2.2.2.1, .d (.int .i64) y.2.2.2.2.2.2.1, .d (.int .i64) y.2.2.2.2.2.2.2.1, .d (.int .i64) y.2.2.2.2.2.2.2.2.1, .d (.int .i64) y.2.2.2.2.2.2.2.2.2.1, .d (.sl (.pair (.int .i64) (.pair (.int .i64) (.pair (.int .i64) (.pair (.pair (.int .i64) (.int .i64)) (.pair .bool (.sl (.pair (.int .i64) (.sl (.int .u8)))))))))) y.2.2.2.2.2.2.2.2.2.2.1], .d (.int .i64) y.2.2.2.2.2.2.2.2.2.2.2] [])
 | _, _ => none⟩
theorem qb8 : SumDet QU := zi fun _ _ _ _ => by
 unfold QU
 simp only [veil_eq]
 split
 ·split <;> rfl
 ·rfl
theorem qco : SumOk Tryz.prog 42 QU := by
 have hE : EnvOk Tryz.prog qfC := env_ok (l := [(43, qeV)]) th_ok qU ⟨⟨qmF, qlJ⟩, trivial⟩ _
 refine sum_ok hE Tryz.func42 rfl (by kernel_rfl) QU [.dat (.pair tQi (.pair tQi (.pair tQi (.pair (.pair tQi tQi) (.pair tQi (.pair tQi (.pair tQi (.pair tQi (.pair tQi (.sl tQr)))))))))) true, .raw] Q2.k ?_
 intro R avs qj κ r h
 unfold QU at h
 simp only [veil_eq] at h
 split at h
 ·rename_i b qc
  split at h
  ·cases h
  ·rename_i y hy
   refine ⟨BIG, _, _, _, (Q2.eq BIG b qc).trans hy, ?_, h⟩
   intro rs ros hk
   unfold Q2.k at hk
   split at hk
   ·rw [← sj hk]; exact ⟨rfl, rfl⟩
   ·cases hk
 ·cases h
def qfB : Env := ⟨th, gam [(45, qd6)], fun i => ⟨[], [], []⟩⟩
def Q1.k (rs : List AV) (os : List Den.Obj) : Option ((List Int) × Int) :=
 match rs, os with
 | [.d (.sl (.int .u8)) r0, .d (.int .i64) r1], [] => some (r0, r1)
 | _, _ => none
def Q1.b (qC q9 zh qH qI zg qM qZ qS qV : Int) (qx qc : LR) : Option ((List Int) × Int) :=
 (if (za qx) then some ((qcV qC q9 zh qH qI zg qM qZ qS qV qx).1, (qcV qC q9 zh qH qI zg qM qZ qS qV qx).2) else none)
def Q1.f (qa : Nat) (qC q9 zh qH qI zg qM qZ qS qV : Int) (qx qc : LR) : Option ((List Int) × Int) := Q1.b qC q9 zh qH qI zg qM qZ qS qV qx qc
theorem Q1.eq (qa : Nat) (qC q9 zh qH qI zg qM qZ qS qV : Int) (qx qc : LR) : (denF qfB loopN qa Tryz.f44 [.own 5 (.int .u8), .raw] [.agg [.d tQi qC, .d tQi q9, .d tQi zh, .d tQi qH, .d tQi qI, .d tQi zg, .d tQi qM, .d tQi qZ, .d tQi qS, .d tQi qV, .d (.sl tQr) qx], .d (.sl tQr) qc] [] Q1.k) = Q1.f qa qC q9 zh qH qI zg qM qZ qS qV qx qc := by
 kernel_rfl
def QT : Den.Sum := ⟨[.dat (.pair tQi (.pair tQi (.pair tQi (.pair (.pair tQi tQi) (.pair tQi (.pair tQi (.pair tQi (.pair tQi (.pair tQi (.sl tQr)))))))))) true, .dat (.sl tQr) false], fun qA qj κ => match qA, qj with
 | [.agg [.d (.int .i64) qC, .d (.int .i64) q9, .d (.int .i64) zh, .d (.int .i64) qH, .d (.int .i64) qI, .d (.int .i64) zg, .d (.int .i64) qM, .d (.int .i64) qZ, .d (.int .i64) qS, .d (.int .i64) qV, .d (.sl (.pair (.int .i64) (.pair (.int .i64) (.pair (.int .i64) (.pair (.pair (.int .i64) (.int .i64)) (.pair .bool (.sl (.pair (.int .i64) (.sl (.int .u8)))))))))) qx], .d (.sl (.pair (.int .i64) (.pair (.int .i64) (.pair (.int .i64) (.pair (.pair (.int .i64) (.int .i64)) (.pair .bool (.sl (.pair (.int .i64) (.sl (.int .u8)))))))))) qc], [] => (match veil (Q1.f BIG qC q9 zh qH qI zg qM qZ qS qV qx qc) with | none => none | some y => κ [.d (.sl (.int .u8)) y.1, .d (.int .i64) y.2] [])
 | _, _ => none⟩
theorem qb7 : SumDet QT := zi fun _ _ _ _ => by
 unfold QT
 simp only [veil_eq]
 split
 ·split <;> rfl
 ·rfl
theorem qcn : SumOk Tryz.prog 44 QT := by
 have hE : EnvOk Tryz.prog qfB := env_ok (l := [(45, qd6)]) th_ok qU ⟨⟨qmE, qlI⟩, trivial⟩ _
 refine sum_ok hE Tryz.func44 rfl (by kernel_rfl) QT [.own 5 (.int .u8), .raw] Q1.k ?_
 intro R avs qj κ r h
 unfold QT at h
 simp only [veil_eq] at h
 split at h
 ·rename_i qC q9 zh qH qI zg qM qZ qS qV qx qc
  split at h
  ·cases h
  ·rename_i y hy
   refine ⟨BIG, _, _, _, (Q1.eq BIG qC q9 zh qH qI zg qM qZ qS qV qx qc).trans hy, ?_, h⟩
   intro rs ros hk
   unfold Q1.k at hk
   split at hk
   ·rw [← sj hk]; exact ⟨rfl, rfl⟩
   ·cases hk
 ·cases h
def qfA : Env := ⟨th, gam [(47, qdR)], fun i => ⟨[], [], []⟩⟩
def Q0.k (rs : List AV) (os : List Den.Obj) : Option (Int × Int × Int × Int × Int × Int × Int × Int × Int × Int × LR × Int) :=
 match rs, os with
 | [.agg [.d (.int .i64) r0, .d (.int .i64) r1, .d (.int .i64) r2, .d (.int .i64) r3, .d (.int .i64) r4, .d (.int .i64) r5, .d (.int .i64) r6, .d (.int .i64) r7, .d (.int .i64) r8, .d (.int .i64) r9, .d (.sl (.pair (.int .i64) (.pair (.int .i64) (.pair (.int .i64) (.pair (.pair (.int .i64) (.int .i64)) (.pair .bool (.sl (.pair (.int .i64) (.sl (.int .u8)))))))))) r10], .d (.int .i64) r11], [] => some (r0, r1, r2, r3, r4, r5, r6, r7, r8, r9, r10, r11)
 | _, _ => none
def Q0.b (b : List Int) (qc : LR) : Option (Int × Int × Int × Int × Int × Int × Int × Int × Int × Int × LR × Int) :=
 (if (inS b) then (match (veil (Option.some (zO b))) with | none => none | some y0 => some (y0.1, y0.2.1, y0.2.2.1, y0.2.2.2.1, y0.2.2.2.2.1, y0.2.2.2.2.2.1, y0.2.2.2.2.2.2.1, 0, 0, 0, y0.2.2.2.2.2.2.2.1, y0.2.2.2.2.2.2.2.2)) else none)
def Q0.f (qa : Nat) (b : List Int) (qc : LR) : Option (Int × Int × Int × Int × Int × Int × Int × Int × Int × Int × LR × Int) := Q0.b b qc
theorem Q0.eq (qa : Nat) (b : List Int) (qc : LR) : (denF qfA loopN qa Tryz.f46 [.dat (.pair tQi (.pair tQi (.pair tQi (.pair (.pair tQi tQi) (.pair tQi (.pair tQi (.pair tQi (.pair tQi (.pair tQi (.sl tQr)))))))))) true, .raw] [.d (.sl (.int .u8)) b, .d (.sl tQr) qc] [] Q0.k) = Q0.f qa b qc := by
 kernel_rfl
def QS : Den.Sum := ⟨[.dat (.sl (.int .u8)) false, .dat (.sl tQr) false], fun qA qj κ => match qA, qj with
 | [.d (.sl (.int .u8)) b, .d (.sl (.pair (.int .i64) (.pair (.int .i64) (.pair (.int .i64) (.pair (.pair (.int .i64) (.int .i64)) (.pair .bool (.sl (.pair (.int .i64) (.sl (.int .u8)))))))))) qc], [] => (match veil (Q0.f BIG b qc) with | none => none | some y => κ [.agg [.d (.int .i64) y.1, .d (.int .i64) y.2.1, .d (.int .i64) y.2.2.1, .d (.int .i64) y.2.2.2.1, .d (.int .i64) y.2.2.2.2.1, .d (.int .i64) y.2.2.2.2.2.1, .d (.int .i64) y.2.2.2.2.2.2.1, .d (.int .i64) y.2.2.2.2.2.2.2.1, .d (.int .i64) y.2.2.2.2.2.2.2.2.1, .d (.int .i64) y.2.2.2.2.2.2.2.2.2.1, .d (.sl (.pair (.int .i64) (.pair (.int .i64) (.pair (.int .i64) (.pair (.pair (.int .i64) (.int .i64)) (.pair .bool (.sl (.pair (.int .i64) (.sl (.int .u8)))))))))) y.2.2.2.2.2.2.2.2.2.2.1], .d (.int .i64) y.2.2.2.2.2.2.2.2.2.2.2] [])
 | _, _ => none⟩
theorem qb6 : SumDet QS := zi fun _ _ _ _ => by
 unfold QS
 simp only [veil_eq]
 split
 ·split <;> rfl
 ·rfl
theorem qcm : SumOk Tryz.prog 46 QS := by
 have hE : EnvOk Tryz.prog qfA := env_ok (l := [(47, qdR)]) th_ok qU ⟨⟨qlK, qkA⟩, trivial⟩ _
 refine sum_ok hE Tryz.func46 rfl (by kernel_rfl) QS [.dat (.pair tQi (.pair tQi (.pair tQi (.pair (.pair tQi tQi) (.pair tQi (.pair tQi (.pair tQi (.pair tQi (.pair tQi (.sl tQr)))))))))) true, .raw] Q0.k ?_
 intro R avs qj κ r h
 unfold QS at h
 simp only [veil_eq] at h
 split at h
 ·rename_i b qc
  split at h
  ·cases h
  ·rename_i y hy
   refine ⟨BIG, _, _, _, (Q0.eq BIG b qc).trans hy, ?_, h⟩
   intro rs ros hk
   unfold Q0.k at hk
   split at hk
   ·rw [← sj hk]; exact ⟨rfl, rfl⟩
   ·cases hk
 ·cases h
def qh4 : Env := ⟨th, gam [], fun i => ⟨[], [], []⟩⟩
def qaD.k (rs : List AV) (os : List Den.Obj) : Option (Int × Int × Int × Int × Int × Int × Int × Int × Int × Int × LR) :=
 match rs, os with
 | [.agg [.d (.int .i64) r0, .d (.int .i64) r1, .d (.int .i64) r2, .d (.int .i64) r3, .d (.int .i64) r4, .d (.int .i64) r5, .d (.int .i64) r6, .d (.int .i64) r7, .d (.int .i64) r8, .d (.int .i64) r9, .d (.sl (.pair (.int .i64) (.pair (.int .i64) (.pair (.int .i64) (.pair (.pair (.int .i64) (.int .i64)) (.pair .bool (.sl (.pair (.int .i64) (.sl (.int .u8)))))))))) r10]], [] => some (r0, r1, r2, r3, r4, r5, r6, r7, r8, r9, r10)
 | _, _ => none
def qaD.b (qC q9 zh qH qI zg qM qZ qS qV : Int) (qx : LR) : Option (Int × Int × Int × Int × Int × Int × Int × Int × Int × Int × LR) :=
 some (qC, q9, zh, qH, qI, zg, qM, qZ, qS, qV, ([] : LR))
def qaD.f (qa : Nat) (qC q9 zh qH qI zg qM qZ qS qV : Int) (qx : LR) : Option (Int × Int × Int × Int × Int × Int × Int × Int × Int × Int × LR) := qaD.b qC q9 zh qH qI zg qM qZ qS qV qx
theorem qaD.eq (qa : Nat) (qC q9 zh qH qI zg qM qZ qS qV : Int) (qx : LR) : (denF qh4 loopN qa Tryz.f28 [.dat (.pair tQi (.pair tQi (.pair tQi (.pair (.pair tQi tQi) (.pair tQi (.pair tQi (.pair tQi (.pair tQi (.pair tQi (.sl tQr)))))))))) true] [.agg [.d tQi qC, .d tQi q9, .d tQi zh, .d tQi qH, .d tQi qI, .d tQi zg, .d tQi qM, .d tQi qZ, .d tQi qS, .d tQi qV, .d (.sl tQr) qx]] [] qaD.k) = qaD.f qa qC q9 zh qH qI zg qM qZ qS qV qx := by
 kernel_rfl
def qbd : Den.Sum := ⟨[.dat (.pair tQi (.pair tQi (.pair tQi (.pair (.pair tQi tQi) (.pair tQi (.pair tQi (.pair tQi (.pair tQi (.pair tQi (.sl tQr)))))))))) true], fun qA qj κ => match qA, qj with
 | [.agg [.d (.int .i64) qC, .d (.int .i64) q9, .d (.int .i64) zh, .d (.int .i64) qH, .d (.int .i64) qI, .d (.int .i64) zg, .d (.int .i64) qM, .d (.int .i64) qZ, .d (.int .i64) qS, .d (.int .i64) qV, .d (.sl (.pair (.int .i64) (.pair (.int .i64) (.pair (.int .i64) (.pair (.pair (.int .i64) (.int .i64)) (.pair .bool (.sl (.pair (.int .i64) (.sl (.int .u8)))))))))) qx]], [] => (match veil (qaD.f BIG qC q9 zh qH qI zg qM qZ qS qV qx) with | none => none | some y => κ [.agg [.d (.int .i64) y.1, .d (.int .i64) y.2.1, .d (.int .i64) y.2.2.1, .d (.int .i64) y.2.2.2.1, .d (.int .i64) y.2.2.2.2.1, .d (.int .i64) y.2.2.2.2.2.1, .d (.int .i64) y.2.2.2.2.2.2.1, .d (.int .i64) y.2.2.2.2.2.2.2.1, .d (.int .i64) y.2.2.2.2.2.2.2.2.1, .d (.int .i64) y.2.2.2.2.2.2.2.2.2.1, .d (.sl (.pair (.int .i64) (.pair (.int .i64) (.pair (.int .i64) (.pair (.pair (.int .i64) (.int .i64)) (.pair .bool (.sl (.pair (.int .i64) (.sl (.int .u8)))))))))) y.2.2.2.2.2.2.2.2.2.2]] [])
 | _, _ => none⟩
theorem qiy : SumDet qbd := zi fun _ _ _ _ => by
 unfold qbd
 simp only [veil_eq]
 split
 ·split <;> rfl
 ·rfl
theorem qjq : SumOk Tryz.prog 28 qbd := by
 have hE : EnvOk Tryz.prog qh4 := env_ok (l := []) th_ok qU trivial _
 refine sum_ok hE Tryz.func28 rfl (by kernel_rfl) qbd [.dat (.pair tQi (.pair tQi (.pair tQi (.pair (.pair tQi tQi) (.pair tQi (.pair tQi (.pair tQi (.pair tQi (.pair tQi (.sl tQr)))))))))) true] qaD.k ?_
 intro R avs qj κ r h
 unfold qbd at h
 simp only [veil_eq] at h
 split at h
 ·rename_i qC q9 zh qH qI zg qM qZ qS qV qx
  split at h
  ·cases h
  ·rename_i y hy
   refine ⟨BIG, _, _, _, (qaD.eq BIG qC q9 zh qH qI zg qM qZ qS qV qx).trans hy, ?_, h⟩
   intro rs ros hk
   unfold qaD.k at hk
   split at hk
   ·rw [← sj hk]; exact ⟨rfl, rfl⟩
   ·cases hk
 ·cases h
def qfP : Env := ⟨th, gam [], fun i => ⟨[], [], []⟩⟩
def QF.k (rs : List AV) (os : List Den.Obj) : Option Int :=
 match rs, os with
 | [.d (.int .i64) r0], [] => some r0
 | _, _ => none
def QF.b (v : Int) : Option Int :=
 some ((bits BinOp.xor .i64 (IntKind.wrap .i64 (Int.fdiv v ((2 : Int) ^ (Min.min (Int.toNat (1 : Int)) (IntKind.bits .u64))))) (IntKind.wrap .i64 ((0 : Int) - (IntKind.wrap .i64 (bits BinOp.and .u64 v (1 : Int)))))))
def QF.f (qa : Nat) (v : Int) : Option Int := QF.b v
theorem QF.eq (qa : Nat) (v : Int) : (denF qfP loopN qa Tryz.f100 [.raw] [.d (.int .u64) v] [] QF.k) = QF.f qa v := by
 kernel_rfl
def qav : Den.Sum := ⟨[.raw], fun qA qj κ => match qA, qj with
 | [.d (.int .u64) v], [] => (match veil (QF.f BIG v) with | none => none | some y => κ [.d (.int .i64) y] [])
 | _, _ => none⟩
theorem qg8 : SumDet qav := zi fun _ _ _ _ => by
 unfold qav
 simp only [veil_eq]
 split
 ·split <;> rfl
 ·rfl
theorem qhF : SumOk Tryz.prog 100 qav := by
 have hE : EnvOk Tryz.prog qfP := env_ok (l := []) th_ok qU trivial _
 refine sum_ok hE Tryz.func100 rfl (by kernel_rfl) qav [.raw] QF.k ?_
 intro R avs qj κ r h
 unfold qav at h
 simp only [veil_eq] at h
 split at h
 ·rename_i v
  split at h
  ·cases h
  ·rename_i y hy
   refine ⟨BIG, _, _, _, (QF.eq BIG v).trans hy, ?_, h⟩
   intro rs ros hk
   unfold QF.k at hk
   split at hk
   ·rw [← sj hk]; exact ⟨rfl, rfl⟩
   ·cases hk
 ·cases h
def qdD : Env := ⟨th, gam [(24, QO), (66, ZY), (109, qaw)], fun i => if i = 2 then ⟨[0, 1, 6], [(6, 5, (.int .u8))], []⟩ else ⟨[], [], []⟩⟩
def zb.k (rs : List AV) (os : List Den.Obj) : Option (Int × Bool × (List Int) × Int × Bool) :=
 match rs, os with
 | [.d (.int .i64) r0, .d .bool r1], [.box [.d (.sl (.int .u8)) r2, .d (.int .i64) r3, .d .bool r4]] => some (r0, r1, r2, r3, r4)
 | _, _ => none
def zb.s2 (bs : List Int) (at0 : Int) (bad : Bool) (zc x0 : Int) (x1 : Bool) (x2 : (List Int)) : St := ⟨[.ptr 0 0, .d tQi (zc), dD, dD, dD, dD, .row 64, dD, dD, dD, dD, dD, dD, dD, dD, dD, dD, dD, dD, dD, dD, dD, dD, dD, dD, dD, dD, dD, dD, dD, dD, dD, dD, dD, dD, dD, dD, dD, dD, dD, dD, dD, dD, dD, .dead], ofL [(0, .box [.d (.sl (.int .u8)) (bs), .d tQi x0, .d .bool x1]), (64, .row 5 (.int .u8) x2 false)], 1⟩
def zb.p2 (qa : Nat) (bs : List Int) (at0 : Int) (bad : Bool) (zc : Int) (k : Nat) := fun x0 x1 x2 => lp qdD qa Tryz.f98 [.raw, .raw] 1 zb.k 2 [] k (zb.s2 bs at0 bad zc x0 x1 x2)
def zb.b2 (bs : List Int) (at0 : Int) (bad : Bool) (zc : Int) (A2 : Int → Bool → (List Int) → Option (Int × Bool × (List Int) × Int × Bool)) (x0 : Int) (x1 : Bool) (x2 : (List Int)) : Option (Int × Bool × (List Int) × Int × Bool) :=
 (if (decide (((((List.length x2)) : Nat) : Int) < (10 : Int))) then (if (zk bs x0) then (match (veil (Option.some (ql bs (1 : Int) x0 x1))) with | none => none | some y3 => (if y3.2.2 then some ((0 : Int), false, bs, y3.2.1, y3.2.2) else (if ((((List.length x2) + (List.length ((IntKind.wrap .u8 y3.1) :: ([] : List Int)))) * (1 : Nat)) ≤ lim) then (if (decide (y3.1 < (128 : Int))) then (match (veil (zf.f BIG (x2 ++ ((IntKind.wrap .u8 y3.1) :: ([] : List Int))))) with | none => none | some y4 => (if (y4.2.2 != (0 : Int)) then some ((0 : Int), false, bs, y3.2.1, y3.2.2) else (if (decide (zc < (0 : Int))) then some ((0 : Int), false, bs, y3.2.1, y3.2.2) else (if (decide (y4.1 > (IntKind.wrap .u64 zc))) then some ((0 : Int), false, bs, y3.2.1, y3.2.2) else some ((IntKind.wrap .i64 y4.1), true, bs, y3.2.1, y3.2.2))))) else A2 y3.2.1 y3.2.2 (x2 ++ ((IntKind.wrap .u8 y3.1) :: ([] : List Int)))) else none))) else none) else (match (veil (zf.f BIG x2)) with | none => none | some y5 => (if (y5.2.2 != (0 : Int)) then some ((0 : Int), false, bs, x0, x1) else (if (decide (zc < (0 : Int))) then some ((0 : Int), false, bs, x0, x1) else (if (decide (y5.1 > (IntKind.wrap .u64 zc))) then some ((0 : Int), false, bs, x0, x1) else some ((IntKind.wrap .i64 y5.1), true, bs, x0, x1))))))
def zb.l2 (qa : Nat) (bs : List Int) (at0 : Int) (bad : Bool) (zc : Int) : Nat → Int → Bool → (List Int) → Option (Int × Bool × (List Int) × Int × Bool)
 | 0, _, _, _ => none
 | k + 1, x0, x1, x2 => zb.b2 bs at0 bad zc (zb.l2 qa bs at0 bad zc k) x0 x1 x2
def zb.b (bs : List Int) (at0 : Int) (bad : Bool) (zc : Int) (E2 : Int → Bool → (List Int) → Option (Int × Bool × (List Int) × Int × Bool)) : Option (Int × Bool × (List Int) × Int × Bool) :=
 E2 at0 bad ([] : List Int)
def zb.f (qa : Nat) (bs : List Int) (at0 : Int) (bad : Bool) (zc : Int) : Option (Int × Bool × (List Int) × Int × Bool) := zb.b bs at0 bad zc (zb.l2 qa bs at0 bad zc qa)
theorem zb.l2_eq (qa : Nat) (bs : List Int) (at0 : Int) (bad : Bool) (zc : Int) : ∀ k : Nat, zb.p2 qa bs at0 bad zc k = zb.l2 qa bs at0 bad zc k
 | 0 => by kernel_rfl
 | k + 1 => by
  refine Eq.trans (b := zb.b2 bs at0 bad zc (zb.p2 qa bs at0 bad zc k)) (by kernel_rfl) ?_
  rw [zb.l2_eq qa bs at0 bad zc k]
  kernel_rfl
theorem zb.eq (qa : Nat) (bs : List Int) (at0 : Int) (bad : Bool) (zc : Int) : (denF qdD loopN qa Tryz.f98 [.raw, .raw] [.ptr 0 0, .d tQi zc] [.box [.d (.sl (.int .u8)) bs, .d tQi at0, .d .bool bad]] zb.k) = zb.f qa bs at0 bad zc := by
 refine Eq.trans (b := zb.b bs at0 bad zc (zb.p2 qa bs at0 bad zc qa)) (by kernel_rfl) ?_
 rw [zb.l2_eq qa bs at0 bad zc qa]
 kernel_rfl
def qac : Den.Sum := ⟨[.pb [.frz none [] 0 (.int .u8)], .raw], fun qA qj κ => match qA, qj with
 | [.ptr 0 0, .d (.int .i64) zc], [.box [.d (.sl (.int .u8)) bs, .d (.int .i64) at0, .d .bool bad]] => (match veil (zb.f BIG bs at0 bad zc) with | none => none | some y => κ [.d (.int .i64) y.1, .d .bool y.2.1] [.box [.d (.sl (.int .u8)) y.2.2.1, .d (.int .i64) y.2.2.2.1, .d .bool y.2.2.2.2]])
 | _, _ => none⟩
theorem qgD : SumDet qac := zi fun _ _ _ _ => by
 unfold qac
 simp only [veil_eq]
 split
 ·split <;> rfl
 ·rfl
theorem qha : SumOk Tryz.prog 98 qac := by
 have hE : EnvOk Tryz.prog qdD := env_ok (l := [(24, QO), (66, ZY), (109, qaw)]) th_ok qU ⟨⟨qai, ZX⟩, ⟨qbN, qa9⟩, ⟨qhG, qg9⟩, trivial⟩ _
 refine sum_ok hE Tryz.func98 rfl (by kernel_rfl) qac [.raw, .raw] zb.k ?_
 intro R avs qj κ r h
 unfold qac at h
 simp only [veil_eq] at h
 split at h
 ·rename_i zc bs at0 bad
  split at h
  ·cases h
  ·rename_i y hy
   refine ⟨BIG, _, _, _, (zb.eq BIG bs at0 bad zc).trans hy, ?_, h⟩
   intro rs ros hk
   unfold zb.k at hk
   split at hk
   ·rw [← sj hk]; exact ⟨rfl, rfl⟩
   ·cases hk
 ·cases h
def qdA : Env := ⟨th, gam [(98, qac)], fun i => ⟨[], [], []⟩⟩
def qu.k (rs : List AV) (os : List Den.Obj) : Option (Int × Bool × (List Int) × Int × Bool) :=
 match rs, os with
 | [.d (.int .i64) r0], [.box [.ptr 1 0, .d .bool r1], .box [.d (.sl (.int .u8)) r2, .d (.int .i64) r3, .d .bool r4]] => some (r0, r1, r2, r3, r4)
 | _, _ => none
def qu.b (bs : List Int) (at0 : Int) (bad qP : Bool) (limit : Int) : Option (Int × Bool × (List Int) × Int × Bool) :=
 (if qP then some ((0 : Int), qP, bs, at0, bad) else (match (veil (zb.f BIG bs at0 bad limit)) with | none => none | some y0 => some (y0.1, (!y0.2.1), y0.2.2.1, y0.2.2.2.1, y0.2.2.2.2)))
def qu.f (qa : Nat) (bs : List Int) (at0 : Int) (bad qP : Bool) (limit : Int) : Option (Int × Bool × (List Int) × Int × Bool) := qu.b bs at0 bad qP limit
theorem qu.eq (qa : Nat) (bs : List Int) (at0 : Int) (bad qP : Bool) (limit : Int) : (denF qdA loopN qa Tryz.f81 [.raw] [.ptr 0 0, .d tQi limit] [.box [.ptr 1 0, .d .bool qP], .box [.d (.sl (.int .u8)) bs, .d tQi at0, .d .bool bad]] qu.k) = qu.f qa bs at0 bad qP limit := by
 kernel_rfl
def zC : Den.Sum := ⟨[.pb [.frz none [0] 0 (.int .u8)], .raw], fun qA qj κ => match qA, qj with
 | [.ptr 0 0, .d (.int .i64) limit], [.box [.ptr 1 0, .d .bool qP], .box [.d (.sl (.int .u8)) bs, .d (.int .i64) at0, .d .bool bad]] => (match veil (qu.f BIG bs at0 bad qP limit) with | none => none | some y => κ [.d (.int .i64) y.1] [.box [.ptr 1 0, .d .bool y.2.1], .box [.d (.sl (.int .u8)) y.2.2.1, .d (.int .i64) y.2.2.2.1, .d .bool y.2.2.2.2]])
 | _, _ => none⟩
theorem Zz : SumDet zC := zi fun _ _ _ _ => by
 unfold zC
 simp only [veil_eq]
 split
 ·split <;> rfl
 ·rfl
theorem ZE : SumOk Tryz.prog 81 zC := by
 have hE : EnvOk Tryz.prog qdA := env_ok (l := [(98, qac)]) th_ok qU ⟨⟨qha, qgD⟩, trivial⟩ _
 refine sum_ok hE Tryz.func81 rfl (by kernel_rfl) zC [.raw] qu.k ?_
 intro R avs qj κ r h
 unfold zC at h
 simp only [veil_eq] at h
 split at h
 ·rename_i limit qP bs at0 bad
  split at h
  ·cases h
  ·rename_i y hy
   refine ⟨BIG, _, _, _, (qu.eq BIG bs at0 bad qP limit).trans hy, ?_, h⟩
   intro rs ros hk
   unfold qu.k at hk
   split at hk
   ·rw [← sj hk]; exact ⟨rfl, rfl⟩
   ·cases hk
 ·cases h
def qdz : Env := ⟨th, gam [(58, QI), (71, ZI), (81, zC), (24, QO), (83, Qb), (66, ZY)], fun i => ⟨[], [], []⟩⟩
def zK.k (rs : List AV) (os : List Den.Obj) : Option (Int × Int × Int × Int × Int × Int × Int × Int × Int × Int × LR × Bool × (List Int) × Int × Bool) :=
 match rs, os with
 | [.agg [.d (.int .i64) r0, .d (.int .i64) r1, .d (.int .i64) r2, .d (.int .i64) r3, .d (.int .i64) r4, .d (.int .i64) r5, .d (.int .i64) r6, .d (.int .i64) r7, .d (.int .i64) r8, .d (.int .i64) r9, .d (.sl (.pair (.int .i64) (.pair (.int .i64) (.pair (.int .i64) (.pair (.pair (.int .i64) (.int .i64)) (.pair .bool (.sl (.pair (.int .i64) (.sl (.int .u8)))))))))) r10]], [.box [.ptr 1 0, .d .bool r11], .box [.d (.sl (.int .u8)) r12, .d (.int .i64) r13, .d .bool r14]] => some (r0, r1, r2, r3, r4, r5, r6, r7, r8, r9, r10, r11, r12, r13, r14)
 | _, _ => none
def zK.b (bs : List Int) (at0 : Int) (bad qP : Bool) : Option (Int × Int × Int × Int × Int × Int × Int × Int × Int × Int × LR × Bool × (List Int) × Int × Bool) :=
 (if (zk bs at0) then (match (veil (Option.some (ql bs (1 : Int) at0 bad))) with | none => none | some y0 => (match (veil (qu.f BIG bs y0.2.1 y0.2.2 qP (4095 : Int))) with | none => none | some y1 => (match (veil (qu.f BIG y1.2.2.1 y1.2.2.2.1 y1.2.2.2.2 y1.2.1 (veil (281474976710655 : Int)))) with | none => none | some y2 => (match (veil (zd.f BIG y2.2.2.1 y2.2.2.2.1 y2.2.2.2.2 y2.2.1)) with | none => none | some y3 => (if (qt y0.1 (0 : Int)) then (match (veil (qu.f BIG y3.2.2.2.1 y3.2.2.2.2.1 y3.2.2.2.2.2 y3.2.2.1 (65535 : Int))) with | none => none | some y4 => (if (qt y0.1 (1 : Int)) then (match (veil (qu.f BIG y4.2.2.1 y4.2.2.2.1 y4.2.2.2.2 y4.2.1 (4095 : Int))) with | none => none | some y5 => (if (qt y0.1 (2 : Int)) then (match (veil (qu.f BIG y5.2.2.1 y5.2.2.2.1 y5.2.2.2.2 y5.2.1 (veil (281474976710655 : Int)))) with | none => none | some y6 => (match (veil (qu.f BIG y6.2.2.1 y6.2.2.2.1 y6.2.2.2.2 y6.2.1 (65535 : Int))) with | none => none | some y7 => (if (qt y0.1 (3 : Int)) then (match (veil (qu.f BIG y7.2.2.1 y7.2.2.2.1 y7.2.2.2.2 y7.2.1 (65535 : Int))) with | none => none | some y8 => (if y8.2.2.2.2 then some (y0.1, y1.1, y2.1, y3.1, y3.2.1, y4.1, y5.1, y6.1, y7.1, y8.1, ([] : LR), true, y8.2.2.1, y8.2.2.2.1, y8.2.2.2.2) else (if (!(qR y0.1 y1.1 y2.1 y3.1 y3.2.1 y4.1 y5.1 y6.1 y7.1 y8.1 ([] : LR))) then some (y0.1, y1.1, y2.1, y3.1, y3.2.1, y4.1, y5.1, y6.1, y7.1, y8.1, ([] : LR), true, y8.2.2.1, y8.2.2.2.1, y8.2.2.2.2) else some (y0.1, y1.1, y2.1, y3.1, y3.2.1, y4.1, y5.1, y6.1, y7.1, y8.1, ([] : LR), y8.2.1, y8.2.2.1, y8.2.2.2.1, y8.2.2.2.2)))) else (if y7.2.2.2.2 then some (y0.1, y1.1, y2.1, y3.1, y3.2.1, y4.1, y5.1, y6.1, y7.1, 0, ([] : LR), true, y7.2.2.1, y7.2.2.2.1, y7.2.2.2.2) else (if (!(qR y0.1 y1.1 y2.1 y3.1 y3.2.1 y4.1 y5.1 y6.1 y7.1 0 ([] : LR))) then some (y0.1, y1.1, y2.1, y3.1, y3.2.1, y4.1, y5.1, y6.1, y7.1, 0, ([] : LR), true, y7.2.2.1, y7.2.2.2.1, y7.2.2.2.2) else some (y0.1, y1.1, y2.1, y3.1, y3.2.1, y4.1, y5.1, y6.1, y7.1, 0, ([] : LR), y7.2.1, y7.2.2.1, y7.2.2.2.1, y7.2.2.2.2)))))) else (if (qt y0.1 (3 : Int)) then (match (veil (qu.f BIG y5.2.2.1 y5.2.2.2.1 y5.2.2.2.2 y5.2.1 (65535 : Int))) with | none => none | some y9 => (if y9.2.2.2.2 then some (y0.1, y1.1, y2.1, y3.1, y3.2.1, y4.1, y5.1, 0, 0, y9.1, ([] : LR), true, y9.2.2.1, y9.2.2.2.1, y9.2.2.2.2) else (if (!(qR y0.1 y1.1 y2.1 y3.1 y3.2.1 y4.1 y5.1 0 0 y9.1 ([] : LR))) then some (y0.1, y1.1, y2.1, y3.1, y3.2.1, y4.1, y5.1, 0, 0, y9.1, ([] : LR), true, y9.2.2.1, y9.2.2.2.1, y9.2.2.2.2) else some (y0.1, y1.1, y2.1, y3.1, y3.2.1, y4.1, y5.1, 0, 0, y9.1, ([] : LR), y9.2.1, y9.2.2.1, y9.2.2.2.1, y9.2.2.2.2)))) else (if y5.2.2.2.2 then some (y0.1, y1.1, y2.1, y3.1, y3.2.1, y4.1, y5.1, 0, 0, 0, ([] : LR), true, y5.2.2.1, y5.2.2.2.1, y5.2.2.2.2) else (if (!(qR y0.1 y1.1 y2.1 y3.1 y3.2.1 y4.1 y5.1 0 0 0 ([] : LR))) then some (y0.1, y1.1, y2.1, y3.1, y3.2.1, y4.1, y5.1, 0, 0, 0, ([] : LR), true, y5.2.2.1, y5.2.2.2.1, y5.2.2.2.2) else some (y0.1, y1.1, y2.1, y3.1, y3.2.1, y4.1, y5.1, 0, 0, 0, ([] : LR), y5.2.1, y5.2.2.1, y5.2.2.2.1, y5.2.2.2.2)))))) else (if (qt y0.1 (2 : Int)) then (match (veil (qu.f BIG y4.2.2.1 y4.2.2.2.1 y4.2.2.2.2 y4.2.1 (veil (281474976710655 : Int)))) with | none => none | some y10 => (match (veil (qu.f BIG y10.2.2.1 y10.2.2.2.1 y10.2.2.2.2 y10.2.1 (65535 : Int))) with | none => none | some y11 => (if (qt y0.1 (3 : Int)) then (match (veil (qu.f BIG y11.2.2.1 y11.2.2.2.1 y11.2.2.2.2 y11.2.1 (65535 : Int))) with | none => none | some y12 => (if y12.2.2.2.2 then some (y0.1, y1.1, y2.1, y3.1, y3.2.1, y4.1, 0, y10.1, y11.1, y12.1, ([] : LR), true, y12.2.2.1, y12.2.2.2.1, y12.2.2.2.2) else (if (!(qR y0.1 y1.1 y2.1 y3.1 y3.2.1 y4.1 0 y10.1 y11.1 y12.1 ([] : LR))) then some (y0.1, y1.1, y2.1, y3.1, y3.2.1, y4.1, 0, y10.1, y11.1, y12.1, ([] : LR), true, y12.2.2.1, y12.2.2.2.1, y12.2.2.2.2) else some (y0.1, y1.1, y2.1, y3.1, y3.2.1, y4.1, 0, y10.1, y11.1, y12.1, ([] : LR), y12.2.1, y12.2.2.1, y12.2.2.2.1, y12.2.2.2.2)))) else (if y11.2.2.2.2 then some (y0.1, y1.1, y2.1, y3.1, y3.2.1, y4.1, 0, y10.1, y11.1, 0, ([] : LR), true, y11.2.2.1, y11.2.2.2.1, y11.2.2.2.2) else (if (!(qR y0.1 y1.1 y2.1 y3.1 y3.2.1 y4.1 0 y10.1 y11.1 0 ([] : LR))) then some (y0.1, y1.1, y2.1, y3.1, y3.2.1, y4.1, 0, y10.1, y11.1, 0, ([] : LR), true, y11.2.2.1, y11.2.2.2.1, y11.2.2.2.2) else some (y0.1, y1.1, y2.1, y3.1, y3.2.1, y4.1, 0, y10.1, y11.1, 0, ([] : LR), y11.2.1, y11.2.2.1, y11.2.2.2.1, y11.2.2.2.2)))))) else (if (qt y0.1 (3 : Int)) then (match (veil (qu.f BIG y4.2.2.1 y4.2.2.2.1 y4.2.2.2.2 y4.2.1 (65535 : Int))) with | none => none | some y13 => (if y13.2.2.2.2 then some (y0.1, y1.1, y2.1, y3.1, y3.2.1, y4.1, 0, 0, 0, y13.1, ([] : LR), true, y13.2.2.1, y13.2.2.2.1, y13.2.2.2.2) else (if (!(qR y0.1 y1.1 y2.1 y3.1 y3.2.1 y4.1 0 0 0 y13.1 ([] : LR))) then some (y0.1, y1.1, y2.1, y3.1, y3.2.1, y4.1, 0, 0, 0, y13.1, ([] : LR), true, y13.2.2.1, y13.2.2.2.1, y13.2.2.2.2) else some (y0.1, y1.1, y2.1, y3.1, y3.2.1, y4.1, 0, 0, 0, y13.1, ([] : LR), y13.2.1, y13.2.2.1, y13.2.2.2.1, y13.2.2.2.2)))) else (if y4.2.2.2.2 then some (y0.1, y1.1, y2.1, y3.1, y3.2.1, y4.1, 0, 0, 0, 0, ([] : LR), true, y4.2.2.1, y4.2.2.2.1, y4.2.2.2.2) else (if (!(qR y0.1 y1.1 y2.1 y3.1 y3.2.1 y4.1 0 0 0 0 ([] : LR))) then some (y0.1, y1.1, y2.1, y3.1, y3.2.1, y4.1, 0, 0, 0, 0, ([] : LR), true, y4.2.2.1, y4.2.2.2.1, y4.2.2.2.2) else some (y0.1, y1.1, y2.1, y3.1, y3.2.1, y4.1, 0, 0, 0, 0, ([] : LR), y4.2.1, y4.2.2.1, y4.2.2.2.1, y4.2.2.2.2))))))) else (if (qt y0.1 (1 : Int)) then (match (veil (qu.f BIG y3.2.2.2.1 y3.2.2.2.2.1 y3.2.2.2.2.2 y3.2.2.1 (4095 : Int))) with | none => none | some y14 => (if (qt y0.1 (2 : Int)) then (match (veil (qu.f BIG y14.2.2.1 y14.2.2.2.1 y14.2.2.2.2 y14.2.1 (veil (281474976710655 : Int)))) with | none => none | some y15 => (match (veil (qu.f BIG y15.2.2.1 y15.2.2.2.1 y15.2.2.2.2 y15.2.1 (65535 : Int))) with | none => none | some y16 => (if (qt y0.1 (3 : Int)) then (match (veil (qu.f BIG y16.2.2.1 y16.2.2.2.1 y16.2.2.2.2 y16.2.1 (65535 : Int))) with | none => none | some y17 => (if y17.2.2.2.2 then some (y0.1, y1.1, y2.1, y3.1, y3.2.1, 0, y14.1, y15.1, y16.1, y17.1, ([] : LR), true, y17.2.2.1, y17.2.2.2.1, y17.2.2.2.2) else (if (!(qR y0.1 y1.1 y2.1 y3.1 y3.2.1 0 y14.1 y15.1 y16.1 y17.1 ([] : LR))) then some (y0.1, y1.1, y2.1, y3.1, y3.2.1, 0, y14.1, y15.1, y16.1, y17.1, ([] : LR), true, y17.2.2.1, y17.2.2.2.1, y17.2.2.2.2) else some (y0.1, y1.1, y2.1, y3.1, y3.2.1, 0, y14.1, y15.1, y16.1, y17.1, ([] : LR), y17.2.1, y17.2.2.1, y17.2.2.2.1, y17.2.2.2.2)))) else (if y16.2.2.2.2 then some (y0.1, y1.1, y2.1, y3.1, y3.2.1, 0, y14.1, y15.1, y16.1, 0, ([] : LR), true, y16.2.2.1, y16.2.2.2.1, y16.2.2.2.2) else (if (!(qR y0.1 y1.1 y2.1 y3.1 y3.2.1 0 y14.1 y15.1 y16.1 0 ([] : LR))) then some (y0.1, y1.1, y2.1, y3.1, y3.2.1, 0, y14.1, y15.1, y16.1, 0, ([] : LR), true, y16.2.2.1, y16.2.2.2.1, y16.2.2.2.2) else some (y0.1, y1.1, y2.1, y3.1, y3.2.1, 0, y14.1, y15.1, y16.1, 0, ([] : LR), y16.2.1, y16.2.2.1, y16.2.2.2.1, y16.2.2.2.2)))))) else (if (qt y0.1 (3 : Int)) then (match (veil (qu.f BIG y14.2.2.1 y14.2.2.2.1 y14.2.2.2.2 y14.2.1 (65535 : Int))) with | none => none | some y18 => (if y18.2.2.2.2 then some (y0.1, y1.1, y2.1, y3.1, y3.2.1, 0, y14.1, 0, 0, y18.1, ([] : LR), true, y18.2.2.1, y18.2.2.2.1, y18.2.2.2.2) else (if (!(qR y0.1 y1.1 y2.1 y3.1 y3.2.1 0 y14.1 0 0 y18.1 ([] : LR))) then some (y0.1, y1.1, y2.1, y3.1, y3.2.1, 0, y14.1, 0, 0, y18.1, ([] : LR), true, y18.2.2.1, y18.2.2.2.1, y18.2.2.2.2) else some (y0.1, y1.1, y2.1, y3.1, y3.2.1, 0, y14.1, 0, 0, y18.1, ([] : LR), y18.2.1, y18.2.2.1, y18.2.2.2.1, y18.2.2.2.2)))) else (if y14.2.2.2.2 then some (y0.1, y1.1, y2.1, y3.1, y3.2.1, 0, y14.1, 0, 0, 0, ([] : LR), true, y14.2.2.1, y14.2.2.2.1, y14.2.2.2.2) else (if (!(qR y0.1 y1.1 y2.1 y3.1 y3.2.1 0 y14.1 0 0 0 ([] : LR))) then some (y0.1, y1.1, y2.1, y3.1, y3.2.1, 0, y14.1, 0, 0, 0, ([] : LR), true, y14.2.2.1, y14.2.2.2.1, y14.2.2.2.2) else some (y0.1, y1.1, y2.1, y3.1, y3.2.1, 0, y14.1, 0, 0, 0, ([] : LR), y14.2.1, y14.2.2.1, y14.2.2.2.1, y14.2.2.2.2)))))) else (if (qt y0.1 (2 : Int)) then (match (veil (qu.f BIG y3.2.2.2.1 y3.2.2.2.2.1 y3.2.2.2.2.2 y3.2.2.1 (veil (281474976710655 : Int)))) with | none => none | some y19 => (match (veil (qu.f BIG y19.2.2.1 y19.2.2.2.1 y19.2.2.2.2 y19.2.1 (65535 : Int))) with | none => none | some y20 => (if (qt y0.1 (3 : Int)) then (match (veil (qu.f BIG y20.2.2.1 y20.2.2.2.1 y20.2.2.2.2 y20.2.1 (65535 : Int))) with | none => none | some y21 => (if y21.2.2.2.2 then some (y0.1, y1.1, y2.1, y3.1, y3.2.1, 0, 0, y19.1, y20.1, y21.1, ([] : LR), true, y21.2.2.1, y21.2.2.2.1, y21.2.2.2.2) else (if (!(qR y0.1 y1.1 y2.1 y3.1 y3.2.1 0 0 y19.1 y20.1 y21.1 ([] : LR))) then some (y0.1, y1.1, y2.1, y3.1, y3.2.1, 0, 0, y19.1, y20.1, y21.1, ([] : LR), true, y21.2.2.1, y21.2.2.2.1, y21.2.2.2.2) else some (y0.1, y1.1, y2.1, y3.1, y3.2.1, 0, 0, y19.1, y20.1, y21.1, ([] : LR), y21.2.1, y21.2.2.1, y21.2.2.2.1, y21.2.2.2.2)))) else (if y20.2.2.2.2 then some (y0.1, y1.1, y2.1, y3.1, y3.2.1, 0, 0, y19.1, y20.1, 0, ([] : LR), true, y20.2.2.1, y20.2.2.2.1, y20.2.2.2.2) else (if (!(qR y0.1 y1.1 y2.1 y3.1 y3.2.1 0 0 y19.1 y20.1 0 ([] : LR))) then some (y0.1, y1.1, y2.1, y3.1, y3.2.1, 0, 0, y19.1, y20.1, 0, ([] : LR), true, y20.2.2.1, y20.2.2.2.1, y20.2.2.2.2) else some (y0.1, y1.1, y2.1, y3.1, y3.2.1, 0, 0, y19.1, y20.1, 0, ([] : LR), y20.2.1, y20.2.2.1, y20.2.2.2.1, y20.2.2.2.2)))))) else (if (qt y0.1 (3 : Int)) then (match (veil (qu.f BIG y3.2.2.2.1 y3.2.2.2.2.1 y3.2.2.2.2.2 y3.2.2.1 (65535 : Int))) with | none => none | some y22 => (if y22.2.2.2.2 then some (y0.1, y1.1, y2.1, y3.1, y3.2.1, 0, 0, 0, 0, y22.1, ([] : LR), true, y22.2.2.1, y22.2.2.2.1, y22.2.2.2.2) else (if (!(qR y0.1 y1.1 y2.1 y3.1 y3.2.1 0 0 0 0 y22.1 ([] : LR))) then some (y0.1, y1.1, y2.1, y3.1, y3.2.1, 0, 0, 0, 0, y22.1, ([] : LR), true, y22.2.2.1, y22.2.2.2.1, y22.2.2.2.2) else some (y0.1, y1.1, y2.1, y3.1, y3.2.1, 0, 0, 0, 0, y22.1, ([] : LR), y22.2.1, y22.2.2.1, y22.2.2.2.1, y22.2.2.2.2)))) else (if y3.2.2.2.2.2 then some (y0.1, y1.1, y2.1, y3.1, y3.2.1, 0, 0, 0, 0, 0, ([] : LR), true, y3.2.2.2.1, y3.2.2.2.2.1, y3.2.2.2.2.2) else (if (!(qR y0.1 y1.1 y2.1 y3.1 y3.2.1 0 0 0 0 0 ([] : LR))) then some (y0.1, y1.1, y2.1, y3.1, y3.2.1, 0, 0, 0, 0, 0, ([] : LR), true, y3.2.2.2.1, y3.2.2.2.2.1, y3.2.2.2.2.2) else some (y0.1, y1.1, y2.1, y3.1, y3.2.1, 0, 0, 0, 0, 0, ([] : LR), y3.2.2.1, y3.2.2.2.1, y3.2.2.2.2.1, y3.2.2.2.2.2))))))))))) else none)
def zK.f (qa : Nat) (bs : List Int) (at0 : Int) (bad qP : Bool) : Option (Int × Int × Int × Int × Int × Int × Int × Int × Int × Int × LR × Bool × (List Int) × Int × Bool) := zK.b bs at0 bad qP
theorem zK.eq (qa : Nat) (bs : List Int) (at0 : Int) (bad qP : Bool) : (denF qdz loopN qa Tryz.f52 [.dat (.pair tQi (.pair tQi (.pair tQi (.pair (.pair tQi tQi) (.pair tQi (.pair tQi (.pair tQi (.pair tQi (.pair tQi (.sl tQr)))))))))) true] [.ptr 0 0] [.box [.ptr 1 0, .d .bool qP], .box [.d (.sl (.int .u8)) bs, .d tQi at0, .d .bool bad]] zK.k) = zK.f qa bs at0 bad qP := by
 kernel_rfl
def Zi : Den.Sum := ⟨[.pb [.frz none [0] 0 (.int .u8)]], fun qA qj κ => match qA, qj with
 | [.ptr 0 0], [.box [.ptr 1 0, .d .bool qP], .box [.d (.sl (.int .u8)) bs, .d (.int .i64) at0, .d .bool bad]] => (match veil (zK.f BIG bs at0 bad qP) with | none => none | some y => κ [.agg [.d (.int .i64) y.1, .d (.int .i64) y.2.1, .d (.int .i64) y.2.2.1, .d (.int .i64) y.2.2.2.1, .d (.int .i64) y.2.2.2.2.1, .d (.int .i64) y.2.2.2.2.2.1, .d (.int .i64) y.2.2.2.2.2.2.1, .d (.int .i64) y.2.2.2.2.2.2.2.1, .d (.int .i64) y.2.2.2.2.2.2.2.2.1, .d (.int .i64) y.2.2.2.2.2.2.2.2.2.1, .d (.sl (.pair (.int .i64) (.pair (.int .i64) (.pair (.int .i64) (.pair (.pair (.int .i64) (.int .i64)) (.pair .bool (.sl (.pair (.int .i64) (.sl (.int .u8)))))))))) y.2.2.2.2.2.2.2.2.2.2.1]] [.box [.ptr 1 0, .d .bool y.2.2.2.2.2.2.2.2.2.2.2.1], .box [.d (.sl (.int .u8)) y.2.2.2.2.2.2.2.2.2.2.2.2.1, .d (.int .i64) y.2.2.2.2.2.2.2.2.2.2.2.2.2.1, .d .bool y.2.2.2.2.2.2.2.2.2.2.2.2.2.2]])
 | _, _ => none⟩
theorem qev : SumDet Zi := zi fun _ _ _ _ => by
 unfold Zi
 simp only [veil_eq]
 split
 ·split <;> rfl
 ·rfl
theorem qeU : SumOk Tryz.prog 52 Zi := by
 have hE : EnvOk Tryz.prog qdz := env_ok (l := [(58, QI), (71, ZI), (81, zC), (24, QO), (83, Qb), (66, ZY)]) th_ok qU ⟨⟨qah, ZW⟩, ⟨qbe, qaP⟩, ⟨ZE, Zz⟩, ⟨qai, ZX⟩, ⟨qa6, qaZ⟩, ⟨qbN, qa9⟩, trivial⟩ _
 refine sum_ok hE Tryz.func52 rfl (by kernel_rfl) Zi [.dat (.pair tQi (.pair tQi (.pair tQi (.pair (.pair tQi tQi) (.pair tQi (.pair tQi (.pair tQi (.pair tQi (.pair tQi (.sl tQr)))))))))) true] zK.k ?_
 intro R avs qj κ r h
 unfold Zi at h
 simp only [veil_eq] at h
 split at h
 ·rename_i qP bs at0 bad
  split at h
  ·cases h
  ·rename_i y hy
   refine ⟨BIG, _, _, _, (zK.eq BIG bs at0 bad qP).trans hy, ?_, h⟩
   intro rs ros hk
   unfold zK.k at hk
   split at hk
   ·rw [← sj hk]; exact ⟨rfl, rfl⟩
   ·cases hk
 ·cases h
def qgW : Env := ⟨th, gam [(23, Z1), (52, Zi)], fun i => ⟨[], [], []⟩⟩
def Zj.k (rs : List AV) (os : List Den.Obj) : Option (Int × Int × Int × Int × Int × Int × Int × Int × Int × Int × LR × Int) :=
 match rs, os with
 | [.agg [.d (.int .i64) r0, .d (.int .i64) r1, .d (.int .i64) r2, .d (.int .i64) r3, .d (.int .i64) r4, .d (.int .i64) r5, .d (.int .i64) r6, .d (.int .i64) r7, .d (.int .i64) r8, .d (.int .i64) r9, .d (.sl (.pair (.int .i64) (.pair (.int .i64) (.pair (.int .i64) (.pair (.pair (.int .i64) (.int .i64)) (.pair .bool (.sl (.pair (.int .i64) (.sl (.int .u8)))))))))) r10], .d (.int .i64) r11], [] => some (r0, r1, r2, r3, r4, r5, r6, r7, r8, r9, r10, r11)
 | _, _ => none
def Zj.b (b : List Int) : Option (Int × Int × Int × Int × Int × Int × Int × Int × Int × Int × LR × Int) :=
 (if (inB b) then (match (veil (zK.f BIG b 0 false false)) with | none => none | some y0 => (if y0.2.2.2.2.2.2.2.2.2.2.2.1 then some (0, 0, 0, 0, 0, 0, 0, 0, 0, 0, ([] : LR), (4 : Int)) else some (y0.1, y0.2.1, y0.2.2.1, y0.2.2.2.1, y0.2.2.2.2.1, y0.2.2.2.2.2.1, y0.2.2.2.2.2.2.1, y0.2.2.2.2.2.2.2.1, y0.2.2.2.2.2.2.2.2.1, y0.2.2.2.2.2.2.2.2.2.1, y0.2.2.2.2.2.2.2.2.2.2.1, (0 : Int)))) else none)
def Zj.f (qa : Nat) (b : List Int) : Option (Int × Int × Int × Int × Int × Int × Int × Int × Int × Int × LR × Int) := Zj.b b
theorem Zj.eq (qa : Nat) (b : List Int) : (denF qgW loopN qa Tryz.f26 [.dat (.pair tQi (.pair tQi (.pair tQi (.pair (.pair tQi tQi) (.pair tQi (.pair tQi (.pair tQi (.pair tQi (.pair tQi (.sl tQr)))))))))) true, .raw] [.d (.sl (.int .u8)) b] [] Zj.k) = Zj.f qa b := by
 kernel_rfl
def qa0 : Den.Sum := ⟨[.dat (.sl (.int .u8)) false], fun qA qj κ => match qA, qj with
 | [.d (.sl (.int .u8)) b], [] => (match veil (Zj.f BIG b) with | none => none | some y => κ [.agg [.d (.int .i64) y.1, .d (.int .i64) y.2.1, .d (.int .i64) y.2.2.1, .d (.int .i64) y.2.2.2.1, .d (.int .i64) y.2.2.2.2.1, .d (.int .i64) y.2.2.2.2.2.1, .d (.int .i64) y.2.2.2.2.2.2.1, .d (.int .i64) y.2.2.2.2.2.2.2.1, .d (.int .i64) y.2.2.2.2.2.2.2.2.1, .d (.int .i64) y.2.2.2.2.2.2.2.2.2.1, .d (.sl (.pair (.int .i64) (.pair (.int .i64) (.pair (.int .i64) (.pair (.pair (.int .i64) (.int .i64)) (.pair .bool (.sl (.pair (.int .i64) (.sl (.int .u8)))))))))) y.2.2.2.2.2.2.2.2.2.2.1], .d (.int .i64) y.2.2.2.2.2.2.2.2.2.2.2] [])
 | _, _ => none⟩
theorem qhQ : SumDet qa0 := zi fun _ _ _ _ => by
 unfold qa0
 simp only [veil_eq]
 split
 ·split <;> rfl
 ·rfl
theorem qiB : SumOk Tryz.prog 26 qa0 := by
 have hE : EnvOk Tryz.prog qgW := env_ok (l := [(23, Z1), (52, Zi)]) th_ok qU ⟨⟨qcx, qbW⟩, ⟨qeU, qev⟩, trivial⟩ _
 refine sum_ok hE Tryz.func26 rfl (by kernel_rfl) qa0 [.dat (.pair tQi (.pair tQi (.pair tQi (.pair (.pair tQi tQi) (.pair tQi (.pair tQi (.pair tQi (.pair tQi (.pair tQi (.sl tQr)))))))))) true, .raw] Zj.k ?_
 intro R avs qj κ r h
 unfold qa0 at h
 simp only [veil_eq] at h
 split at h
 ·rename_i b
  split at h
  ·cases h
  ·rename_i y hy
   refine ⟨BIG, _, _, _, (Zj.eq BIG b).trans hy, ?_, h⟩
   intro rs ros hk
   unfold Zj.k at hk
   split at hk
   ·rw [← sj hk]; exact ⟨rfl, rfl⟩
   ·cases hk
 ·cases h
def qc7 : Env := ⟨th, gam [(58, QI), (71, ZI), (81, zC), (24, QO), (83, Qb), (66, ZY)], fun i => ⟨[], [], []⟩⟩
def zB.k (rs : List AV) (os : List Den.Obj) : Option (Int × Int × Int × Int × Int × Int × Int × Int × Int × Int × Bool × (List Int) × Int × Bool) :=
 match rs, os with
 | [.agg [.d (.int .i64) r0, .d (.int .i64) r1, .d (.int .i64) r2, .d (.int .i64) r3, .d (.int .i64) r4, .d (.int .i64) r5, .d (.int .i64) r6, .d (.int .i64) r7, .d (.int .i64) r8, .d (.int .i64) r9, .nilsl]], [.box [.ptr 1 0, .d .bool r10], .box [.d (.sl (.int .u8)) r11, .d (.int .i64) r12, .d .bool r13]] => some (r0, r1, r2, r3, r4, r5, r6, r7, r8, r9, r10, r11, r12, r13)
 | _, _ => none
def zB.b (bs : List Int) (at0 : Int) (bad qP : Bool) : Option (Int × Int × Int × Int × Int × Int × Int × Int × Int × Int × Bool × (List Int) × Int × Bool) :=
 (if (zk bs at0) then (match (veil (Option.some (ql bs (1 : Int) at0 bad))) with | none => none | some y0 => (match (veil (qu.f BIG bs y0.2.1 y0.2.2 qP (4095 : Int))) with | none => none | some y1 => (match (veil (qu.f BIG y1.2.2.1 y1.2.2.2.1 y1.2.2.2.2 y1.2.1 (veil (281474976710655 : Int)))) with | none => none | some y2 => (match (veil (zd.f BIG y2.2.2.1 y2.2.2.2.1 y2.2.2.2.2 y2.2.1)) with | none => none | some y3 => (if (qt y0.1 (0 : Int)) then (match (veil (qu.f BIG y3.2.2.2.1 y3.2.2.2.2.1 y3.2.2.2.2.2 y3.2.2.1 (65535 : Int))) with | none => none | some y4 => (if (qt y0.1 (1 : Int)) then (match (veil (qu.f BIG y4.2.2.1 y4.2.2.2.1 y4.2.2.2.2 y4.2.1 (4095 : Int))) with | none => none | some y5 => (if (qt y0.1 (2 : Int)) then (match (veil (qu.f BIG y5.2.2.1 y5.2.2.2.1 y5.2.2.2.2 y5.2.1 (veil (281474976710655 : Int)))) with | none => none | some y6 => (match (veil (qu.f BIG y6.2.2.1 y6.2.2.2.1 y6.2.2.2.2 y6.2.1 (65535 : Int))) with | none => none | some y7 => (if (qt y0.1 (3 : Int)) then (match (veil (qu.f BIG y7.2.2.1 y7.2.2.2.1 y7.2.2.2.2 y7.2.1 (65535 : Int))) with | none => none | some y8 => (if y8.2.2.2.2 then some (y0.1, y1.1, y2.1, y3.1, y3.2.1, y4.1, y5.1, y6.1, y7.1, y8.1, true, y8.2.2.1, y8.2.2.2.1, y8.2.2.2.2) else (if (!(qR y0.1 y1.1 y2.1 y3.1 y3.2.1 y4.1 y5.1 y6.1 y7.1 y8.1 ([] : LR))) then some (y0.1, y1.1, y2.1, y3.1, y3.2.1, y4.1, y5.1, y6.1, y7.1, y8.1, true, y8.2.2.1, y8.2.2.2.1, y8.2.2.2.2) else some (y0.1, y1.1, y2.1, y3.1, y3.2.1, y4.1, y5.1, y6.1, y7.1, y8.1, y8.2.1, y8.2.2.1, y8.2.2.2.1, y8.2.2.2.2)))) else (if y7.2.2.2.2 then some (y0.1, y1.1, y2.1, y3.1, y3.2.1, y4.1, y5.1, y6.1, y7.1, 0, true, y7.2.2.1, y7.2.2.2.1, y7.2.2.2.2) else (if (!(qR y0.1 y1.1 y2.1 y3.1 y3.2.1 y4.1 y5.1 y6.1 y7.1 0 ([] : LR))) then some (y0.1, y1.1, y2.1, y3.1, y3.2.1, y4.1, y5.1, y6.1, y7.1, 0, true, y7.2.2.1, y7.2.2.2.1, y7.2.2.2.2) else some (y0.1, y1.1, y2.1, y3.1, y3.2.1, y4.1, y5.1, y6.1, y7.1, 0, y7.2.1, y7.2.2.1, y7.2.2.2.1, y7.2.2.2.2)))))) else (if (qt y0.1 (3 : Int)) then (match (veil (qu.f BIG y5.2.2.1 y5.2.2.2.1 y5.2.2.2.2 y5.2.1 (65535 : Int))) with | none => none | some y9 => (if y9.2.2.2.2 then some (y0.1, y1.1, y2.1, y3.1, y3.2.1, y4.1, y5.1, 0, 0, y9.1, true, y9.2.2.1, y9.2.2.2.1, y9.2.2.2.2) else (if (!(qR y0.1 y1.1 y2.1 y3.1 y3.2.1 y4.1 y5.1 0 0 y9.1 ([] : LR))) then some (y0.1, y1.1, y2.1, y3.1, y3.2.1, y4.1, y5.1, 0, 0, y9.1, true, y9.2.2.1, y9.2.2.2.1, y9.2.2.2.2) else some (y0.1, y1.1, y2.1, y3.1, y3.2.1, y4.1, y5.1, 0, 0, y9.1, y9.2.1, y9.2.2.1, y9.2.2.2.1, y9.2.2.2.2)))) else (if y5.2.2.2.2 then some (y0.1, y1.1, y2.1, y3.1, y3.2.1, y4.1, y5.1, 0, 0, 0, true, y5.2.2.1, y5.2.2.2.1, y5.2.2.2.2) else (if (!(qR y0.1 y1.1 y2.1 y3.1 y3.2.1 y4.1 y5.1 0 0 0 ([] : LR))) then some (y0.1, y1.1, y2.1, y3.1, y3.2.1, y4.1, y5.1, 0, 0, 0, true, y5.2.2.1, y5.2.2.2.1, y5.2.2.2.2) else some (y0.1, y1.1, y2.1, y3.1, y3.2.1, y4.1, y5.1, 0, 0, 0, y5.2.1, y5.2.2.1, y5.2.2.2.1, y5.2.2.2.2)))))) else (if (qt y0.1 (2 : Int)) then (match (veil (qu.f BIG y4.2.2.1 y4.2.2.2.1 y4.2.2.2.2 y4.2.1 (veil (281474976710655 : Int)))) with | none => none | some y10 => (match (veil (qu.f BIG y10.2.2.1 y10.2.2.2.1 y10.2.2.2.2 y10.2.1 (65535 : Int))) with | none => none | some y11 => (if (qt y0.1 (3 : Int)) then (match (veil (qu.f BIG y11.2.2.1 y11.2.2.2.1 y11.2.2.2.2 y11.2.1 (65535 : Int))) with | none => none | some y12 => (if y12.2.2.2.2 then some (y0.1, y1.1, y2.1, y3.1, y3.2.1, y4.1, 0, y10.1, y11.1, y12.1, true, y12.2.2.1, y12.2.2.2.1, y12.2.2.2.2) else (if (!(qR y0.1 y1.1 y2.1 y3.1 y3.2.1 y4.1 0 y10.1 y11.1 y12.1 ([] : LR))) then some (y0.1, y1.1, y2.1, y3.1, y3.2.1, y4.1, 0, y10.1, y11.1, y12.1, true, y12.2.2.1, y12.2.2.2.1, y12.2.2.2.2) else some (y0.1, y1.1, y2.1, y3.1, y3.2.1, y4.1, 0, y10.1, y11.1, y12.1, y12.2.1, y12.2.2.1, y12.2.2.2.1, y12.2.2.2.2)))) else (if y11.2.2.2.2 then some (y0.1, y1.1, y2.1, y3.1, y3.2.1, y4.1, 0, y10.1, y11.1, 0, true, y11.2.2.1, y11.2.2.2.1, y11.2.2.2.2) else (if (!(qR y0.1 y1.1 y2.1 y3.1 y3.2.1 y4.1 0 y10.1 y11.1 0 ([] : LR))) then some (y0.1, y1.1, y2.1, y3.1, y3.2.1, y4.1, 0, y10.1, y11.1, 0, true, y11.2.2.1, y11.2.2.2.1, y11.2.2.2.2) else some (y0.1, y1.1, y2.1, y3.1, y3.2.1, y4.1, 0, y10.1, y11.1, 0, y11.2.1, y11.2.2.1, y11.2.2.2.1, y11.2.2.2.2)))))) else (if (qt y0.1 (3 : Int)) then (match (veil (qu.f BIG y4.2.2.1 y4.2.2.2.1 y4.2.2.2.2 y4.2.1 (65535 : Int))) with | none => none | some y13 => (if y13.2.2.2.2 then some (y0.1, y1.1, y2.1, y3.1, y3.2.1, y4.1, 0, 0, 0, y13.1, true, y13.2.2.1, y13.2.2.2.1, y13.2.2.2.2) else (if (!(qR y0.1 y1.1 y2.1 y3.1 y3.2.1 y4.1 0 0 0 y13.1 ([] : LR))) then some (y0.1, y1.1, y2.1, y3.1, y3.2.1, y4.1, 0, 0, 0, y13.1, true, y13.2.2.1, y13.2.2.2.1, y13.2.2.2.2) else some (y0.1, y1.1, y2.1, y3.1, y3.2.1, y4.1, 0, 0, 0, y13.1, y13.2.1, y13.2.2.1, y13.2.2.2.1, y13.2.2.2.2)))) else (if y4.2.2.2.2 then some (y0.1, y1.1, y2.1, y3.1, y3.2.1, y4.1, 0, 0, 0, 0, true, y4.2.2.1, y4.2.2.2.1, y4.2.2.2.2) else (if (!(qR y0.1 y1.1 y2.1 y3.1 y3.2.1 y4.1 0 0 0 0 ([] : LR))) then some (y0.1, y1.1, y2.1, y3.1, y3.2.1, y4.1, 0, 0, 0, 0, true, y4.2.2.1, y4.2.2.2.1, y4.2.2.2.2) else some (y0.1, y1.1, y2.1, y3.1, y3.2.1, y4.1, 0, 0, 0, 0, y4.2.1, y4.2.2.1, y4.2.2.2.1, y4.2.2.2.2))))))) else (if (qt y0.1 (1 : Int)) then (match (veil (qu.f BIG y3.2.2.2.1 y3.2.2.2.2.1 y3.2.2.2.2.2 y3.2.2.1 (4095 : Int))) with | none => none | some y14 => (if (qt y0.1 (2 : Int)) then (match (veil (qu.f BIG y14.2.2.1 y14.2.2.2.1 y14.2.2.2.2 y14.2.1 (veil (281474976710655 : Int)))) with | none => none | some y15 => (match (veil (qu.f BIG y15.2.2.1 y15.2.2.2.1 y15.2.2.2.2 y15.2.1 (65535 : Int))) with | none => none | some y16 => (if (qt y0.1 (3 : Int)) then (match (veil (qu.f BIG y16.2.2.1 y16.2.2.2.1 y16.2.2.2.2 y16.2.1 (65535 : Int))) with | none => none | some y17 => (if y17.2.2.2.2 then some (y0.1, y1.1, y2.1, y3.1, y3.2.1, 0, y14.1, y15.1, y16.1, y17.1, true, y17.2.2.1, y17.2.2.2.1, y17.2.2.2.2) else (if (!(qR y0.1 y1.1 y2.1 y3.1 y3.2.1 0 y14.1 y15.1 y16.1 y17.1 ([] : LR))) then some (y0.1, y1.1, y2.1, y3.1, y3.2.1, 0, y14.1, y15.1, y16.1, y17.1, true, y17.2.2.1, y17.2.2.2.1, y17.2.2.2.2) else some (y0.1, y1.1, y2.1, y3.1, y3.2.1, 0, y14.1, y15.1, y16.1, y17.1, y17.2.1, y17.2.2.1, y17.2.2.2.1, y17.2.2.2.2)))) else (if y16.2.2.2.2 then some (y0.1, y1.1, y2.1, y3.1, y3.2.1, 0, y14.1, y15.1, y16.1, 0, true, y16.2.2.1, y16.2.2.2.1, y16.2.2.2.2) else (if (!(qR y0.1 y1.1 y2.1 y3.1 y3.2.1 0 y14.1 y15.1 y16.1 0 ([] : LR))) then some (y0.1, y1.1, y2.1, y3.1, y3.2.1, 0, y14.1, y15.1, y16.1, 0, true, y16.2.2.1, y16.2.2.2.1, y16.2.2.2.2) else some (y0.1, y1.1, y2.1, y3.1, y3.2.1, 0, y14.1, y15.1, y16.1, 0, y16.2.1, y16.2.2.1, y16.2.2.2.1, y16.2.2.2.2)))))) else (if (qt y0.1 (3 : Int)) then (match (veil (qu.f BIG y14.2.2.1 y14.2.2.2.1 y14.2.2.2.2 y14.2.1 (65535 : Int))) with | none => none | some y18 => (if y18.2.2.2.2 then some (y0.1, y1.1, y2.1, y3.1, y3.2.1, 0, y14.1, 0, 0, y18.1, true, y18.2.2.1, y18.2.2.2.1, y18.2.2.2.2) else (if (!(qR y0.1 y1.1 y2.1 y3.1 y3.2.1 0 y14.1 0 0 y18.1 ([] : LR))) then some (y0.1, y1.1, y2.1, y3.1, y3.2.1, 0, y14.1, 0, 0, y18.1, true, y18.2.2.1, y18.2.2.2.1, y18.2.2.2.2) else some (y0.1, y1.1, y2.1, y3.1, y3.2.1, 0, y14.1, 0, 0, y18.1, y18.2.1, y18.2.2.1, y18.2.2.2.1, y18.2.2.2.2)))) else (if y14.2.2.2.2 then some (y0.1, y1.1, y2.1, y3.1, y3.2.1, 0, y14.1, 0, 0, 0, true, y14.2.2.1, y14.2.2.2.1, y14.2.2.2.2) else (if (!(qR y0.1 y1.1 y2.1 y3.1 y3.2.1 0 y14.1 0 0 0 ([] : LR))) then some (y0.1, y1.1, y2.1, y3.1, y3.2.1, 0, y14.1, 0, 0, 0, true, y14.2.2.1, y14.2.2.2.1, y14.2.2.2.2) else some (y0.1, y1.1, y2.1, y3.1, y3.2.1, 0, y14.1, 0, 0, 0, y14.2.1, y14.2.2.1, y14.2.2.2.1, y14.2.2.2.2)))))) else (if (qt y0.1 (2 : Int)) then (match (veil (qu.f BIG y3.2.2.2.1 y3.2.2.2.2.1 y3.2.2.2.2.2 y3.2.2.1 (veil (281474976710655 : Int)))) with | none => none | some y19 => (match (veil (qu.f BIG y19.2.2.1 y19.2.2.2.1 y19.2.2.2.2 y19.2.1 (65535 : Int))) with | none => none | some y20 => (if (qt y0.1 (3 : Int)) then (match (veil (qu.f BIG y20.2.2.1 y20.2.2.2.1 y20.2.2.2.2 y20.2.1 (65535 : Int))) with | none => none | some y21 => (if y21.2.2.2.2 then some (y0.1, y1.1, y2.1, y3.1, y3.2.1, 0, 0, y19.1, y20.1, y21.1, true, y21.2.2.1, y21.2.2.2.1, y21.2.2.2.2) else (if (!(qR y0.1 y1.1 y2.1 y3.1 y3.2.1 0 0 y19.1 y20.1 y21.1 ([] : LR))) then some (y0.1, y1.1, y2.1, y3.1, y3.2.1, 0, 0, y19.1, y20.1, y21.1, true, y21.2.2.1, y21.2.2.2.1, y21.2.2.2.2) else some (y0.1, y1.1, y2.1, y3.1, y3.2.1, 0, 0, y19.1, y20.1, y21.1, y21.2.1, y21.2.2.1, y21.2.2.2.1, y21.2.2.2.2)))) else (if y20.2.2.2.2 then some (y0.1, y1.1, y2.1, y3.1, y3.2.1, 0, 0, y19.1, y20.1, 0, true, y20.2.2.1, y20.2.2.2.1, y20.2.2.2.2) else (if (!(qR y0.1 y1.1 y2.1 y3.1 y3.2.1 0 0 y19.1 y20.1 0 ([] : LR))) then some (y0.1, y1.1, y2.1, y3.1, y3.2.1, 0, 0, y19.1, y20.1, 0, true, y20.2.2.1, y20.2.2.2.1, y20.2.2.2.2) else some (y0.1, y1.1, y2.1, y3.1, y3.2.1, 0, 0, y19.1, y20.1, 0, y20.2.1, y20.2.2.1, y20.2.2.2.1, y20.2.2.2.2)))))) else (if (qt y0.1 (3 : Int)) then (match (veil (qu.f BIG y3.2.2.2.1 y3.2.2.2.2.1 y3.2.2.2.2.2 y3.2.2.1 (65535 : Int))) with | none => none | some y22 => (if y22.2.2.2.2 then some (y0.1, y1.1, y2.1, y3.1, y3.2.1, 0, 0, 0, 0, y22.1, true, y22.2.2.1, y22.2.2.2.1, y22.2.2.2.2) else (if (!(qR y0.1 y1.1 y2.1 y3.1 y3.2.1 0 0 0 0 y22.1 ([] : LR))) then some (y0.1, y1.1, y2.1, y3.1, y3.2.1, 0, 0, 0, 0, y22.1, true, y22.2.2.1, y22.2.2.2.1, y22.2.2.2.2) else some (y0.1, y1.1, y2.1, y3.1, y3.2.1, 0, 0, 0, 0, y22.1, y22.2.1, y22.2.2.1, y22.2.2.2.1, y22.2.2.2.2)))) else (if y3.2.2.2.2.2 then some (y0.1, y1.1, y2.1, y3.1, y3.2.1, 0, 0, 0, 0, 0, true, y3.2.2.2.1, y3.2.2.2.2.1, y3.2.2.2.2.2) else (if (!(qR y0.1 y1.1 y2.1 y3.1 y3.2.1 0 0 0 0 0 ([] : LR))) then some (y0.1, y1.1, y2.1, y3.1, y3.2.1, 0, 0, 0, 0, 0, true, y3.2.2.2.1, y3.2.2.2.2.1, y3.2.2.2.2.2) else some (y0.1, y1.1, y2.1, y3.1, y3.2.1, 0, 0, 0, 0, 0, y3.2.2.1, y3.2.2.2.1, y3.2.2.2.2.1, y3.2.2.2.2.2))))))))))) else none)
def zB.f (qa : Nat) (bs : List Int) (at0 : Int) (bad qP : Bool) : Option (Int × Int × Int × Int × Int × Int × Int × Int × Int × Int × Bool × (List Int) × Int × Bool) := zB.b bs at0 bad qP
theorem zB.eq (qa : Nat) (bs : List Int) (at0 : Int) (bad qP : Bool) : (denF qc7 loopN qa Tryz.f52 [.raw] [.ptr 0 0] [.box [.ptr 1 0, .d .bool qP], .box [.d (.sl (.int .u8)) bs, .d tQi at0, .d .bool bad]] zB.k) = zB.f qa bs at0 bad qP := by
 kernel_rfl
def Q4 : Den.Sum := ⟨[.pb [.frz none [0] 0 (.int .u8)]], fun qA qj κ => match qA, qj with
 | [.ptr 0 0], [.box [.ptr 1 0, .d .bool qP], .box [.d (.sl (.int .u8)) bs, .d (.int .i64) at0, .d .bool bad]] => (match veil (zB.f BIG bs at0 bad qP) with | none => none | some y => κ [.agg [.d (.int .i64) y.1, .d (.int .i64) y.2.1, .d (.int .i64) y.2.2.1, .d (.int .i64) y.2.2.2.1, .d (.int .i64) y.2.2.2.2.1, .d (.int .i64) y.2.2.2.2.2.1, .d (.int .i64) y.2.2.2.2.2.2.1, .d (.int .i64) y.2.2.2.2.2.2.2.1, .d (.int .i64) y.2.2.2.2.2.2.2.2.1, .d (.int .i64) y.2.2.2.2.2.2.2.2.2.1, .nilsl]] [.box [.ptr 1 0, .d .bool y.2.2.2.2.2.2.2.2.2.2.1], .box [.d (.sl (.int .u8)) y.2.2.2.2.2.2.2.2.2.2.2.1, .d (.int .i64) y.2.2.2.2.2.2.2.2.2.2.2.2.1, .d .bool y.2.2.2.2.2.2.2.2.2.2.2.2.2]])
 | _, _ => none⟩
theorem qee : SumDet Q4 := zi fun _ _ _ _ => by
 unfold Q4
 simp only [veil_eq]
 split
 ·split <;> rfl
 ·rfl
theorem qew : SumOk Tryz.prog 52 Q4 := by
 have hE : EnvOk Tryz.prog qc7 := env_ok (l := [(58, QI), (71, ZI), (81, zC), (24, QO), (83, Qb), (66, ZY)]) th_ok qU ⟨⟨qah, ZW⟩, ⟨qbe, qaP⟩, ⟨ZE, Zz⟩, ⟨qai, ZX⟩, ⟨qa6, qaZ⟩, ⟨qbN, qa9⟩, trivial⟩ _
 refine sum_ok hE Tryz.func52 rfl (by kernel_rfl) Q4 [.raw] zB.k ?_
 intro R avs qj κ r h
 unfold Q4 at h
 simp only [veil_eq] at h
 split at h
 ·rename_i qP bs at0 bad
  split at h
  ·cases h
  ·rename_i y hy
   refine ⟨BIG, _, _, _, (zB.eq BIG bs at0 bad qP).trans hy, ?_, h⟩
   intro rs ros hk
   unfold zB.k at hk
   split at hk
   ·rw [← sj hk]; exact ⟨rfl, rfl⟩
   ·cases hk
 ·cases h
def qbm : Env := ⟨th, gam [(81, zC), (24, QO), (66, ZY), (25, qbs)], fun i => if i = 4 then ⟨[0, 3, 4, 5], [(3, 122, (.pair tQi (.sl (.int .u8))))], []⟩ else ⟨[], [], []⟩⟩
def qD.k (rs : List AV) (os : List Den.Obj) : Option (Bool × (List Int) × Int × Bool × LF) :=
 match rs, os with
 | [.row 2], [.box [.ptr 1 0, .d .bool r0], .box [.d (.sl (.int .u8)) r1, .d (.int .i64) r2, .d .bool r3], .row 122 (.pair (.int .i64) (.sl (.int .u8))) r4 false] => some (r0, r1, r2, r3, r4)
 | _, _ => none
def qD.s4 (bs : List Int) (at0 : Int) (bad qP : Bool) (x1 x2 : Int) (x3 : Bool) (x4 : (List Int)) (x5 : Int) (x6 : Bool) (x7 : LF) : St := ⟨[.ptr 0 0, .dead, .dead, .row 64, .d tQi x1, .d tQi x2, dD, dD, dD, dD, dD, dD, dD, dD, dD, dD, dD, dD, dD, dD, dD, dD, dD, dD, dD, dD, dD, dD, dD, dD, dD, dD, dD, dD, dD, dD, dD, dD, dD, dD, dD, dD, dD, dD, dD, dD, dD, .dead], ofL [(0, .box [.ptr 1 0, .d .bool x3]), (1, .box [.d (.sl (.int .u8)) x4, .d tQi x5, .d .bool x6]), (64, .row 122 (.pair tQi (.sl (.int .u8))) x7 false)], 2⟩
def qD.p4 (qa : Nat) (bs : List Int) (at0 : Int) (bad qP : Bool) (k : Nat) := fun x1 x2 x3 x4 x5 x6 x7 => lp qbm qa Tryz.f101 [.own 122 (.pair tQi (.sl (.int .u8)))] 2 qD.k 4 [] k (qD.s4 bs at0 bad qP x1 x2 x3 x4 x5 x6 x7)
def qD.b4 (bs : List Int) (at0 : Int) (bad qP : Bool) (A4 : Int → Int → Bool → (List Int) → Int → Bool → LF → Option (Bool × (List Int) × Int × Bool × LF)) (x1 : Int) (x2 : Int) (x3 : Bool) (x4 : (List Int)) (x5 : Int) (x6 : Bool) (x7 : LF) : Option (Bool × (List Int) × Int × Bool × LF) :=
 (if (decide (x2 < x1)) then (if (!x3) then (if (zk x4 x5) then (match (veil (Option.some (ql x4 (1 : Int) x5 x6))) with | none => none | some y8 => (match (veil (qu.f BIG x4 y8.2.1 y8.2.2 x3 (4096 : Int))) with | none => none | some y9 => (if (zk y9.2.2.1 y9.2.2.2.1) then (match (veil (Option.some (qY y9.2.2.1 y9.1 y9.2.2.2.1 y9.2.2.2.2))) with | none => none | some y10 => (if y10.2.2.2 then (if ((((List.length x7) + (List.length ((y8.1, y10.1) :: ([] : LF)))) * (32 : Nat)) ≤ lim) then A4 x1 (IntKind.wrap .i64 (x2 + (1 : Int))) true y9.2.2.1 y10.2.2.1 y10.2.2.2 (x7 ++ ((y8.1, y10.1) :: ([] : LF))) else none) else (if ((((List.length x7) + (List.length ((y8.1, y10.1) :: ([] : LF)))) * (32 : Nat)) ≤ lim) then A4 x1 (IntKind.wrap .i64 (x2 + (1 : Int))) y9.2.1 y9.2.2.1 y10.2.2.1 y10.2.2.2 (x7 ++ ((y8.1, y10.1) :: ([] : LF))) else none))) else none))) else none) else some (x3, x4, x5, x6, x7)) else some (x3, x4, x5, x6, x7))
def qD.l4 (qa : Nat) (bs : List Int) (at0 : Int) (bad qP : Bool) : Nat → Int → Int → Bool → (List Int) → Int → Bool → LF → Option (Bool × (List Int) × Int × Bool × LF)
 | 0, _, _, _, _, _, _, _ => none
 | k + 1, x1, x2, x3, x4, x5, x6, x7 => qD.b4 bs at0 bad qP (qD.l4 qa bs at0 bad qP k) x1 x2 x3 x4 x5 x6 x7
def qD.b (bs : List Int) (at0 : Int) (bad qP : Bool) (E4 : Int → Int → Bool → (List Int) → Int → Bool → LF → Option (Bool × (List Int) × Int × Bool × LF)) : Option (Bool × (List Int) × Int × Bool × LF) :=
 (match (veil (qu.f BIG bs at0 bad qP (32 : Int))) with | none => none | some y0 => E4 y0.1 (0 : Int) y0.2.1 y0.2.2.1 y0.2.2.2.1 y0.2.2.2.2 ([] : LF))
def qD.f (qa : Nat) (bs : List Int) (at0 : Int) (bad qP : Bool) : Option (Bool × (List Int) × Int × Bool × LF) := qD.b bs at0 bad qP (qD.l4 qa bs at0 bad qP qa)
theorem qD.l4_eq (qa : Nat) (bs : List Int) (at0 : Int) (bad qP : Bool) : ∀ k : Nat, qD.p4 qa bs at0 bad qP k = qD.l4 qa bs at0 bad qP k
 | 0 => by kernel_rfl
 | k + 1 => by
  refine Eq.trans (b := qD.b4 bs at0 bad qP (qD.p4 qa bs at0 bad qP k)) (by kernel_rfl) ?_
  rw [qD.l4_eq qa bs at0 bad qP k]
  kernel_rfl
theorem qD.eq (qa : Nat) (bs : List Int) (at0 : Int) (bad qP : Bool) : (denF qbm loopN qa Tryz.f101 [.own 122 (.pair tQi (.sl (.int .u8)))] [.ptr 0 0] [.box [.ptr 1 0, .d .bool qP], .box [.d (.sl (.int .u8)) bs, .d tQi at0, .d .bool bad]] qD.k) = qD.f qa bs at0 bad qP := by
 refine Eq.trans (b := qD.b bs at0 bad qP (qD.p4 qa bs at0 bad qP qa)) (by kernel_rfl) ?_
 rw [qD.l4_eq qa bs at0 bad qP qa]
 kernel_rfl
def QP : Den.Sum := ⟨[.pb [.frz none [0] 0 (.int .u8)]], fun qA qj κ => match qA, qj with
 | [.ptr 0 0], [.box [.ptr 1 0, .d .bool qP], .box [.d (.sl (.int .u8)) bs, .d (.int .i64) at0, .d .bool bad]] => (match veil (qD.f BIG bs at0 bad qP) with | none => none | some y => κ [.row 2] [.box [.ptr 1 0, .d .bool y.1], .box [.d (.sl (.int .u8)) y.2.1, .d (.int .i64) y.2.2.1, .d .bool y.2.2.2.1], .row 122 (.pair (.int .i64) (.sl (.int .u8))) y.2.2.2.2 false])
 | _, _ => none⟩
theorem qd5 : SumDet QP := zi fun _ _ _ _ => by
 unfold QP
 simp only [veil_eq]
 split
 ·split <;> rfl
 ·rfl
theorem qef : SumOk Tryz.prog 101 QP := by
 have hE : EnvOk Tryz.prog qbm := env_ok (l := [(81, zC), (24, QO), (66, ZY), (25, qbs)]) th_ok qU ⟨⟨ZE, Zz⟩, ⟨qai, ZX⟩, ⟨qbN, qa9⟩, ⟨qe7, qer⟩, trivial⟩ _
 refine sum_ok hE Tryz.func101 rfl (by kernel_rfl) QP [.own 122 (.pair tQi (.sl (.int .u8)))] qD.k ?_
 intro R avs qj κ r h
 unfold QP at h
 simp only [veil_eq] at h
 split at h
 ·rename_i qP bs at0 bad
  split at h
  ·cases h
  ·rename_i y hy
   refine ⟨BIG, _, _, _, (qD.eq BIG bs at0 bad qP).trans hy, ?_, h⟩
   intro rs ros hk
   unfold qD.k at hk
   split at hk
   ·rw [← sj hk]; exact ⟨rfl, rfl⟩
   ·cases hk
 ·cases h
def qa3 : Env := ⟨th, gam [(81, zC), (99, qaj), (102, qb2), (24, QO), (83, Qb), (100, qav), (101, QP)], fun i => if i = 8 then ⟨[0, 6, 7, 8, 9, 10], [], [777777]⟩ else if i = 12 then ⟨[0, 6, 7, 8, 9, 10], [], [777777]⟩ else ⟨[], [], []⟩⟩
def qr.k (rs : List AV) (os : List Den.Obj) : Option (Int × Int × Int × Int × Int × Bool × LF × Bool × (List Int) × Int × Bool) :=
 match rs, os with
 | [.agg [.d (.int .i64) r0, .d (.int .i64) r1, .d (.int .i64) r2, .d (.int .i64) r3, .d (.int .i64) r4, .d .bool r5, .d (.sl (.pair (.int .i64) (.sl (.int .u8)))) r6]], [.box [.ptr 1 0, .d .bool r7], .box [.d (.sl (.int .u8)) r8, .d (.int .i64) r9, .d .bool r10]] => some (r0, r1, r2, r3, r4, r5, r6, r7, r8, r9, r10)
 | _, _ => none
def qr.s12 (bs : List Int) (at0 : Int) (bad qP : Bool) (qe : Int) (qc : LR) (x19 : Int) (x20 x21 : Bool) (x22 : (List Int)) (x23 : Int) (x24 : Bool) (x25 x26 x27 x28 : Int) (x29 : Bool) (x30 x31 x32 x33 x34 : Int) (x35 : Bool) (x36 : LF) : St := ⟨[.ptr 0 0, dD, dD, dD, dD, dD, .ptr 64 0, .ptr 65 0, .d tQi x19, .ptr 66 0, .d .bool x20, dD, dD, dD, dD, dD, dD, dD, dD, dD, dD, dD, dD, dD, dD, dD, dD, dD, dD, dD, dD, dD, dD, dD, dD, dD, dD, dD, dD, dD, dD, dD, dD, dD, dD, dD, dD, dD, dD, dD, dD, dD, dD, dD, dD, dD, dD, dD, dD, dD, dD, dD, dD, dD, dD, dD, dD, dD, dD, dD, dD, dD, dD, dD, dD, dD, dD, dD, dD, dD, dD, dD, dD, dD, dD, dD, dD, dD, dD, dD, dD, dD, dD, dD, dD, dD, dD, dD, dD, dD, dD, dD, dD, dD, dD, dD, dD, dD, dD, dD, dD, dD, dD, dD, dD, dD, dD, dD, dD, dD, dD, dD, .dead], ofL [(0, .box [.ptr 1 0, .d .bool x21]), (1, .box [.d (.sl (.int .u8)) x22, .d tQi x23, .d .bool x24]), (64, .box [.d tQi (0), .d tQi (0), .d tQi (0), .d tQi (0), .d tQi (0), .d .bool (false), .nilsl]), (65, .box [.d tQi x25, .d tQi (0), .d tQi x26, .d tQi x27, .d tQi x28, .d .bool x29, .nilsl]), (66, .box [.d tQi x30, .d tQi x31, .d tQi x32, .d tQi x33, .d tQi x34, .d .bool x35, .d (.sl (.pair tQi (.sl (.int .u8)))) x36])], 2⟩
def qr.p12 (qa : Nat) (bs : List Int) (at0 : Int) (bad qP : Bool) (qe : Int) (qc : LR) (k : Nat) := fun x19 x20 x21 x22 x23 x24 x25 x26 x27 x28 x29 x30 x31 x32 x33 x34 x35 x36 => lp qa3 qa Tryz.f82 [.dat tQr true] 2 qr.k 12 [] k (qr.s12 bs at0 bad qP qe qc x19 x20 x21 x22 x23 x24 x25 x26 x27 x28 x29 x30 x31 x32 x33 x34 x35 x36)
def qr.b12 (bs : List Int) (at0 : Int) (bad qP : Bool) (qe : Int) (qc : LR) (A12 : Int → Bool → Bool → (List Int) → Int → Bool → Int → Int → Int → Int → Bool → Int → Int → Int → Int → Int → Bool → LF → Option (Int × Int × Int × Int × Int × Bool × LF × Bool × (List Int) × Int × Bool)) (x19 : Int) (x20 : Bool) (x21 : Bool) (x22 : (List Int)) (x23 : Int) (x24 : Bool) (x25 : Int) (x26 : Int) (x27 : Int) (x28 : Int) (x29 : Bool) (x30 : Int) (x31 : Int) (x32 : Int) (x33 : Int) (x34 : Int) (x35 : Bool) (x36 : LF) : Option (Int × Int × Int × Int × Int × Bool × LF × Bool × (List Int) × Int × Bool) :=
 (match (veil (qu.f BIG x22 x23 x24 x21 (veil (562949953421310 : Int)))) with | none => none | some y37 => (match (veil (QF.f BIG (IntKind.wrap .u64 y37.1))) with | none => none | some y38 => (if x29 then some (x25, (IntKind.wrap .i64 (x31 + y38)), x26, x27, x28, x29, ([] : LF), y37.2.1, y37.2.2.1, y37.2.2.2.1, y37.2.2.2.2) else (if ((bits BinOp.and .i64 x19 (16 : Int)) != (0 : Int)) then some (x25, (IntKind.wrap .i64 (x31 + y38)), x26, x27, x28, x29, x36, y37.2.1, y37.2.2.1, y37.2.2.2.1, y37.2.2.2.2) else (match (veil (qD.f BIG y37.2.2.1 y37.2.2.2.1 y37.2.2.2.2 y37.2.1)) with | none => none | some y39 => (if y39.1 then some (x25, (IntKind.wrap .i64 (x31 + y38)), x26, x27, x28, x29, y39.2.2.2.2, true, y39.2.1, y39.2.2.1, y39.2.2.2.1) else (if x20 then (if ((zn y39.2.2.2.2) && (zn x36)) then some (x25, (IntKind.wrap .i64 (x31 + y38)), x26, x27, x28, x29, y39.2.2.2.2, ((Zf y39.2.2.2.2 x36) == (0 : Int)), y39.2.1, y39.2.2.1, y39.2.2.2.1) else none) else some (x25, (IntKind.wrap .i64 (x31 + y38)), x26, x27, x28, x29, y39.2.2.2.2, false, y39.2.1, y39.2.2.1, y39.2.2.2.1))))))))
def qr.l12 (qa : Nat) (bs : List Int) (at0 : Int) (bad qP : Bool) (qe : Int) (qc : LR) : Nat → Int → Bool → Bool → (List Int) → Int → Bool → Int → Int → Int → Int → Bool → Int → Int → Int → Int → Int → Bool → LF → Option (Int × Int × Int × Int × Int × Bool × LF × Bool × (List Int) × Int × Bool)
 | 0, _, _, _, _, _, _, _, _, _, _, _, _, _, _, _, _, _, _ => none
 | k + 1, x19, x20, x21, x22, x23, x24, x25, x26, x27, x28, x29, x30, x31, x32, x33, x34, x35, x36 => qr.b12 bs at0 bad qP qe qc (qr.l12 qa bs at0 bad qP qe qc k) x19 x20 x21 x22 x23 x24 x25 x26 x27 x28 x29 x30 x31 x32 x33 x34 x35 x36
def qr.s8 (bs : List Int) (at0 : Int) (bad qP : Bool) (qe : Int) (qc : LR) (x3 : Int) (x4 x5 : Bool) (x6 : (List Int)) (x7 : Int) (x8 : Bool) (x9 x10 : Int) (x11 : Bool) (x12 x13 x14 x15 x16 : Int) (x17 : Bool) (x18 : LF) : St := ⟨[.ptr 0 0, dD, dD, dD, dD, dD, .ptr 64 0, .ptr 65 0, .d tQi x3, .ptr 66 0, .d .bool x4, dD, dD, dD, dD, dD, dD, dD, dD, dD, dD, dD, dD, dD, dD, dD, dD, dD, dD, dD, dD, dD, dD, dD, dD, dD, dD, dD, dD, dD, dD, dD, dD, dD, dD, dD, dD, dD, dD, dD, dD, dD, dD, dD, dD, dD, dD, dD, dD, dD, dD, dD, dD, dD, dD, dD, dD, dD, dD, dD, dD, dD, dD, dD, dD, dD, dD, dD, dD, dD, dD, dD, dD, dD, dD, dD, dD, dD, dD, dD, dD, dD, dD, dD, dD, dD, dD, dD, dD, dD, dD, dD, dD, dD, dD, dD, dD, dD, dD, dD, dD, dD, dD, dD, dD, dD, dD, dD, dD, dD, dD, dD, .dead], ofL [(0, .box [.ptr 1 0, .d .bool x5]), (1, .box [.d (.sl (.int .u8)) x6, .d tQi x7, .d .bool x8]), (64, .box [.d tQi (0), .d tQi (0), .d tQi (0), .d tQi (0), .d tQi (0), .d .bool (false), .nilsl]), (65, .box [.d tQi x9, .d tQi (0), .d tQi x10, .d tQi (0), .d tQi (0), .d .bool x11, .nilsl]), (66, .box [.d tQi x12, .d tQi x13, .d tQi x14, .d tQi x15, .d tQi x16, .d .bool x17, .d (.sl (.pair tQi (.sl (.int .u8)))) x18])], 2⟩
def qr.p8 (qa : Nat) (bs : List Int) (at0 : Int) (bad qP : Bool) (qe : Int) (qc : LR) (k : Nat) := fun x3 x4 x5 x6 x7 x8 x9 x10 x11 x12 x13 x14 x15 x16 x17 x18 => lp qa3 qa Tryz.f82 [.dat tQr true] 2 qr.k 8 [] k (qr.s8 bs at0 bad qP qe qc x3 x4 x5 x6 x7 x8 x9 x10 x11 x12 x13 x14 x15 x16 x17 x18)
def qr.b8 (bs : List Int) (at0 : Int) (bad qP : Bool) (qe : Int) (qc : LR) (A8 : Int → Bool → Bool → (List Int) → Int → Bool → Int → Int → Bool → Int → Int → Int → Int → Int → Bool → LF → Option (Int × Int × Int × Int × Int × Bool × LF × Bool × (List Int) × Int × Bool)) (E12 : Int → Bool → Bool → (List Int) → Int → Bool → Int → Int → Int → Int → Bool → Int → Int → Int → Int → Int → Bool → LF → Option (Int × Int × Int × Int × Int × Bool × LF × Bool × (List Int) × Int × Bool)) (x3 : Int) (x4 : Bool) (x5 : Bool) (x6 : (List Int)) (x7 : Int) (x8 : Bool) (x9 : Int) (x10 : Int) (x11 : Bool) (x12 : Int) (x13 : Int) (x14 : Int) (x15 : Int) (x16 : Int) (x17 : Bool) (x18 : LF) : Option (Int × Int × Int × Int × Int × Bool × LF × Bool × (List Int) × Int × Bool) :=
 (if ((bits BinOp.and .i64 x3 (8 : Int)) != (0 : Int)) then E12 x3 x4 x5 x6 x7 x8 x9 x10 x15 x16 x11 x12 x13 x14 x15 x16 x17 x18 else (match (veil (zd.f BIG x6 x7 x8 x5)) with | none => none | some y40 => (if y40.2.2.1 then E12 x3 x4 true y40.2.2.2.1 y40.2.2.2.2.1 y40.2.2.2.2.2 x9 x10 y40.1 y40.2.1 x11 x12 x13 x14 x15 x16 x17 x18 else (if x4 then E12 x3 x4 (if (y40.1 == x15) then (if (y40.2.1 == x16) then true else false) else false) y40.2.2.2.1 y40.2.2.2.2.1 y40.2.2.2.2.2 x9 x10 y40.1 y40.2.1 x11 x12 x13 x14 x15 x16 x17 x18 else E12 x3 x4 false y40.2.2.2.1 y40.2.2.2.2.1 y40.2.2.2.2.2 x9 x10 y40.1 y40.2.1 x11 x12 x13 x14 x15 x16 x17 x18))))
def qr.l8 (qa : Nat) (bs : List Int) (at0 : Int) (bad qP : Bool) (qe : Int) (qc : LR) : Nat → Int → Bool → Bool → (List Int) → Int → Bool → Int → Int → Bool → Int → Int → Int → Int → Int → Bool → LF → Option (Int × Int × Int × Int × Int × Bool × LF × Bool × (List Int) × Int × Bool)
 | 0, _, _, _, _, _, _, _, _, _, _, _, _, _, _, _, _ => none
 | k + 1, x3, x4, x5, x6, x7, x8, x9, x10, x11, x12, x13, x14, x15, x16, x17, x18 => qr.b8 bs at0 bad qP qe qc (qr.l8 qa bs at0 bad qP qe qc k) (qr.l12 qa bs at0 bad qP qe qc qa) x3 x4 x5 x6 x7 x8 x9 x10 x11 x12 x13 x14 x15 x16 x17 x18
def qr.b (bs : List Int) (at0 : Int) (bad qP : Bool) (qe : Int) (qc : LR) (E8 : Int → Bool → Bool → (List Int) → Int → Bool → Int → Int → Bool → Int → Int → Int → Int → Int → Bool → LF → Option (Int × Int × Int × Int × Int × Bool × LF × Bool × (List Int) × Int × Bool)) : Option (Int × Int × Int × Int × Int × Bool × LF × Bool × (List Int) × Int × Bool) :=
 (match (veil (qu.f BIG bs at0 bad qP (4095 : Int))) with | none => none | some y0 => (if (zk y0.2.2.1 y0.2.2.2.1) then (match (veil (Option.some (ql y0.2.2.1 (1 : Int) y0.2.2.2.1 y0.2.2.2.2))) with | none => none | some y1 => (match (veil (ZC.f BIG qc (IntKind.wrap .i64 ((IntKind.wrap .i64 (qe + (1 : Int))) + y0.1)))) with | none => none | some y2 => (if (decide (y1.1 ≥ (32 : Int))) then some ((IntKind.wrap .i64 ((IntKind.wrap .i64 (qe + (1 : Int))) + y0.1)), 0, (bits BinOp.and .i64 y1.1 (3 : Int)), 0, 0, ((bits BinOp.and .i64 y1.1 (4 : Int)) != (0 : Int)), ([] : LF), true, y0.2.2.1, y1.2.1, y1.2.2) else (if (!y2.2.2.2.2.2.2.2) then (if (decide (y1.1 ≥ (8 : Int))) then some ((IntKind.wrap .i64 ((IntKind.wrap .i64 (qe + (1 : Int))) + y0.1)), 0, (bits BinOp.and .i64 y1.1 (3 : Int)), 0, 0, ((bits BinOp.and .i64 y1.1 (4 : Int)) != (0 : Int)), ([] : LF), true, y0.2.2.1, y1.2.1, y1.2.2) else (if ((bits BinOp.and .i64 y1.1 (4 : Int)) != (0 : Int)) then (if (decide (y1.1 ≥ (16 : Int))) then some ((IntKind.wrap .i64 ((IntKind.wrap .i64 (qe + (1 : Int))) + y0.1)), 0, (bits BinOp.and .i64 y1.1 (3 : Int)), 0, 0, ((bits BinOp.and .i64 y1.1 (4 : Int)) != (0 : Int)), ([] : LF), true, y0.2.2.1, y1.2.1, y1.2.2) else E8 y1.1 y2.2.2.2.2.2.2.2 y0.2.1 y0.2.2.1 y1.2.1 y1.2.2 (IntKind.wrap .i64 ((IntKind.wrap .i64 (qe + (1 : Int))) + y0.1)) (bits BinOp.and .i64 y1.1 (3 : Int)) ((bits BinOp.and .i64 y1.1 (4 : Int)) != (0 : Int)) y2.1 y2.2.1 y2.2.2.1 y2.2.2.2.1 y2.2.2.2.2.1 y2.2.2.2.2.2.1 y2.2.2.2.2.2.2.1) else E8 y1.1 y2.2.2.2.2.2.2.2 y0.2.1 y0.2.2.1 y1.2.1 y1.2.2 (IntKind.wrap .i64 ((IntKind.wrap .i64 (qe + (1 : Int))) + y0.1)) (bits BinOp.and .i64 y1.1 (3 : Int)) ((bits BinOp.and .i64 y1.1 (4 : Int)) != (0 : Int)) y2.1 y2.2.1 y2.2.2.1 y2.2.2.2.1 y2.2.2.2.2.1 y2.2.2.2.2.2.1 y2.2.2.2.2.2.2.1)) else (if ((bits BinOp.and .i64 y1.1 (4 : Int)) != (0 : Int)) then (if (decide (y1.1 ≥ (16 : Int))) then some ((IntKind.wrap .i64 ((IntKind.wrap .i64 (qe + (1 : Int))) + y0.1)), 0, (bits BinOp.and .i64 y1.1 (3 : Int)), 0, 0, ((bits BinOp.and .i64 y1.1 (4 : Int)) != (0 : Int)), ([] : LF), true, y0.2.2.1, y1.2.1, y1.2.2) else E8 y1.1 y2.2.2.2.2.2.2.2 y0.2.1 y0.2.2.1 y1.2.1 y1.2.2 (IntKind.wrap .i64 ((IntKind.wrap .i64 (qe + (1 : Int))) + y0.1)) (bits BinOp.and .i64 y1.1 (3 : Int)) ((bits BinOp.and .i64 y1.1 (4 : Int)) != (0 : Int)) y2.1 y2.2.1 y2.2.2.1 y2.2.2.2.1 y2.2.2.2.2.1 y2.2.2.2.2.2.1 y2.2.2.2.2.2.2.1) else E8 y1.1 y2.2.2.2.2.2.2.2 y0.2.1 y0.2.2.1 y1.2.1 y1.2.2 (IntKind.wrap .i64 ((IntKind.wrap .i64 (qe + (1 : Int))) + y0.1)) (bits BinOp.and .i64 y1.1 (3 : Int)) ((bits BinOp.and .i64 y1.1 (4 : Int)) != (0 : Int)) y2.1 y2.2.1 y2.2.2.1 y2.2.2.2.1 y2.2.2.2.2.1 y2.2.2.2.2.2.1 y2.2.2.2.2.2.2.1))))) else none))
def qr.f (qa : Nat) (bs : List Int) (at0 : Int) (bad qP : Bool) (qe : Int) (qc : LR) : Option (Int × Int × Int × Int × Int × Bool × LF × Bool × (List Int) × Int × Bool) := qr.b bs at0 bad qP qe qc (qr.l8 qa bs at0 bad qP qe qc qa)
theorem qr.l12_eq (qa : Nat) (bs : List Int) (at0 : Int) (bad qP : Bool) (qe : Int) (qc : LR) : ∀ k : Nat, qr.p12 qa bs at0 bad qP qe qc k = qr.l12 qa bs at0 bad qP qe qc k
 | 0 => by kernel_rfl
 | k + 1 => by
  refine Eq.trans (b := qr.b12 bs at0 bad qP qe qc (qr.p12 qa bs at0 bad qP qe qc k)) (by kernel_rfl) ?_
  rw [qr.l12_eq qa bs at0 bad qP qe qc k]
  kernel_rfl
theorem qr.l8_eq (qa : Nat) (bs : List Int) (at0 : Int) (bad qP : Bool) (qe : Int) (qc : LR) : ∀ k : Nat, qr.p8 qa bs at0 bad qP qe qc k = qr.l8 qa bs at0 bad qP qe qc k
 | 0 => by kernel_rfl
 | k + 1 => by
  refine Eq.trans (b := qr.b8 bs at0 bad qP qe qc (qr.p8 qa bs at0 bad qP qe qc k) (qr.p12 qa bs at0 bad qP qe qc qa)) (by kernel_rfl) ?_
  rw [qr.l8_eq qa bs at0 bad qP qe qc k, qr.l12_eq qa bs at0 bad qP qe qc qa]
  kernel_rfl
theorem qr.eq (qa : Nat) (bs : List Int) (at0 : Int) (bad qP : Bool) (qe : Int) (qc : LR) : (denF qa3 loopN qa Tryz.f82 [.dat tQr true] [.ptr 0 0, .d tQi qe, .d (.sl tQr) qc] [.box [.ptr 1 0, .d .bool qP], .box [.d (.sl (.int .u8)) bs, .d tQi at0, .d .bool bad]] qr.k) = qr.f qa bs at0 bad qP qe qc := by
 refine Eq.trans (b := qr.b bs at0 bad qP qe qc (qr.p8 qa bs at0 bad qP qe qc qa)) (by kernel_rfl) ?_
 rw [qr.l8_eq qa bs at0 bad qP qe qc qa]
 kernel_rfl
theorem qr.l12_at (qa nN kK : Nat) (hN : nN = kK + 1) (bs : List Int) (at0 : Int) (bad : Bool) (qP : Bool) (qe : Int) (qc : LR) (x19 : Int) (x20 : Bool) (x21 : Bool) (x22 : (List Int)) (x23 : Int) (x24 : Bool) (x25 : Int) (x26 : Int) (x27 : Int) (x28 : Int) (x29 : Bool) (x30 : Int) (x31 : Int) (x32 : Int) (x33 : Int) (x34 : Int) (x35 : Bool) (x36 : LF) : qr.l12 qa bs at0 bad qP qe qc nN x19 x20 x21 x22 x23 x24 x25 x26 x27 x28 x29 x30 x31 x32 x33 x34 x35 x36 = qr.b12 bs at0 bad qP qe qc (qr.l12 qa bs at0 bad qP qe qc kK) x19 x20 x21 x22 x23 x24 x25 x26 x27 x28 x29 x30 x31 x32 x33 x34 x35 x36 := by
 subst hN
 rfl
theorem qr.l8_at (qa nN kK : Nat) (hN : nN = kK + 1) (bs : List Int) (at0 : Int) (bad : Bool) (qP : Bool) (qe : Int) (qc : LR) (x3 : Int) (x4 : Bool) (x5 : Bool) (x6 : (List Int)) (x7 : Int) (x8 : Bool) (x9 : Int) (x10 : Int) (x11 : Bool) (x12 : Int) (x13 : Int) (x14 : Int) (x15 : Int) (x16 : Int) (x17 : Bool) (x18 : LF) : qr.l8 qa bs at0 bad qP qe qc nN x3 x4 x5 x6 x7 x8 x9 x10 x11 x12 x13 x14 x15 x16 x17 x18 = qr.b8 bs at0 bad qP qe qc (qr.l8 qa bs at0 bad qP qe qc kK) (qr.l12 qa bs at0 bad qP qe qc qa) x3 x4 x5 x6 x7 x8 x9 x10 x11 x12 x13 x14 x15 x16 x17 x18 := by
 subst hN
 rfl
def Zp : Den.Sum := ⟨[.pb [.frz none [0] 0 (.int .u8)], .raw, .dat (.sl tQr) false], fun qA qj κ => match qA, qj with
 | [.ptr 0 0, .d (.int .i64) qe, .d (.sl (.pair (.int .i64) (.pair (.int .i64) (.pair (.int .i64) (.pair (.pair (.int .i64) (.int .i64)) (.pair .bool (.sl (.pair (.int .i64) (.sl (.int .u8)))))))))) qc], [.box [.ptr 1 0, .d .bool qP], .box [.d (.sl (.int .u8)) bs, .d (.int .i64) at0, .d .bool bad]] => (match veil (qr.f BIG bs at0 bad qP qe qc) with | none => none | some y => κ [.agg [.d (.int .i64) y.1, .d (.int .i64) y.2.1, .d (.int .i64) y.2.2.1, .d (.int .i64) y.2.2.2.1, .d (.int .i64) y.2.2.2.2.1, .d .bool y.2.2.2.2.2.1, .d (.sl (.pair (.int .i64) (.sl (.int .u8)))) y.2.2.2.2.2.2.1]] [.box [.ptr 1 0, .d .bool y.2.2.2.2.2.2.2.1], .box [.d (.sl (.int .u8)) y.2.2.2.2.2.2.2.2.1, .d (.int .i64) y.2.2.2.2.2.2.2.2.2.1, .d .bool y.2.2.2.2.2.2.2.2.2.2]])
 | _, _ => none⟩
theorem qeT : SumDet Zp := zi fun _ _ _ _ => by
 unfold Zp
 simp only [veil_eq]
 split
 ·split <;> rfl
 ·rfl
theorem qfe : SumOk Tryz.prog 82 Zp := by
 have hE : EnvOk Tryz.prog qa3 := env_ok (l := [(81, zC), (99, qaj), (102, qb2), (24, QO), (83, Qb), (100, qav), (101, QP)]) th_ok qU ⟨⟨ZE, Zz⟩, ⟨qfG, qeQ⟩, ⟨qhV, qgS⟩, ⟨qai, ZX⟩, ⟨qa6, qaZ⟩, ⟨qhF, qg8⟩, ⟨qef, qd5⟩, trivial⟩ _
 refine sum_ok hE Tryz.func82 rfl (by kernel_rfl) Zp [.dat tQr true] qr.k ?_
 intro R avs qj κ r h
 unfold Zp at h
 simp only [veil_eq] at h
 split at h
 ·rename_i qe qc qP bs at0 bad
  split at h
  ·cases h
  ·rename_i y hy
   refine ⟨BIG, _, _, _, (qr.eq BIG bs at0 bad qP qe qc).trans hy, ?_, h⟩
   intro rs ros hk
   unfold qr.k at hk
   split at hk
   ·rw [← sj hk]; exact ⟨rfl, rfl⟩
   ·cases hk
 ·cases h
def qdE : Env := ⟨th, gam [(58, QI), (79, qax), (71, ZI), (23, Z1), (52, Q4), (81, zC), (82, Zp), (68, qbL)], fun i => if i = 11 then ⟨[0, 1, 4, 6, 7, 8, 9, 10], [(1458, 115, tQr), (1, 114, tQr)], [1]⟩ else ⟨[], [], []⟩⟩
def q0.k (rs : List AV) (os : List Den.Obj) : Option (Int × Int × Int × Int × Int × Int × Int × Int × Int × Int × LR × Int) :=
 match rs, os with
 | [.agg [.d (.int .i64) r0, .d (.int .i64) r1, .d (.int .i64) r2, .d (.int .i64) r3, .d (.int .i64) r4, .d (.int .i64) r5, .d (.int .i64) r6, .d (.int .i64) r7, .d (.int .i64) r8, .d (.int .i64) r9, .d (.sl (.pair (.int .i64) (.pair (.int .i64) (.pair (.int .i64) (.pair (.pair (.int .i64) (.int .i64)) (.pair .bool (.sl (.pair (.int .i64) (.sl (.int .u8)))))))))) r10], .d (.int .i64) r11], [] => some (r0, r1, r2, r3, r4, r5, r6, r7, r8, r9, r10, r11)
 | _, _ => none
def q0.s11 (b : List Int) (qc x2 : LR) (x3 x4 x5 : Int) (x6 : Bool) (x7 : (List Int)) (x8 : Int) (x9 : Bool) (x10 x11 x12 x13 x14 x15 x16 x17 x18 x19 : Int) (x20 : LR) : St := ⟨[.d (.sl (.int .u8)) (b), .d (.sl tQr) x2, .dead, .dead, .ptr 64 0, .dead, .ptr 65 0, .ptr 67 0, .d tQi x3, .d tQi x4, .d tQi x5, dD, dD, dD, dD, dD, dD, dD, dD, dD, dD, dD, dD, dD, dD, dD, dD, dD, dD, dD, dD, dD, dD, dD, dD, dD, dD, dD, dD, dD, dD, dD, dD, dD, dD, dD, dD, dD, dD, dD, dD, dD, dD, dD, dD, dD, dD, dD, dD, dD, dD, dD, dD, dD, dD, dD, dD, dD, dD, dD, dD, dD, dD, dD, dD, dD, dD, .dead], ofL [(64, .box [.d tQi (0), .d tQi (0), .d tQi (0), .d tQi (0), .d tQi (0), .d tQi (0), .d tQi (0), .d tQi (0), .d tQi (0), .d tQi (0), .nilsl]), (65, .box [.ptr 66 0, .d .bool x6]), (66, .box [.d (.sl (.int .u8)) x7, .d tQi x8, .d .bool x9]), (67, .box [.d tQi x10, .d tQi x11, .d tQi x12, .d tQi x13, .d tQi x14, .d tQi x15, .d tQi x16, .d tQi x17, .d tQi x18, .d tQi x19, .row 68]), (68, .row 115 tQr x20 false)], 0⟩
def q0.p11 (qa : Nat) (b : List Int) (qc : LR) (k : Nat) := fun x2 x3 x4 x5 x6 x7 x8 x9 x10 x11 x12 x13 x14 x15 x16 x17 x18 x19 x20 => lp qdE qa Tryz.f49 [.dat (.pair tQi (.pair tQi (.pair tQi (.pair (.pair tQi tQi) (.pair tQi (.pair tQi (.pair tQi (.pair tQi (.pair tQi (.sl tQr)))))))))) true, .raw] 0 q0.k 11 [] k (q0.s11 b qc x2 x3 x4 x5 x6 x7 x8 x9 x10 x11 x12 x13 x14 x15 x16 x17 x18 x19 x20)
def q0.b11 (b : List Int) (qc : LR) (A11 : LR → Int → Int → Int → Bool → (List Int) → Int → Bool → Int → Int → Int → Int → Int → Int → Int → Int → Int → Int → LR → Option (Int × Int × Int × Int × Int × Int × Int × Int × Int × Int × LR × Int)) (x2 : LR) (x3 : Int) (x4 : Int) (x5 : Int) (x6 : Bool) (x7 : (List Int)) (x8 : Int) (x9 : Bool) (x10 : Int) (x11 : Int) (x12 : Int) (x13 : Int) (x14 : Int) (x15 : Int) (x16 : Int) (x17 : Int) (x18 : Int) (x19 : Int) (x20 : LR) : Option (Int × Int × Int × Int × Int × Int × Int × Int × Int × Int × LR × Int) :=
 (if (decide (x5 < x3)) then (if (!x6) then (match (veil (qr.f BIG x7 x8 x9 x6 x4 x2)) with | none => none | some y21 => (if ((((List.length x20) + (List.length ((y21.1, (y21.2.1, (y21.2.2.1, ((y21.2.2.2.1, y21.2.2.2.2.1), (y21.2.2.2.2.2.1, y21.2.2.2.2.2.2.1))))) :: ([] : LR)))) * (72 : Nat)) ≤ lim) then A11 x2 x3 y21.1 (IntKind.wrap .i64 (x5 + (1 : Int))) y21.2.2.2.2.2.2.2.1 y21.2.2.2.2.2.2.2.2.1 y21.2.2.2.2.2.2.2.2.2.1 y21.2.2.2.2.2.2.2.2.2.2 x10 x11 x12 x13 x14 x15 x16 x17 x18 x19 (x20 ++ ((y21.1, (y21.2.1, (y21.2.2.1, ((y21.2.2.2.1, y21.2.2.2.2.1), (y21.2.2.2.2.2.1, y21.2.2.2.2.2.2.1))))) :: ([] : LR))) else none)) else (if x6 then some (0, 0, 0, 0, 0, 0, 0, 0, 0, 0, ([] : LR), (4 : Int)) else (if (zk x7 x8) then (if (!((!x9) && ((Zm x7 x8 x9) == (0 : Int)))) then some (0, 0, 0, 0, 0, 0, 0, 0, 0, 0, ([] : LR), (4 : Int)) else (if (decide (((((List.length b)) : Nat) : Int) > (65499 : Int))) then some (0, 0, 0, 0, 0, 0, 0, 0, 0, 0, ([] : LR), (4 : Int)) else (if (za x20) then (if (!(qR x10 x11 x12 x13 x14 x15 x16 x17 x18 x19 x20)) then some (0, 0, 0, 0, 0, 0, 0, 0, 0, 0, ([] : LR), (4 : Int)) else some (x10, x11, x12, x13, x14, x15, x16, x17, x18, x19, x20, (0 : Int))) else none))) else none))) else (if x6 then some (0, 0, 0, 0, 0, 0, 0, 0, 0, 0, ([] : LR), (4 : Int)) else (if (zk x7 x8) then (if (!((!x9) && ((Zm x7 x8 x9) == (0 : Int)))) then some (0, 0, 0, 0, 0, 0, 0, 0, 0, 0, ([] : LR), (4 : Int)) else (if (decide (((((List.length b)) : Nat) : Int) > (65499 : Int))) then some (0, 0, 0, 0, 0, 0, 0, 0, 0, 0, ([] : LR), (4 : Int)) else (if (za x20) then (if (!(qR x10 x11 x12 x13 x14 x15 x16 x17 x18 x19 x20)) then some (0, 0, 0, 0, 0, 0, 0, 0, 0, 0, ([] : LR), (4 : Int)) else some (x10, x11, x12, x13, x14, x15, x16, x17, x18, x19, x20, (0 : Int))) else none))) else none)))
def q0.l11 (qa : Nat) (b : List Int) (qc : LR) : Nat → LR → Int → Int → Int → Bool → (List Int) → Int → Bool → Int → Int → Int → Int → Int → Int → Int → Int → Int → Int → LR → Option (Int × Int × Int × Int × Int × Int × Int × Int × Int × Int × LR × Int)
 | 0, _, _, _, _, _, _, _, _, _, _, _, _, _, _, _, _, _, _, _ => none
 | k + 1, x2, x3, x4, x5, x6, x7, x8, x9, x10, x11, x12, x13, x14, x15, x16, x17, x18, x19, x20 => q0.b11 b qc (q0.l11 qa b qc k) x2 x3 x4 x5 x6 x7 x8 x9 x10 x11 x12 x13 x14 x15 x16 x17 x18 x19 x20
def q0.b (b : List Int) (qc : LR) (E11 : LR → Int → Int → Int → Bool → (List Int) → Int → Bool → Int → Int → Int → Int → Int → Int → Int → Int → Int → Int → LR → Option (Int × Int × Int × Int × Int × Int × Int × Int × Int × Int × LR × Int)) : Option (Int × Int × Int × Int × Int × Int × Int × Int × Int × Int × LR × Int) :=
 (if (za qc) then (if (!(QC qc)) then some (0, 0, 0, 0, 0, 0, 0, 0, 0, 0, ([] : LR), (1 : Int)) else (if (inB b) then (match (veil (zB.f BIG b 0 false false)) with | none => none | some y0 => (if (y0.2.2.2.2.2.2.2.2.2.1 == (0 : Int)) then (if (qt y0.1 (4 : Int)) then (match (veil (qu.f BIG y0.2.2.2.2.2.2.2.2.2.2.2.1 y0.2.2.2.2.2.2.2.2.2.2.2.2.1 y0.2.2.2.2.2.2.2.2.2.2.2.2.2 y0.2.2.2.2.2.2.2.2.2.2.1 (255 : Int))) with | none => none | some y1 => E11 ([] : LR) y1.1 (-(1 : Int)) (0 : Int) y1.2.1 y1.2.2.1 y1.2.2.2.1 y1.2.2.2.2 y0.1 y0.2.1 y0.2.2.1 y0.2.2.2.1 y0.2.2.2.2.1 y0.2.2.2.2.2.1 y0.2.2.2.2.2.2.1 y0.2.2.2.2.2.2.2.1 y0.2.2.2.2.2.2.2.2.1 y0.2.2.2.2.2.2.2.2.2.1 ([] : LR)) else (if y0.2.2.2.2.2.2.2.2.2.2.1 then some (0, 0, 0, 0, 0, 0, 0, 0, 0, 0, ([] : LR), (4 : Int)) else (if (zk y0.2.2.2.2.2.2.2.2.2.2.2.1 y0.2.2.2.2.2.2.2.2.2.2.2.2.1) then (if (!((!y0.2.2.2.2.2.2.2.2.2.2.2.2.2) && ((Zm y0.2.2.2.2.2.2.2.2.2.2.2.1 y0.2.2.2.2.2.2.2.2.2.2.2.2.1 y0.2.2.2.2.2.2.2.2.2.2.2.2.2) == (0 : Int)))) then some (0, 0, 0, 0, 0, 0, 0, 0, 0, 0, ([] : LR), (4 : Int)) else (if (decide (((((List.length b)) : Nat) : Int) > (65499 : Int))) then some (0, 0, 0, 0, 0, 0, 0, 0, 0, 0, ([] : LR), (4 : Int)) else (if (!(qR y0.1 y0.2.1 y0.2.2.1 y0.2.2.2.1 y0.2.2.2.2.1 y0.2.2.2.2.2.1 y0.2.2.2.2.2.2.1 y0.2.2.2.2.2.2.2.1 y0.2.2.2.2.2.2.2.2.1 y0.2.2.2.2.2.2.2.2.2.1 ([] : LR))) then some (0, 0, 0, 0, 0, 0, 0, 0, 0, 0, ([] : LR), (4 : Int)) else some (y0.1, y0.2.1, y0.2.2.1, y0.2.2.2.1, y0.2.2.2.2.1, y0.2.2.2.2.2.1, y0.2.2.2.2.2.2.1, y0.2.2.2.2.2.2.2.1, y0.2.2.2.2.2.2.2.2.1, y0.2.2.2.2.2.2.2.2.2.1, ([] : LR), (0 : Int))))) else none))) else (if (qt y0.1 (4 : Int)) then (match (veil (qu.f BIG y0.2.2.2.2.2.2.2.2.2.2.2.1 y0.2.2.2.2.2.2.2.2.2.2.2.2.1 y0.2.2.2.2.2.2.2.2.2.2.2.2.2 y0.2.2.2.2.2.2.2.2.2.2.1 (255 : Int))) with | none => none | some y22 => E11 qc y22.1 (-(1 : Int)) (0 : Int) y22.2.1 y22.2.2.1 y22.2.2.2.1 y22.2.2.2.2 y0.1 y0.2.1 y0.2.2.1 y0.2.2.2.1 y0.2.2.2.2.1 y0.2.2.2.2.2.1 y0.2.2.2.2.2.2.1 y0.2.2.2.2.2.2.2.1 y0.2.2.2.2.2.2.2.2.1 y0.2.2.2.2.2.2.2.2.2.1 ([] : LR)) else (if y0.2.2.2.2.2.2.2.2.2.2.1 then some (0, 0, 0, 0, 0, 0, 0, 0, 0, 0, ([] : LR), (4 : Int)) else (if (zk y0.2.2.2.2.2.2.2.2.2.2.2.1 y0.2.2.2.2.2.2.2.2.2.2.2.2.1) then (if (!((!y0.2.2.2.2.2.2.2.2.2.2.2.2.2) && ((Zm y0.2.2.2.2.2.2.2.2.2.2.2.1 y0.2.2.2.2.2.2.2.2.2.2.2.2.1 y0.2.2.2.2.2.2.2.2.2.2.2.2.2) == (0 : Int)))) then some (0, 0, 0, 0, 0, 0, 0, 0, 0, 0, ([] : LR), (4 : Int)) else (if (decide (((((List.length b)) : Nat) : Int) > (65499 : Int))) then some (0, 0, 0, 0, 0, 0, 0, 0, 0, 0, ([] : LR), (4 : Int)) else (if (!(qR y0.1 y0.2.1 y0.2.2.1 y0.2.2.2.1 y0.2.2.2.2.1 y0.2.2.2.2.2.1 y0.2.2.2.2.2.2.1 y0.2.2.2.2.2.2.2.1 y0.2.2.2.2.2.2.2.2.1 y0.2.2.2.2.2.2.2.2.2.1 ([] : LR))) then some (0, 0, 0, 0, 0, 0, 0, 0, 0, 0, ([] : LR), (4 : Int)) else some (y0.1, y0.2.1, y0.2.2.1, y0.2.2.2.1, y0.2.2.2.2.1, y0.2.2.2.2.2.1, y0.2.2.2.2.2.2.1, y0.2.2.2.2.2.2.2.1, y0.2.2.2.2.2.2.2.2.1, y0.2.2.2.2.2.2.2.2.2.1, ([] : LR), (0 : Int))))) else none))))) else none)) else none)
def q0.f (qa : Nat) (b : List Int) (qc : LR) : Option (Int × Int × Int × Int × Int × Int × Int × Int × Int × Int × LR × Int) := q0.b b qc (q0.l11 qa b qc qa)
theorem q0.l11_eq (qa : Nat) (b : List Int) (qc : LR) : ∀ k : Nat, q0.p11 qa b qc k = q0.l11 qa b qc k
 | 0 => by kernel_rfl
 | k + 1 => by
  refine Eq.trans (b := q0.b11 b qc (q0.p11 qa b qc k)) (by kernel_rfl) ?_
  rw [q0.l11_eq qa b qc k]
  kernel_rfl
theorem q0.eq (qa : Nat) (b : List Int) (qc : LR) : (denF qdE loopN qa Tryz.f49 [.dat (.pair tQi (.pair tQi (.pair tQi (.pair (.pair tQi tQi) (.pair tQi (.pair tQi (.pair tQi (.pair tQi (.pair tQi (.sl tQr)))))))))) true, .raw] [.d (.sl (.int .u8)) b, .d (.sl tQr) qc] [] q0.k) = q0.f qa b qc := by
 refine Eq.trans (b := q0.b b qc (q0.p11 qa b qc qa)) (by kernel_rfl) ?_
 rw [q0.l11_eq qa b qc qa]
 kernel_rfl
def QX : Den.Sum := ⟨[.dat (.sl (.int .u8)) false, .dat (.sl tQr) false], fun qA qj κ => match qA, qj with
 | [.d (.sl (.int .u8)) b, .d (.sl (.pair (.int .i64) (.pair (.int .i64) (.pair (.int .i64) (.pair (.pair (.int .i64) (.int .i64)) (.pair .bool (.sl (.pair (.int .i64) (.sl (.int .u8)))))))))) qc], [] => (match veil (q0.f BIG b qc) with | none => none | some y => κ [.agg [.d (.int .i64) y.1, .d (.int .i64) y.2.1, .d (.int .i64) y.2.2.1, .d (.int .i64) y.2.2.2.1, .d (.int .i64) y.2.2.2.2.1, .d (.int .i64) y.2.2.2.2.2.1, .d (.int .i64) y.2.2.2.2.2.2.1, .d (.int .i64) y.2.2.2.2.2.2.2.1, .d (.int .i64) y.2.2.2.2.2.2.2.2.1, .d (.int .i64) y.2.2.2.2.2.2.2.2.2.1, .d (.sl (.pair (.int .i64) (.pair (.int .i64) (.pair (.int .i64) (.pair (.pair (.int .i64) (.int .i64)) (.pair .bool (.sl (.pair (.int .i64) (.sl (.int .u8)))))))))) y.2.2.2.2.2.2.2.2.2.2.1], .d (.int .i64) y.2.2.2.2.2.2.2.2.2.2.2] [])
 | _, _ => none⟩
theorem qcb : SumDet QX := zi fun _ _ _ _ => by
 unfold QX
 simp only [veil_eq]
 split
 ·split <;> rfl
 ·rfl
theorem qcs : SumOk Tryz.prog 49 QX := by
 have hE : EnvOk Tryz.prog qdE := env_ok (l := [(58, QI), (79, qax), (71, ZI), (23, Z1), (52, Q4), (81, zC), (82, Zp), (68, qbL)]) th_ok qU ⟨⟨qah, ZW⟩, ⟨qes, qdY⟩, ⟨qbe, qaP⟩, ⟨qcx, qbW⟩, ⟨qew, qee⟩, ⟨ZE, Zz⟩, ⟨qfe, qeT⟩, ⟨qf4, qfg⟩, trivial⟩ _
 refine sum_ok hE Tryz.func49 rfl (by kernel_rfl) QX [.dat (.pair tQi (.pair tQi (.pair tQi (.pair (.pair tQi tQi) (.pair tQi (.pair tQi (.pair tQi (.pair tQi (.pair tQi (.sl tQr)))))))))) true, .raw] q0.k ?_
 intro R avs qj κ r h
 unfold QX at h
 simp only [veil_eq] at h
 split at h
 ·rename_i b qc
  split at h
  ·cases h
  ·rename_i y hy
   refine ⟨BIG, _, _, _, (q0.eq BIG b qc).trans hy, ?_, h⟩
   intro rs ros hk
   unfold q0.k at hk
   split at hk
   ·rw [← sj hk]; exact ⟨rfl, rfl⟩
   ·cases hk
 ·cases h
def qhv : Env := ⟨th, gam [(48, QW), (49, QX), (40, QV), (42, QU), (44, QT), (46, QS)], fun i => ⟨[], [], []⟩⟩
def qbV : Den.Sum := inl qhv BIG Tryz.f21 [.raw] [.raw, .raw]
theorem qeJ : EnvOk Tryz.prog qhv := env_ok (l := [(48, QW), (49, QX), (40, QV), (42, QU), (44, QT), (46, QS)]) th_ok qU ⟨⟨qcr, qca⟩, ⟨qcs, qcb⟩, ⟨qcp, qb9⟩, ⟨qco, qb8⟩, ⟨qcn, qb7⟩, ⟨qcm, qb6⟩, trivial⟩ _
theorem qeO : SumDet qbV := inl_det qeJ.D _ _ _ _
theorem qfF : SumOk Tryz.prog 21 qbV := inl_ok qeJ Tryz.func21 rfl (by kernel_rfl) _ _ _
def qeK : Env := ⟨th, gam [(48, QW), (49, QX), (21, qbV), (40, QV), (42, QU), (44, QT), (46, QS)], fun i => ⟨[], [], []⟩⟩
def zE.k (rs : List AV) (os : List Den.Obj) : Option ((List Int) × Int) :=
 match rs, os with
 | [.d (.sl (.int .u8)) r0, .d (.int .i64) r1], [] => some (r0, r1)
 | _, _ => none
def zE.b (gen qC q9 zh qH qI zg qM qZ qS qV : Int) (qx qc : LR) : Option ((List Int) × Int) :=
 (if (gen == (1 : Int)) then (match (veil (Q3.f BIG qC q9 zh qH qI zg qM qZ qS qV qx qc)) with | none => none | some y0 => some (y0.1, y0.2)) else (if (gen == (2 : Int)) then (match (veil (Q1.f BIG qC q9 zh qH qI zg qM qZ qS qV qx qc)) with | none => none | some y1 => some (y1.1, y1.2)) else (if (gen == (3 : Int)) then (match (veil (QK.f BIG qC q9 zh qH qI zg qM qZ qS qV qx qc)) with | none => none | some y2 => some (y2.1, y2.2)) else some (([] : List Int), (5 : Int)))))
def zE.f (qa : Nat) (gen qC q9 zh qH qI zg qM qZ qS qV : Int) (qx qc : LR) : Option ((List Int) × Int) := zE.b gen qC q9 zh qH qI zg qM qZ qS qV qx qc
theorem zE.eq (qa : Nat) (gen qC q9 zh qH qI zg qM qZ qS qV : Int) (qx qc : LR) : (denF qeK loopN qa Tryz.f14 [.dat (.sl (.int .u8)) false, .raw] [.d tQi gen, .agg [.d tQi qC, .d tQi q9, .d tQi zh, .d tQi qH, .d tQi qI, .d tQi zg, .d tQi qM, .d tQi qZ, .d tQi qS, .d tQi qV, .d (.sl tQr) qx], .d (.sl tQr) qc] [] zE.k) = zE.f qa gen qC q9 zh qH qI zg qM qZ qS qV qx qc := by
 kernel_rfl
def ZS : Den.Sum := ⟨[.raw, .dat (.pair tQi (.pair tQi (.pair tQi (.pair (.pair tQi tQi) (.pair tQi (.pair tQi (.pair tQi (.pair tQi (.pair tQi (.sl tQr)))))))))) true, .dat (.sl tQr) false], fun qA qj κ => match qA, qj with
 | [.d (.int .i64) gen, .agg [.d (.int .i64) qC, .d (.int .i64) q9, .d (.int .i64) zh, .d (.int .i64) qH, .d (.int .i64) qI, .d (.int .i64) zg, .d (.int .i64) qM, .d (.int .i64) qZ, .d (.int .i64) qS, .d (.int .i64) qV, .d (.sl (.pair (.int .i64) (.pair (.int .i64) (.pair (.int .i64) (.pair (.pair (.int .i64) (.int .i64)) (.pair .bool (.sl (.pair (.int .i64) (.sl (.int .u8)))))))))) qx], .d (.sl (.pair (.int .i64) (.pair (.int .i64) (.pair (.int .i64) (.pair (.pair (.int .i64) (.int .i64)) (.pair .bool (.sl (.pair (.int .i64) (.sl (.int .u8)))))))))) qc], [] => (match veil (zE.f BIG gen qC q9 zh qH qI zg qM qZ qS qV qx qc) with | none => none | some y => κ [.d (.sl (.int .u8)) y.1, .d (.int .i64) y.2] [])
 | _, _ => none⟩
theorem qfY : SumDet ZS := zi fun _ _ _ _ => by
 unfold ZS
 simp only [veil_eq]
 split
 ·split <;> rfl
 ·rfl
theorem qgB : SumOk Tryz.prog 14 ZS := by
 have hE : EnvOk Tryz.prog qeK := env_ok (l := [(48, QW), (49, QX), (21, qbV), (40, QV), (42, QU), (44, QT), (46, QS)]) th_ok qU ⟨⟨qcr, qca⟩, ⟨qcs, qcb⟩, ⟨qfF, qeO⟩, ⟨qcp, qb9⟩, ⟨qco, qb8⟩, ⟨qcn, qb7⟩, ⟨qcm, qb6⟩, trivial⟩ _
 refine sum_ok hE Tryz.func14 rfl (by kernel_rfl) ZS [.dat (.sl (.int .u8)) false, .raw] zE.k ?_
 intro R avs qj κ r h
 unfold ZS at h
 simp only [veil_eq] at h
 split at h
 ·rename_i gen qC q9 zh qH qI zg qM qZ qS qV qx qc
  split at h
  ·cases h
  ·rename_i y hy
   refine ⟨BIG, _, _, _, (zE.eq BIG gen qC q9 zh qH qI zg qM qZ qS qV qx qc).trans hy, ?_, h⟩
   intro rs ros hk
   unfold zE.k at hk
   split at hk
   ·rw [← sj hk]; exact ⟨rfl, rfl⟩
   ·cases hk
 ·cases h
def qeL : Env := ⟨th, gam [(48, QW), (49, QX), (21, qbV), (40, QV), (42, QU), (44, QT), (46, QS)], fun i => ⟨[], [], []⟩⟩
def zT.k (rs : List AV) (os : List Den.Obj) : Option (Int × Int × Int × Int × Int × Int × Int × Int × Int × Int × LR × Int) :=
 match rs, os with
 | [.agg [.d (.int .i64) r0, .d (.int .i64) r1, .d (.int .i64) r2, .d (.int .i64) r3, .d (.int .i64) r4, .d (.int .i64) r5, .d (.int .i64) r6, .d (.int .i64) r7, .d (.int .i64) r8, .d (.int .i64) r9, .d (.sl (.pair (.int .i64) (.pair (.int .i64) (.pair (.int .i64) (.pair (.pair (.int .i64) (.int .i64)) (.pair .bool (.sl (.pair (.int .i64) (.sl (.int .u8)))))))))) r10], .d (.int .i64) r11], [] => some (r0, r1, r2, r3, r4, r5, r6, r7, r8, r9, r10, r11)
 | _, _ => none
def zT.b (gen : Int) (b : List Int) (qc : LR) : Option (Int × Int × Int × Int × Int × Int × Int × Int × Int × Int × LR × Int) :=
 (if (gen == (1 : Int)) then (match (veil (Q2.f BIG b qc)) with | none => none | some y0 => some (y0.1, y0.2.1, y0.2.2.1, y0.2.2.2.1, y0.2.2.2.2.1, y0.2.2.2.2.2.1, y0.2.2.2.2.2.2.1, y0.2.2.2.2.2.2.2.1, y0.2.2.2.2.2.2.2.2.1, y0.2.2.2.2.2.2.2.2.2.1, y0.2.2.2.2.2.2.2.2.2.2.1, y0.2.2.2.2.2.2.2.2.2.2.2)) else (if (gen == (2 : Int)) then (match (veil (Q0.f BIG b qc)) with | none => none | some y1 => some (y1.1, y1.2.1, y1.2.2.1, y1.2.2.2.1, y1.2.2.2.2.1, y1.2.2.2.2.2.1, y1.2.2.2.2.2.2.1, y1.2.2.2.2.2.2.2.1, y1.2.2.2.2.2.2.2.2.1, y1.2.2.2.2.2.2.2.2.2.1, y1.2.2.2.2.2.2.2.2.2.2.1, y1.2.2.2.2.2.2.2.2.2.2.2)) else (if (gen == (3 : Int)) then (match (veil (q0.f BIG b qc)) with | none => none | some y2 => some (y2.1, y2.2.1, y2.2.2.1, y2.2.2.2.1, y2.2.2.2.2.1, y2.2.2.2.2.2.1, y2.2.2.2.2.2.2.1, y2.2.2.2.2.2.2.2.1, y2.2.2.2.2.2.2.2.2.1, y2.2.2.2.2.2.2.2.2.2.1, y2.2.2.2.2.2.2.2.2.2.2.1, y2.2.2.2.2.2.2.2.2.2.2.2)) else some (0, 0, 0, 0, 0, 0, 0, 0, 0, 0, ([] : LR), (5 : Int)))))
def zT.f (qa : Nat) (gen : Int) (b : List Int) (qc : LR) : Option (Int × Int × Int × Int × Int × Int × Int × Int × Int × Int × LR × Int) := zT.b gen b qc
end
end Go.Proofs.YtgaakgeemnkeeaaGreatDoor
