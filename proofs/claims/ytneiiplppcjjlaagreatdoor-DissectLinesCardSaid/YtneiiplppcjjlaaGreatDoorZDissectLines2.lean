/- DissectLines, part 2: what the row leans on. -/
import Derived.Test.YtneiiplppcjjlaaGreatDoorZDissectLines1
set_option linter.unusedVariables false
set_option linter.unusedSimpArgs false
set_option maxRecDepth 100000
namespace Go.Proofs.YtneiiplppcjjlaaGreatDoor
open Go.Den
noncomputable section
theorem qo4 : SumDet qfM := zj fun _ _ _ _ => by
 unfold qfM
 simp only
 split
 ·first | rfl | (split <;> rfl)
 ·rfl
theorem qp4 : SumOk Tryz.prog 89 qfM := by
 have hE : EnvOk Tryz.prog qlk := env_ok (l := []) th_ok qZ trivial _
 refine sum_ok hE Tryz.func89 rfl (by kernel_rfl) qfM [.dat (.sl (.int .u8)) false, .raw] z8.k ?_
 intro R avs qm κ r h
 unfold qfM at h
 simp only at h
 split at h
 ·rename_i l
  split at h
  case isFalse => cases h
  rename_i hl
  refine ⟨l.length + 3, _, _, _, (z8.eq (l.length + 3) l).trans (z8.pure l hl), ?_, h⟩
  intro rs ros hk
  unfold z8.k at hk
  split at hk
  ·first | (cases hk; exact ⟨rfl, rfl⟩) | (rw [← Option.some.inj hk]; exact ⟨rfl, rfl⟩)
  ·cases hk
 ·cases h
theorem qo6 : SumDet qfP := zj fun _ _ _ _ => by
 unfold qfP
 simp only
 split
 ·first | rfl | (split <;> rfl)
 ·rfl
theorem qp6 : SumOk Tryz.prog 61 qfP := by
 have hE : EnvOk Tryz.prog qiN := env_ok (l := [(76, QJ), (87, qdf), (88, qeb), (80, qaS), (41, qah), (90, qcT), (89, qfM)]) th_ok qZ ⟨⟨qas, qad⟩, ⟨qkC, qjj⟩, ⟨ql3, qkn⟩, ⟨qdX, qdh⟩, ⟨qb0, qbk⟩, ⟨qmU, qmt⟩, ⟨qp4, qo4⟩, trivial⟩ _
 refine sum_ok hE Tryz.func61 rfl (by kernel_rfl) qfP [.dat (.sl (.int .u8)) false, .raw] Qe.k ?_
 intro R avs qm κ r h
 unfold qfP at h
 simp only at h
 split at h
 ·rename_i qL qA qT mlo mhi qW qt qN qC qM qB
  split at h
  case isFalse => cases h
  rename_i hl
  refine ⟨qB.length + 1, _, _, _, (Qe.eq (qB.length + 1) qL qA qT mlo mhi qW qt qN qC qM qB).trans (Qe.pure qL qA qT mlo mhi qW qt qN qC qM qB hl), ?_, h⟩
  intro rs ros hk
  unfold Qe.k at hk
  split at hk
  ·first | (cases hk; exact ⟨rfl, rfl⟩) | (rw [← Option.some.inj hk]; exact ⟨rfl, rfl⟩)
  ·cases hk
 ·cases h
theorem qmi : ∀ (l : LR), (((l.flatMap qeh).length : Nat) : Int) = qbI l
 | [] => rfl
 | r :: l => by
  have h1 := qmi l
  have h2 := qqe r
  rw [List.flatMap_cons, List.length_append, qbI]
  omega
theorem ql2 {qk qx inc lo hi seq qo qP qD qb : Int} {qc : LR} (hv : zb qk qx inc lo hi seq qo qP qD qb qc = true) :
  qd9 qk qx inc lo hi seq qo qP qD qb qc = ((qaj qk qx inc lo hi seq qo qc).length : Int) := by
 have h := qmi qc
 unfold qd9 qaj
 rw [hv, if_neg (by simp)]
 generalize qc.flatMap qeh = L at h ⊢
 simp only [List.length_append, qlK]
 cases qy qk 0 <;> cases qy qk 1 <;> simp [qlK] <;> omega
theorem qpA (qk qx inc lo hi seq qo qP qD qb : Int) (qc : LR) : qbS qk qx inc lo hi seq qo qP qD qb qc = qk6 qk qx inc lo hi seq qo qP qD qb qc := by
 unfold qbS qk6
 cases hv : zb qk qx inc lo hi seq qo qP qD qb qc
 ·rfl
 ·rw [ql2 hv]
  generalize hn : ((qaj qk qx inc lo hi seq qo qc).length : Int) = n
  by_cases he : qD = 0
  ·subst he
   obtain ⟨_, _, _, _, _, _, _, _, _, _, _, hl, _⟩ := Qk hv
   obtain ⟨rfl, rfl⟩ := qkV hl
   by_cases h9 : qk = 9
   ·simp [h9]
   ·by_cases hs : n > 65499
    ·simp [h9, hs]
    ·simp [h9, hs]
     omega
  ·by_cases h9 : qk = 9
   ·simp [h9]
   ·simp [he, h9]
def inS (l : List Int) : Bool := inB l && decide (l.length < 1000000000)
def n7 (n : Int) : Bool := decide (1 ≤ n) && decide (n ≤ 7)
def Qb (l : LF) : Bool := decide (l.length < 1099511600) && l.all fun x => inS x.2
def qeI (x : (Int × List Int)) (n : Int) : Int × Bool := if ((x.2.length : Int) == n) = true then (Q5 x.2, true) else (0, false)
def zB (l : LF) (bad : Bool) (t n : Int) : Int × LF × Bool :=
 match l with
 | [] => (0, [], true)
 | x :: m => if bad || x.1 != t then (0, x :: m, true) else ((qeI x n).1, m, !(qeI x n).2)
def Zx (l : LF) (bad : Bool) (t : Int) : Int × Int × LF × Bool :=
 ((zW Qv (zB l bad t 1).1).1, (zW Qv (zB l bad t 1).1).2.1, (zB l bad t 1).2.1, (zB l bad t 1).2.2)
def Ze : Nat → List Int → Option LF
 | _, [] => some []
 | k + 1, t :: h :: w :: m => if (h * 256 + w) > (m.length : Int) then none else (Ze k (m.drop (h * 256 + w).toNat)).map fun r => (t, m.take (h * 256 + w).toNat) :: r
 | _, _ => none
def Qh (l : List Int) : LF × Int := match Ze l.length l with | some r => (r, 0) | none => ([], 2)
def qmV : Den.Sum := ⟨[.raw, .raw], fun qK qm κ => match qK, qm with
 | [.ptr 0 0, .d (.int .i64) n], [.box [.d (.sl (.int .u8)) l, .d (.int .i64) a, .d .bool bad]] => if zt l a = true then κ [.d (.sl (.int .u8)) (zf l n a bad).1] [.box [.d (.sl (.int .u8)) l, .d (.int .i64) (zf l n a bad).2.2.1, .d .bool (zf l n a bad).2.2.2]] else none
 | _, _ => none⟩
def qcC : Den.Sum := ⟨[.raw, .raw], fun qK qm κ => match qK, qm with
 | [.ptr 0 0, .d (.int .i64) n], [.box [.d (.sl (.int .u8)) l, .d (.int .i64) a, .d .bool bad]] => if zt l a = true then (match veil (some (zf l n a bad)) with | none => none | some y => κ [.d (.sl (.int .u8)) y.1] [.box [.d (.sl (.int .u8)) l, .d (.int .i64) y.2.2.1, .d .bool y.2.2.2]]) else none
 | _, _ => none⟩
def qlp : Den.Sum := ⟨[.dat (.sl (.int .u8)) false], fun qK qm κ => match qK, qm with
 | [.d (.sl (.int .u8)) l], [] => if inS l = true then κ [.d (.sl (.pair (.int .i64) (.sl (.int .u8)))) (Qh l).1, .d (.int .i64) (Qh l).2] [] else none
 | _, _ => none⟩
def qcU : Den.Sum := ⟨[.dat (.sl (.int .u8)) false], fun qK qm κ => match qK, qm with
 | [.d (.sl (.int .u8)) l], [] => if inS l = true then (match veil (some (Qh l)) with | none => none | some y => κ [.d (.sl (.pair (.int .i64) (.sl (.int .u8)))) y.1, .d (.int .i64) y.2] []) else none
 | _, _ => none⟩
def qeJ : Den.Sum := ⟨[.dat (.pair tQi (.sl (.int .u8))) true, .raw], fun qK qm κ => match qK, qm with
 | [.agg [.d (.int .i64) t, .d (.sl (.int .u8)) d], .d (.int .i64) n], [] => if (inB d && n7 n) = true then κ [.d (.int .i64) (qeI (t, d) n).1, .d .bool (qeI (t, d) n).2] [] else none
 | _, _ => none⟩
def qmZ : Den.Sum := ⟨[.raw, .raw, .raw], fun qK qm κ => match qK, qm with
 | [.ptr 0 0, .d (.int .i64) t, .d (.int .i64) n], [.box [.d (.sl (.pair (.int .i64) (.sl (.int .u8)))) l, .d .bool bad]] => if (Qb l && n7 n) = true then κ [.d (.int .i64) (zB l bad t n).1] [.box [.d (.sl (.pair (.int .i64) (.sl (.int .u8)))) (zB l bad t n).2.1, .d .bool (zB l bad t n).2.2]] else none
 | _, _ => none⟩
def qbH : Den.Sum := ⟨[.raw, .raw, .raw], fun qK qm κ => match qK, qm with
 | [.ptr 0 0, .d (.int .i64) t, .d (.int .i64) n], [.box [.d (.sl (.pair (.int .i64) (.sl (.int .u8)))) l, .d .bool bad]] => if (Qb l && n7 n) = true then (match veil (some (zB l bad t n)) with | none => none | some y => κ [.d (.int .i64) y.1] [.box [.d (.sl (.pair (.int .i64) (.sl (.int .u8)))) y.2.1, .d .bool y.2.2]]) else none
 | _, _ => none⟩
def qlx : Den.Sum := ⟨[.raw, .raw], fun qK qm κ => match qK, qm with
 | [.ptr 0 0, .d (.int .i64) t], [.box [.d (.sl (.pair (.int .i64) (.sl (.int .u8)))) l, .d .bool bad]] => if Qb l = true then κ [.agg [.d (.int .i64) (Zx l bad t).1, .d (.int .i64) (Zx l bad t).2.1]] [.box [.d (.sl (.pair (.int .i64) (.sl (.int .u8)))) (Zx l bad t).2.2.1, .d .bool (Zx l bad t).2.2.2]] else none
 | _, _ => none⟩
def qcW : Den.Sum := ⟨[.raw, .raw], fun qK qm κ => match qK, qm with
 | [.ptr 0 0, .d (.int .i64) t], [.box [.d (.sl (.pair (.int .i64) (.sl (.int .u8)))) l, .d .bool bad]] => if Qb l = true then (match veil (some (Zx l bad t)) with | none => none | some y => κ [.agg [.d (.int .i64) y.1, .d (.int .i64) y.2.1]] [.box [.d (.sl (.pair (.int .i64) (.sl (.int .u8)))) y.2.2.1, .d .bool y.2.2.2]]) else none
 | _, _ => none⟩
def qov : Env := ⟨th, gam [(73, qed)], fun i => ⟨[], [], []⟩⟩
def qcJ.k (rs : List AV) (os : List Den.Obj) : Option ((List Int) × (List Int) × Int × Bool) :=
 match rs, os with
 | [.d (.sl (.int .u8)) r0], [.box [.d (.sl (.int .u8)) r1, .d (.int .i64) r2, .d .bool r3]] => some (r0, r1, r2, r3)
 | _, _ => none
def qcJ.b (n : Int) (l : List Int) (a : Int) (bad : Bool) : Option ((List Int) × (List Int) × Int × Bool) :=
 (if (zt l a) then (if (!(zf l n a bad).2.1) then some (([] : List Int), l, (zf l n a bad).2.2.1, (zf l n a bad).2.2.2) else (if (((0 : Int) ≤ ((((List.length (zf l n a bad).1)) : Nat) : Int)) ∧ ((((((List.length (zf l n a bad).1)) : Nat) : Int) ≤ ((((List.length (zf l n a bad).1)) : Nat) : Int)) ∧ (((((((List.length (zf l n a bad).1)) : Nat) : Int) * ((((1 : Nat)) : Nat) : Int)) ≤ (1099511627776 : Int)) ∧ (((((List.length (zf l n a bad).1)) : Nat) : Int) ≤ (1099511627776 : Int))))) then (if ((false = false) ∧ ((List.length (zf l n a bad).1) ≤ (List.length (List.replicate (Int.toNat ((((List.length (zf l n a bad).1)) : Nat) : Int)) (zeroI (Go.Den.Ty.int .u8)))))) then some (((zf l n a bad).1 ++ (List.drop (List.length (zf l n a bad).1) (List.replicate (Int.toNat ((((List.length (zf l n a bad).1)) : Nat) : Int)) (zeroI (Go.Den.Ty.int .u8))))), l, (zf l n a bad).2.2.1, (zf l n a bad).2.2.2) else none) else none)) else none)
def qcJ.f (qa : Nat) (n : Int) (l : List Int) (a : Int) (bad : Bool) : Option ((List Int) × (List Int) × Int × Bool) := qcJ.b n l a bad
theorem qcJ.eq (qa : Nat) (n : Int) (l : List Int) (a : Int) (bad : Bool) : (denF qov loopN qa Tryz.f53 [.dat (.sl (.int .u8)) false] [.ptr 0 0, .d tQi n] [.box [.d (.sl (.int .u8)) l, .d tQi a, .d .bool bad]] qcJ.k) = qcJ.f qa n l a bad := by
 kernel_rfl
def qlQ : Env := ⟨th, gam [(51, qaR), (113, qeg), (52, Zf), (53, qcC), (84, qaO)], fun i => if i = 3 then ⟨[4, 5], [(4, 86, (.pair tQi (.sl (.int .u8))))], []⟩ else ⟨[], [], []⟩⟩
def QN.k (rs : List AV) (os : List Den.Obj) : Option (LF × Int) :=
 match rs, os with
 | [.d (.sl (.pair (.int .i64) (.sl (.int .u8)))) r0, .d (.int .i64) r1], [] => some (r0, r1)
 | _, _ => none
def QN.s3 (l : List Int) (x0 : LF) (x1 : Int) (x2 : Bool) : St := ⟨[dD, dD, dD, dD, .row 64, .ptr 65 0, dD, dD, dD, dD, dD, dD, dD, dD, dD, dD, dD, dD, dD, dD, dD, dD, dD, dD, dD, dD, .dead], ofL [(64, .row 86 (.pair tQi (.sl (.int .u8))) x0 false), (65, .box [.d (.sl (.int .u8)) (l), .d tQi x1, .d .bool x2])], 0⟩
def QN.p3 (qa : Nat) (l : List Int) (k : Nat) := fun x0 x1 x2 => lp qlQ qa Tryz.f91 [.dat (.sl (.pair tQi (.sl (.int .u8)))) false, .raw] 0 QN.k 3 [] k (QN.s3 l x0 x1 x2)
def QN.b3 (l : List Int) (A3 : LF → Int → Bool → Option (LF × Int)) (x0 : LF) (x1 : Int) (x2 : Bool) : Option (LF × Int) :=
 (if (zt l x1) then (if (decide ((ZZ l x1 x2) > (0 : Int))) then (if (zt l x1) then (match (veil (Option.some (qz l (1 : Int) x1 x2))) with | none => none | some y3 => (if (zt l y3.2.1) then (match (veil (Option.some (qz l (2 : Int) y3.2.1 y3.2.2))) with | none => none | some y4 => (if (zt l y4.2.1) then (match (veil (Option.some (zf l y4.1 y4.2.1 y4.2.2))) with | none => none | some y5 => (if y5.2.2.2 then some (([] : LF), (2 : Int)) else (if ((((List.length x0) + (List.length ((y3.1, y5.1) :: ([] : LF)))) * (32 : Nat)) ≤ lim) then A3 (x0 ++ ((y3.1, y5.1) :: ([] : LF))) y5.2.2.1 y5.2.2.2 else none))) else none)) else none)) else none) else some (x0, (0 : Int))) else none)
def QN.l3 (qa : Nat) (l : List Int) : Nat → LF → Int → Bool → Option (LF × Int)
 | 0, _, _, _ => none
 | k + 1, x0, x1, x2 => QN.b3 l (QN.l3 qa l k) x0 x1 x2
def QN.b (l : List Int) (E3 : LF → Int → Bool → Option (LF × Int)) : Option (LF × Int) :=
 (if (inB l) then E3 ([] : LF) 0 false else none)
def QN.f (qa : Nat) (l : List Int) : Option (LF × Int) := QN.b l (QN.l3 qa l qa)
theorem QN.l3_eq (qa : Nat) (l : List Int) : ∀ k : Nat, QN.p3 qa l k = QN.l3 qa l k
 | 0 => by kernel_rfl
 | k + 1 => by
  refine Eq.trans (b := QN.b3 l (QN.p3 qa l k)) (by kernel_rfl) ?_
  rw [QN.l3_eq qa l k]
  kernel_rfl
theorem QN.eq (qa : Nat) (l : List Int) : (denF qlQ loopN qa Tryz.f91 [.dat (.sl (.pair tQi (.sl (.int .u8)))) false, .raw] [.d (.sl (.int .u8)) l] [] QN.k) = QN.f qa l := by
 refine Eq.trans (b := QN.b l (QN.p3 qa l qa)) (by kernel_rfl) ?_
 rw [QN.l3_eq qa l qa]
 kernel_rfl
def qot : Env := ⟨th, gam [(51, qaR), (52, qef), (86, qcY)], fun i => ⟨[], [], []⟩⟩
def qbi.k (rs : List AV) (os : List Den.Obj) : Option (Int × Bool) :=
 match rs, os with
 | [.d (.int .i64) r0, .d .bool r1], [] => some (r0, r1)
 | _, _ => none
def qbi.b (t : Int) (d : List Int) (n : Int) : Option (Int × Bool) :=
 (if (inB d) then (if (zt d 0) then (if (zt d (qz d n 0 false).2.1) then (if (!((!(qz d n 0 false).2.2) && ((ZZ d (qz d n 0 false).2.1 (qz d n 0 false).2.2) == (0 : Int)))) then some ((0 : Int), false) else some ((qz d n 0 false).1, true)) else none) else none) else none)
def qbi.f (qa : Nat) (t : Int) (d : List Int) (n : Int) : Option (Int × Bool) := qbi.b t d n
theorem qbi.eq (qa : Nat) (t : Int) (d : List Int) (n : Int) : (denF qot loopN qa Tryz.f115 [.raw, .raw] [.agg [.d tQi t, .d (.sl (.int .u8)) d], .d tQi n] [] qbi.k) = qbi.f qa t d n := by
 kernel_rfl
def qqS : Env := ⟨th, gam [(115, qeJ)], fun i => ⟨[], [], []⟩⟩
def qeB.k (rs : List AV) (os : List Den.Obj) : Option (Int × LF × Bool) :=
 match rs, os with
 | [.d (.int .i64) r0], [.box [.d (.sl (.pair (.int .i64) (.sl (.int .u8)))) r1, .d .bool r2]] => some (r0, r1, r2)
 | _, _ => none
def qeB.b (t n : Int) (l : LF) (bad : Bool) : Option (Int × LF × Bool) :=
 (if bad then some ((0 : Int), l, true) else (if (((((List.length l)) : Nat) : Int) == (0 : Int)) then some ((0 : Int), l, true) else (match (idx l (0 : Int)) with | none => none | some y0 => (if (y0.1 != t) then some ((0 : Int), l, true) else (match (idx l (0 : Int)) with | none => none | some y1 => (if ((inB y1.2) && (n7 n)) then (if (((0 : Int) ≤ (1 : Int)) ∧ ((1 : Int) ≤ ((((List.length l)) : Nat) : Int))) then some ((qeI (y1.1, y1.2) n).1, (List.drop (Int.toNat (1 : Int)) (List.take (List.length l) l)), (!(qeI (y1.1, y1.2) n).2)) else none) else none))))))
def qeB.f (qa : Nat) (t n : Int) (l : LF) (bad : Bool) : Option (Int × LF × Bool) := qeB.b t n l bad
theorem qeB.eq (qa : Nat) (t n : Int) (l : LF) (bad : Bool) : (denF qqS loopN qa Tryz.f92 [.raw] [.ptr 0 0, .d tQi t, .d tQi n] [.box [.d (.sl (.pair tQi (.sl (.int .u8)))) l, .d .bool bad]] qeB.k) = qeB.f qa t n l bad := by
 kernel_rfl
def qoC : Env := ⟨th, gam [(92, qbH), (83, qdw)], fun i => ⟨[], [], []⟩⟩
def qcQ.k (rs : List AV) (os : List Den.Obj) : Option (Int × Int × LF × Bool) :=
 match rs, os with
 | [.agg [.d (.int .i64) r0, .d (.int .i64) r1]], [.box [.d (.sl (.pair (.int .i64) (.sl (.int .u8)))) r2, .d .bool r3]] => some (r0, r1, r2, r3)
 | _, _ => none
def qcQ.b (t : Int) (l : LF) (bad : Bool) : Option (Int × Int × LF × Bool) :=
 (if ((Qb l) && (n7 (1 : Int))) then (match (veil (Option.some (zB l bad t (1 : Int)))) with | none => none | some y0 => (match (veil (Option.some (zW Qv y0.1))) with | none => none | some y1 => some (y1.1, y1.2.1, y0.2.1, y0.2.2))) else none)
def qcQ.f (qa : Nat) (t : Int) (l : LF) (bad : Bool) : Option (Int × Int × LF × Bool) := qcQ.b t l bad
theorem qcQ.eq (qa : Nat) (t : Int) (l : LF) (bad : Bool) : (denF qoC loopN qa Tryz.f94 [.dat (.pair tQi tQi) true] [.ptr 0 0, .d tQi t] [.box [.d (.sl (.pair tQi (.sl (.int .u8)))) l, .d .bool bad]] qcQ.k) = qcQ.f qa t l bad := by
 kernel_rfl
theorem qbK (l : List Int) : inS l = true ↔ inB l = true ∧ l.length < 1000000000 := by unfold inS; simp
theorem qst (n : Int) : n7 n = true ↔ 1 ≤ n ∧ n ≤ 7 := by unfold n7; simp
theorem qaP (l : LF) : Qb l = true ↔ l.length < 1099511600 ∧ ∀ x ∈ l, inS x.2 = true := by unfold Qb; simp [List.all_eq_true]
theorem qq0 (l : List Int) (n a : Int) (bad : Bool) : (zf l n a bad).1.length ≤ l.length := by
 unfold zf
 split
 ·simp
 ·split
  ·simp
  ·unfold seg; simp; omega
theorem qpR (l : List Int) (n a : Int) (bad : Bool) (h : (zf l n a bad).2.1 = false) : (zf l n a bad).1 = [] := by
 unfold zf at h ⊢
 split
 ·rfl
 ·rename_i c
  rw [if_neg c] at h
  split
  ·rfl
  ·rename_i c2
   rw [if_neg c2] at h
   cases h
theorem qcJ.pure (n : Int) (l : List Int) (a : Int) (bad : Bool) (hl : zt l a = true) : qcJ.f 0 n l a bad = some ((zf l n a bad).1, l, (zf l n a bad).2.2.1, (zf l n a bad).2.2.2) := by
 unfold qcJ.f qcJ.b
 rw [if_pos hl]
 have h1 := qq0 l n a bad
 obtain ⟨k1, k2, k3⟩ := (zN l a).1 hl
 have h2 := ((QX l).1 k1).1
 cases hs : (zf l n a bad).2.1
 ·rw [if_pos (by simp), qpR l n a bad hs]
 ·rw [if_neg (by simp), if_pos (by refine ⟨by omega, by omega, by omega, by omega⟩), if_pos (by simp)]
  simp
theorem qbi.pure (t n : Int) (d : List Int) (hl : (inB d && n7 n) = true) : qbi.f 0 t d n = some ((qeI (t, d) n).1, (qeI (t, d) n).2) := by
 rw [Bool.and_eq_true] at hl
 obtain ⟨hb, hn⟩ := hl
 obtain ⟨n1, n7⟩ := (qst n).1 hn
 have h0 : zt d 0 = true := (zN d 0).2 ⟨hb, by omega, by omega⟩
 have h1 := QD d n 0 false h0
 unfold qbi.f qbi.b
 rw [if_pos hb, if_pos h0, if_pos h1]
 have hn' : (if (decide (n < 1) || decide (n > 7)) = true then (-1 : Int) else n) = n := if_neg (by simp; omega)
 unfold qeI
 by_cases c : n ≤ (d.length : Int)
 ·have hst : zf d n 0 false = (seg d 0 n, true, 0 + n, false) := by
   unfold zf
   rw [if_neg (by simp), if_neg (by simp; omega)]
  have hr : qz d n 0 false = (Q5 (seg d 0 n), 0 + n, false) := by
   unfold qz
   dsimp only
   rw [hn', hst]
   rfl
  rw [hr]
  by_cases c2 : (d.length : Int) = n
  ·have hseg : seg d 0 n = d := by
    unfold seg
    rw [show (0 : Int).toNat = 0 from rfl, List.drop_zero, List.take_of_length_le (by omega)]
   rw [hseg]
   simp [ZZ, c2]
  ·have c3 : ¬ ((d.length : Int) - (0 + n) = 0) := by omega
   simp [ZZ, c2]
   omega
 ·have hst : zf d n 0 false = ([], false, 0, true) := by
   unfold zf
   rw [if_neg (by simp), if_pos (by simp; omega)]
  have hr : qz d n 0 false = (0, 0, true) := by
   unfold qz
   dsimp only
   rw [hn', hst]
   rfl
  rw [hr]
  have c2 : ¬ ((d.length : Int) = n) := by omega
  simp [c2]
theorem qmF {α : Type} (x : α) (m : List α) : idx (x :: m) (0 : Int) = some x := rfl
theorem qeB.pure (t n : Int) (l : LF) (bad : Bool) (hl : (Qb l && n7 n) = true) : qeB.f 0 t n l bad = some ((zB l bad t n).1, (zB l bad t n).2.1, (zB l bad t n).2.2) := by
 rw [Bool.and_eq_true] at hl
 obtain ⟨hf, hn⟩ := hl
 obtain ⟨f1, f2⟩ := (qaP l).1 hf
 unfold qeB.f qeB.b zB
 cases bad
 ·cases l with
  | nil => rfl
  | cons x m =>
   have hx : inB x.2 = true := ((qbK _).1 (f2 x (by simp))).1
   rw [if_neg (by simp), if_neg (by simp; omega), qmF]
   dsimp only
   by_cases c : x.1 = t
   ·rw [if_neg (by simpa using c), if_pos (by rw [hx, hn]; rfl), if_pos (by simp; omega), if_neg (by simp [c])]
    simp
   ·rw [if_pos (by simpa using c), if_pos (by simp [c])]
 ·rw [if_pos rfl]
  cases l <;> simp
theorem qcQ.pure (t : Int) (l : LF) (bad : Bool) (hl : Qb l = true) : qcQ.f 0 t l bad = some ((Zx l bad t).1, (Zx l bad t).2.1, (Zx l bad t).2.2.1, (Zx l bad t).2.2.2) := by
 unfold qcQ.f qcQ.b Zx
 simp only [veil_eq]
 rw [hl, if_pos (by rfl)]
theorem qkO (l : List Int) (n a : Int) (rest : List Int) (h1 : 1 ≤ n) (h7 : n ≤ 7) (h0 : 0 ≤ a) (hd : l.drop a.toNat = rest) (ha : a ≤ (l.length : Int)) (hr : (rest.length : Int) < n) : qz l n a false = (0, a, true) := by
 have hn' : (if (decide (n < 1) || decide (n > 7)) = true then (-1 : Int) else n) = n := if_neg (by simp; omega)
 have hlen : rest.length = l.length - a.toNat := by rw [← hd]; simp
 have hst : zf l n a false = ([], false, a, true) := by
  unfold zf
  rw [if_neg (by simp), if_pos (by simp; omega)]
 unfold qz
 dsimp only
 rw [hn', hst]
 rfl
theorem be2 (h w : Int) (h0 : 0 ≤ h) (h1 : h < 256) (w0 : 0 ≤ w) (w1 : w < 256) : be 2 (h * 256 + w) = [h, w] := by
 show be 1 ((h * 256 + w) / 256) ++ [(h * 256 + w) % 256] = [h, w]
 rw [show (h * 256 + w) / 256 = h from by omega, show (h * 256 + w) % 256 = w from by omega, be1 h h0 h1]
 rfl
theorem QN.loop (qa : Nat) (l : List Int) (hl : inS l = true) : ∀ (k m : Nat) (a : Int) (acc : LF), zt l a = true → l.length - a.toNat < k → l.length - a.toNat ≤ m → acc.length ≤ a.toNat →
  QN.l3 qa l k acc a false = (match Ze m (l.drop a.toNat) with | some r => some (acc ++ r, 0) | none => some ([], 2)) := by
 obtain ⟨hb, hlen⟩ := (qbK l).1 hl
 intro k
 induction k with
 | zero => intro m a acc h1 h2; omega
 | succ k ih =>
  intro m a acc h1 h2 h3 h4
  obtain ⟨k1, k2, k3⟩ := (zN l a).1 h1
  rw [QN.l3]
  unfold QN.b3
  simp only [veil_eq]
  rw [if_pos h1]
  generalize hd : l.drop a.toNat = rest
  have hrl : rest.length = l.length - a.toNat := by rw [← hd]; simp
  have hmem : ∀ c ∈ rest, 0 ≤ c ∧ c ≤ 255 := fun c hc => ((QX l).1 hb).2 c (List.mem_of_mem_drop (hd ▸ hc))
  cases rest with
  | nil =>
   simp at hrl
   rw [if_neg (by simp [ZZ]; omega)]
   cases m <;> simp [Ze]
  | cons t rest =>
   simp at hrl
   obtain ⟨m, rfl⟩ : ∃ m', m = m' + 1 := ⟨m - 1, by omega⟩
   have ht := hmem t (by simp)
   rw [if_pos (by simp [ZZ]; omega), if_pos h1]
   have hr1 := qbJ l 1 a t rest h1 (by omega) (by omega) ht.1 (by simp; omega) (by rw [hd, n1, be1 t ht.1 (by omega)]; rfl)
   obtain ⟨r1, r2, r3⟩ := hr1
   rw [r1]
   dsimp only
   rw [if_pos r3]
   match rest, hrl, hmem, hd, r2 with
   | [], hrl, hmem, hd, r2 =>
    rw [qkO l 2 (a + 1) [] (by omega) (by omega) (by omega) r2 (by simp at hrl; omega) (by simp)]
    dsimp only
    rw [if_pos r3]
    simp [zf, Ze]
   | [h], hrl, hmem, hd, r2 =>
    rw [qkO l 2 (a + 1) [h] (by omega) (by omega) (by omega) r2 (by simp at hrl; omega) (by simp)]
    dsimp only
    rw [if_pos r3]
    simp [zf, Ze]
   | h :: w :: rest, hrl, hmem, hd, r2 =>
    have hh := hmem h (by simp)
    have hw := hmem w (by simp)
    simp at hrl
    obtain ⟨q1, q2, q3⟩ := qbJ l 2 (a + 1) (h * 256 + w) rest r3 (by omega) (by omega) (by omega) (by simp; omega) (by rw [r2, n2, be2 h w hh.1 (by omega) hw.1 (by omega)]; rfl)
    rw [q1]
    dsimp only
    rw [if_pos q3]
    rw [Ze]
    have e3 : a + 1 + 2 = a + 3 := by omega
    rw [e3] at q2 q3 ⊢
    by_cases c : h * 256 + w > (rest.length : Int)
    ·have hst : zf l (h * 256 + w) (a + 3) false = ([], false, a + 3, true) := by
      unfold zf
      rw [if_neg (by simp), if_pos (by simp; omega)]
     rw [hst, if_pos c]
     rfl
    ·have hst : zf l (h * 256 + w) (a + 3) false = (seg l (a + 3) (h * 256 + w), true, a + 3 + (h * 256 + w), false) := by
      unfold zf
      rw [if_neg (by simp), if_neg (by simp; omega)]
     have hseg : seg l (a + 3) (h * 256 + w) = rest.take (h * 256 + w).toNat := by
      unfold seg
      rw [List.drop_take, show (a + 3 + (h * 256 + w)).toNat = (a + 3).toNat + (h * 256 + w).toNat from by omega, Nat.add_sub_cancel_left, q2]
     have hdr : l.drop (a + 3 + (h * 256 + w)).toNat = rest.drop (h * 256 + w).toNat := by
      rw [show (a + 3 + (h * 256 + w)).toNat = (a + 3).toNat + (h * 256 + w).toNat from by omega, ← List.drop_drop, q2]
     rw [hst, if_neg c]
     dsimp only
     rw [if_neg (by simp), if_pos (by simp [lim]; omega)]
     rw [ih m (a + 3 + (h * 256 + w)) _ ((zN _ _).2 ⟨hb, by omega, by omega⟩) (by omega) (by omega) (by simp; omega), hdr, hseg]
     cases Ze m (rest.drop (h * 256 + w).toNat) <;> simp
theorem QN.pure (l : List Int) (hl : inS l = true) : QN.f (l.length + 1) l = some ((Qh l).1, (Qh l).2) := by
 obtain ⟨hb, hlen⟩ := (qbK l).1 hl
 unfold QN.f QN.b
 rw [if_pos hb, QN.loop (l.length + 1) l hl (l.length + 1) l.length 0 [] ((zN _ _).2 ⟨hb, by omega, by omega⟩) (by simp) (by simp) (by simp)]
 unfold Qh
 rw [show (0 : Int).toNat = 0 from rfl, List.drop_zero]
 cases Ze l.length l <;> rfl
theorem ql4 : SumOk Tryz.prog 53 qmV := by
 have hE : EnvOk Tryz.prog qov := env_ok (l := [(73, qed)]) th_ok qZ ⟨⟨ql5, qko⟩, trivial⟩ _
 refine sum_ok hE Tryz.func53 rfl (by kernel_rfl) qmV [.dat (.sl (.int .u8)) false] qcJ.k ?_
 intro R avs qm κ r h
 unfold qmV at h
 simp only at h
 split at h
 ·rename_i n l a bad
  split at h
  case isFalse => cases h
  rename_i hl
  refine ⟨0, _, _, _, (qcJ.eq (0) n l a bad).trans (qcJ.pure n l a bad hl), ?_, h⟩
  intro rs ros hk
  unfold qcJ.k at hk
  split at hk
  ·first | (cases hk; exact ⟨rfl, rfl⟩) | (rw [← Option.some.inj hk]; exact ⟨rfl, rfl⟩)
  ·cases hk
 ·cases h
theorem qgm : SumDet qcC := zj fun _ _ _ _ => by
 unfold qcC
 simp only [veil_eq]
 split
 ·first | rfl | (split <;> rfl)
 ·rfl
theorem qhd : SumOk Tryz.prog 53 qcC := ⟨ql4.1, fun avs qm κ r hr => ql4.2 avs qm κ r (by
 unfold qcC at hr
 simp only [veil_eq] at hr
 split at hr
 ·exact hr
 ·cases hr)⟩
theorem qkp : SumOk Tryz.prog 91 qlp := by
 have hE : EnvOk Tryz.prog qlQ := env_ok (l := [(51, qaR), (113, qeg), (52, Zf), (53, qcC), (84, qaO)]) th_ok qZ ⟨⟨qdU, qdc⟩, ⟨ql7, qkv⟩, ⟨qbc, qaK⟩, ⟨qhd, qgm⟩, ⟨qc1, qci⟩, trivial⟩ _
 refine sum_ok hE Tryz.func91 rfl (by kernel_rfl) qlp [.dat (.sl (.pair tQi (.sl (.int .u8)))) false, .raw] QN.k ?_
 intro R avs qm κ r h
 unfold qlp at h
 simp only at h
 split at h
 ·rename_i l
  split at h
  case isFalse => cases h
  rename_i hl
  refine ⟨l.length + 1, _, _, _, (QN.eq (l.length + 1) l).trans (QN.pure l hl), ?_, h⟩
  intro rs ros hk
  unfold QN.k at hk
  split at hk
  ·first | (cases hk; exact ⟨rfl, rfl⟩) | (rw [← Option.some.inj hk]; exact ⟨rfl, rfl⟩)
  ·cases hk
 ·cases h
theorem qij : SumDet qcU := zj fun _ _ _ _ => by
 unfold qcU
 simp only [veil_eq]
 split
 ·first | rfl | (split <;> rfl)
 ·rfl
theorem qje : SumOk Tryz.prog 91 qcU := ⟨qkp.1, fun avs qm κ r hr => qkp.2 avs qm κ r (by
 unfold qcU at hr
 simp only [veil_eq] at hr
 split at hr
 ·exact hr
 ·cases hr)⟩
theorem qnM : SumDet qeJ := zj fun _ _ _ _ => by
 unfold qeJ
 simp only
 split
 ·first | rfl | (split <;> rfl)
 ·rfl
theorem qoR : SumOk Tryz.prog 115 qeJ := by
 have hE : EnvOk Tryz.prog qot := env_ok (l := [(51, qaR), (52, qef), (86, qcY)]) th_ok qZ ⟨⟨qdU, qdc⟩, ⟨qf6, qkr⟩, ⟨qim, qhj⟩, trivial⟩ _
 refine sum_ok hE Tryz.func115 rfl (by kernel_rfl) qeJ [.raw, .raw] qbi.k ?_
 intro R avs qm κ r h
 unfold qeJ at h
 simp only at h
 split at h
 ·rename_i t d n
  split at h
  case isFalse => cases h
  rename_i hl
  refine ⟨0, _, _, _, (qbi.eq (0) t d n).trans (qbi.pure t n d hl), ?_, h⟩
  intro rs ros hk
  unfold qbi.k at hk
  split at hk
  ·first | (cases hk; exact ⟨rfl, rfl⟩) | (rw [← Option.some.inj hk]; exact ⟨rfl, rfl⟩)
  ·cases hk
 ·cases h
theorem ql8 : SumOk Tryz.prog 92 qmZ := by
 have hE : EnvOk Tryz.prog qqS := env_ok (l := [(115, qeJ)]) th_ok qZ ⟨⟨qoR, qnM⟩, trivial⟩ _
 refine sum_ok hE Tryz.func92 rfl (by kernel_rfl) qmZ [.raw] qeB.k ?_
 intro R avs qm κ r h
 unfold qmZ at h
 simp only at h
 split at h
 ·rename_i t n l bad
  split at h
  case isFalse => cases h
  rename_i hl
  refine ⟨0, _, _, _, (qeB.eq (0) t n l bad).trans (qeB.pure t n l bad hl), ?_, h⟩
  intro rs ros hk
  unfold qeB.k at hk
  split at hk
  ·first | (cases hk; exact ⟨rfl, rfl⟩) | (rw [← Option.some.inj hk]; exact ⟨rfl, rfl⟩)
  ·cases hk
 ·cases h
theorem qeY : SumDet qbH := zj fun _ _ _ _ => by
 unfold qbH
 simp only [veil_eq]
 split
 ·first | rfl | (split <;> rfl)
 ·rfl
theorem qfp : SumOk Tryz.prog 92 qbH := ⟨ql8.1, fun avs qm κ r hr => ql8.2 avs qm κ r (by
 unfold qbH at hr
 simp only [veil_eq] at hr
 split at hr
 ·exact hr
 ·cases hr)⟩
theorem qkx : SumOk Tryz.prog 94 qlx := by
 have hE : EnvOk Tryz.prog qoC := env_ok (l := [(92, qbH), (83, qdw)]) th_ok qZ ⟨⟨qfp, qeY⟩, ⟨qik, qhe⟩, trivial⟩ _
 refine sum_ok hE Tryz.func94 rfl (by kernel_rfl) qlx [.dat (.pair tQi tQi) true] qcQ.k ?_
 intro R avs qm κ r h
 unfold qlx at h
 simp only at h
 split at h
 ·rename_i t l bad
  split at h
  case isFalse => cases h
  rename_i hl
  refine ⟨0, _, _, _, (qcQ.eq (0) t l bad).trans (qcQ.pure t l bad hl), ?_, h⟩
  intro rs ros hk
  unfold qcQ.k at hk
  split at hk
  ·first | (cases hk; exact ⟨rfl, rfl⟩) | (rw [← Option.some.inj hk]; exact ⟨rfl, rfl⟩)
  ·cases hk
 ·cases h
theorem qil : SumDet qcW := zj fun _ _ _ _ => by
 unfold qcW
 simp only [veil_eq]
 split
 ·first | rfl | (split <;> rfl)
 ·rfl
theorem qji : SumOk Tryz.prog 94 qcW := ⟨qkx.1, fun avs qm κ r hr => qkx.2 avs qm κ r (by
 unfold qcW at hr
 simp only [veil_eq] at hr
 split at hr
 ·exact hr
 ·cases hr)⟩
def Q4 (b : List Int) : (Int × Int × Int × (Int × Int) × Bool × LF) × Bool :=
 let y := Qh b
 let y1 := zB y.1 (y.2 != 0) 1 2
 let y2 := zB y1.2.1 y1.2.2 2 4
 let y3 := zB y2.2.1 y2.2.2 3 1
 let y4 := Zx y3.2.1 y3.2.2 4
 ((y1.1, y2.1, y3.1 % 128, (y4.1, y4.2.1), decide (y3.1 ≥ 128), y4.2.2.1), !y4.2.2.2)
def Qy (qk p : Int) (l : LF) (bad : Bool) (t : Int) : Int × LF × Bool := if qy qk p then zB l bad t 2 else (0, l, bad)
def qmX : Den.Sum := ⟨[.dat (.sl (.int .u8)) false], fun qK qm κ => match qK, qm with
 | [.d (.sl (.int .u8)) b], [] => if inS b = true then κ [.agg [.d (.int .i64) (Q4 b).1.1, .d (.int .i64) (Q4 b).1.2.1, .d (.int .i64) (Q4 b).1.2.2.1, .d (.int .i64) (Q4 b).1.2.2.2.1.1, .d (.int .i64) (Q4 b).1.2.2.2.1.2, .d .bool (Q4 b).1.2.2.2.2.1, .d (.sl (.pair (.int .i64) (.sl (.int .u8)))) (Q4 b).1.2.2.2.2.2], .d .bool (Q4 b).2] [] else none
 | _, _ => none⟩
def qfx : Den.Sum := ⟨[.dat (.sl (.int .u8)) false], fun qK qm κ => match qK, qm with
 | [.d (.sl (.int .u8)) b], [] => if inS b = true then (match veil (some (Q4 b)) with | none => none | some y => κ [.agg [.d (.int .i64) y.1.1, .d (.int .i64) y.1.2.1, .d (.int .i64) y.1.2.2.1, .d (.int .i64) y.1.2.2.2.1.1, .d (.int .i64) y.1.2.2.2.1.2, .d .bool y.1.2.2.2.2.1, .d (.sl (.pair (.int .i64) (.sl (.int .u8)))) y.1.2.2.2.2.2], .d .bool y.2] []) else none
 | _, _ => none⟩
def qq6 : Den.Sum := ⟨[.raw, .raw, .raw, .raw], fun qK qm κ => match qK, qm with
 | [.d (.int .i64) p, .d (.int .i64) t, .ptr 0 0, .ptr 1 0], [.box [.d (.int .i64) qk, .d (.int .i64) qx, .d (.int .i64) inc, .d (.int .i64) lo, .d (.int .i64) hi, .d (.int .i64) seq, .d (.int .i64) qo, .d (.int .i64) qP, .d (.int .i64) qD, .d (.int .i64) qb, .nilsl], .box [.ptr 2 0], .box [.d (.sl (.pair (.int .i64) (.sl (.int .u8)))) l, .d .bool bad]] => if Qb l = true then κ [.d (.int .i64) (Qy qk p l bad t).1] [.box [.d (.int .i64) qk, .d (.int .i64) qx, .d (.int .i64) inc, .d (.int .i64) lo, .d (.int .i64) hi, .d (.int .i64) seq, .d (.int .i64) qo, .d (.int .i64) qP, .d (.int .i64) qD, .d (.int .i64) qb, .nilsl], .box [.ptr 2 0], .box [.d (.sl (.pair (.int .i64) (.sl (.int .u8)))) (Qy qk p l bad t).2.1, .d .bool (Qy qk p l bad t).2.2]] else none
 | _, _ => none⟩
def qiU : Den.Sum := ⟨[.raw, .raw, .raw, .raw], fun qK qm κ => match qK, qm with
 | [.d (.int .i64) p, .d (.int .i64) t, .ptr 0 0, .ptr 1 0], [.box [.d (.int .i64) qk, .d (.int .i64) qx, .d (.int .i64) inc, .d (.int .i64) lo, .d (.int .i64) hi, .d (.int .i64) seq, .d (.int .i64) qo, .d (.int .i64) qP, .d (.int .i64) qD, .d (.int .i64) qb, .nilsl], .box [.ptr 2 0], .box [.d (.sl (.pair (.int .i64) (.sl (.int .u8)))) l, .d .bool bad]] => if Qb l = true then (match veil (some (Qy qk p l bad t)) with | none => none | some y => κ [.d (.int .i64) y.1] [.box [.d (.int .i64) qk, .d (.int .i64) qx, .d (.int .i64) inc, .d (.int .i64) lo, .d (.int .i64) hi, .d (.int .i64) seq, .d (.int .i64) qo, .d (.int .i64) qP, .d (.int .i64) qD, .d (.int .i64) qb, .nilsl], .box [.ptr 2 0], .box [.d (.sl (.pair (.int .i64) (.sl (.int .u8)))) y.2.1, .d .bool y.2.2]]) else none
 | _, _ => none⟩
def qqP : Env := ⟨th, gam [(91, qcU), (92, qbH), (94, qcW)], fun i => ⟨[], [], []⟩⟩
def qey.k (rs : List AV) (os : List Den.Obj) : Option (Int × Int × Int × Int × Int × Bool × LF × Bool) :=
 match rs, os with
 | [.agg [.d (.int .i64) r0, .d (.int .i64) r1, .d (.int .i64) r2, .d (.int .i64) r3, .d (.int .i64) r4, .d .bool r5, .d (.sl (.pair (.int .i64) (.sl (.int .u8)))) r6], .d .bool r7], [] => some (r0, r1, r2, r3, r4, r5, r6, r7)
 | _, _ => none
def qey.b (b : List Int) : Option (Int × Int × Int × Int × Int × Bool × LF × Bool) :=
 (if (inS b) then (match (veil (Option.some (Qh b))) with | none => none | some y0 => (if ((Qb y0.1) && (n7 (2 : Int))) then (match (veil (Option.some (zB y0.1 (y0.2 != (0 : Int)) (1 : Int) (2 : Int)))) with | none => none | some y1 => (if ((Qb y1.2.1) && (n7 (4 : Int))) then (match (veil (Option.some (zB y1.2.1 y1.2.2 (2 : Int) (4 : Int)))) with | none => none | some y2 => (if ((Qb y2.2.1) && (n7 (1 : Int))) then (match (veil (Option.some (zB y2.2.1 y2.2.2 (3 : Int) (1 : Int)))) with | none => none | some y3 => (if (Qb y3.2.1) then (match (veil (Option.some (Zx y3.2.1 y3.2.2 (4 : Int)))) with | none => none | some y4 => (if (((((List.length y4.2.2.1)) : Nat) : Int) == (0 : Int)) then some (y1.1, y2.1, (bits BinOp.andNot .i64 y3.1 (128 : Int)), y4.1, y4.2.1, (decide (y3.1 ≥ (128 : Int))), ([] : LF), (!y4.2.2.2)) else some (y1.1, y2.1, (bits BinOp.andNot .i64 y3.1 (128 : Int)), y4.1, y4.2.1, (decide (y3.1 ≥ (128 : Int))), y4.2.2.1, (!y4.2.2.2)))) else none)) else none)) else none)) else none)) else none)
def qey.f (qa : Nat) (b : List Int) : Option (Int × Int × Int × Int × Int × Bool × LF × Bool) := qey.b b
theorem qey.eq (qa : Nat) (b : List Int) : (denF qqP loopN qa Tryz.f95 [.dat tQr true, .raw] [.d (.sl (.int .u8)) b] [] qey.k) = qey.f qa b := by
 kernel_rfl
def qsz : Env := ⟨th, gam [(41, qah), (92, qbH)], fun i => ⟨[], [], []⟩⟩
def Tk.k (rs : List AV) (os : List Den.Obj) : Option (Int × Int × Int × Int × Int × Int × Int × Int × Int × Int × Int × LF × Bool) :=
 match rs, os with
 | [.d (.int .i64) r0], [.box [.d (.int .i64) r1, .d (.int .i64) r2, .d (.int .i64) r3, .d (.int .i64) r4, .d (.int .i64) r5, .d (.int .i64) r6, .d (.int .i64) r7, .d (.int .i64) r8, .d (.int .i64) r9, .d (.int .i64) r10, .nilsl], .box [.ptr 2 0], .box [.d (.sl (.pair (.int .i64) (.sl (.int .u8)))) r11, .d .bool r12]] => some (r0, r1, r2, r3, r4, r5, r6, r7, r8, r9, r10, r11, r12)
 | _, _ => none
def Tk.b (p t qk qx inc lo hi seq qo qP qD qb : Int) (l : LF) (bad : Bool) : Option (Int × Int × Int × Int × Int × Int × Int × Int × Int × Int × Int × LF × Bool) :=
 (if (!(qy qk p)) then some ((0 : Int), qk, qx, inc, lo, hi, seq, qo, qP, qD, qb, l, bad) else (if ((Qb l) && (n7 (2 : Int))) then (match (veil (Option.some (zB l bad t (2 : Int)))) with | none => none | some y0 => some (y0.1, qk, qx, inc, lo, hi, seq, qo, qP, qD, qb, y0.2.1, y0.2.2)) else none))
def Tk.f (qa : Nat) (p t qk qx inc lo hi seq qo qP qD qb : Int) (l : LF) (bad : Bool) : Option (Int × Int × Int × Int × Int × Int × Int × Int × Int × Int × Int × LF × Bool) := Tk.b p t qk qx inc lo hi seq qo qP qD qb l bad
theorem Tk.eq (qa : Nat) (p t qk qx inc lo hi seq qo qP qD qb : Int) (l : LF) (bad : Bool) : (denF qsz loopN qa Tryz.f93 [.raw] [.d tQi p, .d tQi t, .ptr 0 0, .ptr 1 0] [.box [.d tQi qk, .d tQi qx, .d tQi inc, .d tQi lo, .d tQi hi, .d tQi seq, .d tQi qo, .d tQi qP, .d tQi qD, .d tQi qb, .nilsl], .box [.ptr 2 0], .box [.d (.sl (.pair tQi (.sl (.int .u8)))) l, .d .bool bad]] Tk.k) = Tk.f qa p t qk qx inc lo hi seq qo qP qD qb l bad := by
 kernel_rfl
theorem qd8 : ∀ (k : Nat) (l : List Int) (r : LF), (∀ c ∈ l, 0 ≤ c ∧ c ≤ 255) → Ze k l = some r →
  r.flatMap Qi = l ∧ 3 * r.length ≤ l.length ∧ ∀ x ∈ r, (0 ≤ x.1 ∧ x.1 ≤ 255) ∧ x.2.length ≤ 65535 ∧ x.2.length ≤ l.length ∧ ∀ c ∈ x.2, 0 ≤ c ∧ c ≤ 255
 | k, [], r, hl, h => by
  have : r = [] := by cases k <;> simp [Ze] at h <;> exact h.symm ▸ rfl
  subst this
  simp
 | 0, t :: l, r, hl, h => by simp [Ze] at h
 | k + 1, [t], r, hl, h => by simp [Ze] at h
 | k + 1, [t, a], r, hl, h => by simp [Ze] at h
 | k + 1, t :: a :: w :: m, r, hl, h => by
  rw [Ze] at h
  have ht := hl t (by simp)
  have ha := hl a (by simp)
  have hw := hl w (by simp)
  split at h
  ·cases h
  ·rename_i c
   generalize hn : (a * 256 + w).toNat = n at h
   have hnn : (n : Int) = a * 256 + w := by omega
   cases hs : Ze k (m.drop n) with
   | none => rw [hs] at h; cases h
   | some q =>
    rw [hs] at h
    simp at h
    subst h
    obtain ⟨i1, i2, i3⟩ := qd8 k (m.drop n) q (fun c hc => hl c (by simp [List.mem_of_mem_drop hc])) hs
    have hlen : (m.take n).length = n := by rw [List.length_take]; omega
    refine ⟨?_, ?_, ?_⟩
    ·rw [List.flatMap_cons, i1]
     unfold Qi
     rw [hlen]
     have e1 : ((n / 256 : Nat) : Int) = a := by omega
     have e2 : ((n % 256 : Nat) : Int) = w := by omega
     simp only [e1, e2]
     simp
    ·simp at i2 ⊢; omega
    ·intro x hx
     rcases List.mem_cons.1 hx with rfl | hx
     ·refine ⟨ht, by rw [hlen]; omega, by rw [hlen]; simp; omega, fun c hc => hl c (by simp [List.mem_of_mem_take hc])⟩
     ·obtain ⟨j1, j2, j3, j4⟩ := i3 x hx
      refine ⟨j1, j2, ?_, j4⟩
      simp at j3 ⊢
      omega
theorem qd1 {l : List Int} (h : inB l = true) : ∀ c ∈ l, 0 ≤ c ∧ c ≤ 255 := ((QX l).1 h).2
theorem qnf {l : List Int} (h : ∀ c ∈ l, 0 ≤ c ∧ c ≤ 255) (hl : l.length < 1000000000) : inS l = true := (qbK l).2 ⟨(QX l).2 ⟨by omega, h⟩, hl⟩
theorem qd7 (b : List Int) (h : inS b = true) : Qb (Qh b).1 = true := by
 obtain ⟨hb, hl⟩ := (qbK b).1 h
 unfold Qh
 cases hs : Ze b.length b with
 | none => rfl
 | some r =>
  obtain ⟨i1, i2, i3⟩ := qd8 b.length b r (qd1 hb) hs
  refine (qaP _).2 ⟨by show r.length < _; omega, fun x hx => ?_⟩
  obtain ⟨j1, j2, j3, j4⟩ := i3 x hx
  exact qnf j4 (by omega)
theorem QH {l : LF} (h : Qb l = true) (bad : Bool) (t n : Int) : Qb (zB l bad t n).2.1 = true := by
 unfold zB
 cases l with
 | nil => rfl
 | cons x m =>
  dsimp only
  split
  ·exact h
  ·obtain ⟨h1, h2⟩ := (qaP _).1 h
   refine (qaP _).2 ⟨?_, fun y hy => h2 y (by simp [hy])⟩
   simp at h1
   show m.length < _
   omega
theorem qif {l : LF} (h : Qb l = true) (bad : Bool) (t : Int) : Qb (Zx l bad t).2.2.1 = true := QH h bad t 1
theorem qlY {l : LF} (h : Qb l = true) (bad : Bool) (t : Int) : 0 ≤ (zB l bad t 1).1 ∧ (zB l bad t 1).1 ≤ 255 := by
 unfold zB
 cases l with
 | nil => simp
 | cons x m =>
  dsimp only
  split
  ·simp
  ·unfold qeI
   split
   ·rename_i c
    have hx := ((qbK _).1 (((qaP _).1 h).2 x (by simp))).1
    have hb := qd1 hx
    obtain ⟨a, v⟩ := x
    simp at c
    match v, c with
    | [c0], _ =>
     have := hb c0 (by simp)
     simp [Q5]
     omega
   ·simp
theorem qqJ (v : Int) (h0 : 0 ≤ v) (h1 : v ≤ 255) : bits BinOp.andNot .i64 v 128 = v % 128 := by
 have key : ∀ i : Fin 256, bits BinOp.andNot .i64 ((i.val : Nat) : Int) 128 = ((i.val : Nat) : Int) % 128 := by decide +kernel
 have := key ⟨v.toNat, by omega⟩
 simp only [Int.toNat_of_nonneg h0] at this
 exact this
theorem qey.pure (b : List Int) (hl : inS b = true) : qey.f 0 b = some ((Q4 b).1.1, (Q4 b).1.2.1, (Q4 b).1.2.2.1, (Q4 b).1.2.2.2.1.1, (Q4 b).1.2.2.2.1.2, (Q4 b).1.2.2.2.2.1, (Q4 b).1.2.2.2.2.2, (Q4 b).2) := by
 unfold qey.f qey.b
 simp only [veil_eq]
 have h0 := qd7 b hl
 have h1 := QH h0 ((Qh b).2 != 0) 1 2
 unfold Q4
 dsimp only
 generalize zB (Qh b).1 ((Qh b).2 != 0) 1 2 = y1 at h1 ⊢
 have h2 := QH h1 y1.2.2 2 4
 generalize zB y1.2.1 y1.2.2 2 4 = y2 at h2 ⊢
 have h3 := QH h2 y2.2.2 3 1
 have h3b := qlY h2 y2.2.2 3
 generalize zB y2.2.1 y2.2.2 3 1 = y3 at h3 h3b ⊢
 generalize Zx y3.2.1 y3.2.2 4 = y4
 rw [hl, h0, h1, h2, h3, qqJ _ h3b.1 h3b.2]
 have k2 : n7 2 = true := rfl
 have k4 : n7 4 = true := rfl
 have k1 : n7 1 = true := rfl
 rw [k2, k4, k1]
 simp only [Bool.and_self, if_true]
 split
 ·rename_i c
  have : y4.2.2.1 = [] := by simpa using c
  rw [this]
 ·rfl
theorem Tk.pure (p t qk qx inc lo hi seq qo qP qD qb : Int) (l : LF) (bad : Bool) (hl : Qb l = true) :
  Tk.f 0 p t qk qx inc lo hi seq qo qP qD qb l bad = some ((Qy qk p l bad t).1, qk, qx, inc, lo, hi, seq, qo, qP, qD, qb, (Qy qk p l bad t).2.1, (Qy qk p l bad t).2.2) := by
 unfold Tk.f Tk.b Qy
 simp only [veil_eq]
 have k2 : n7 2 = true := rfl
 rw [hl, k2]
 cases qy qk p <;> rfl
theorem ql6 : SumOk Tryz.prog 95 qmX := by
 have hE : EnvOk Tryz.prog qqP := env_ok (l := [(91, qcU), (92, qbH), (94, qcW)]) th_ok qZ ⟨⟨qje, qij⟩, ⟨qfp, qeY⟩, ⟨qji, qil⟩, trivial⟩ _
 refine sum_ok hE Tryz.func95 rfl (by kernel_rfl) qmX [.dat tQr true, .raw] qey.k ?_
 intro R avs qm κ r h
 unfold qmX at h
 simp only at h
 split at h
 ·rename_i b
  split at h
  case isFalse => cases h
  rename_i hl
  refine ⟨0, _, _, _, (qey.eq (0) b).trans (qey.pure b hl), ?_, h⟩
  intro rs ros hk
  unfold qey.k at hk
  split at hk
  ·first | (cases hk; exact ⟨rfl, rfl⟩) | (rw [← Option.some.inj hk]; exact ⟨rfl, rfl⟩)
  ·cases hk
 ·cases h
theorem qnQ : SumDet qfx := zj fun _ _ _ _ => by
 unfold qfx
 simp only [veil_eq]
 split
 ·first | rfl | (split <;> rfl)
 ·rfl
theorem qo0 : SumOk Tryz.prog 95 qfx := ⟨ql6.1, fun avs qm κ r hr => ql6.2 avs qm κ r (by
 unfold qfx at hr
 simp only [veil_eq] at hr
 split at hr
 ·exact hr
 ·cases hr)⟩
theorem qoc : SumOk Tryz.prog 93 qq6 := by
 have hE : EnvOk Tryz.prog qsz := env_ok (l := [(41, qah), (92, qbH)]) th_ok qZ ⟨⟨qb0, qbk⟩, ⟨qfp, qeY⟩, trivial⟩ _
 refine sum_ok hE Tryz.func93 rfl (by kernel_rfl) qq6 [.raw] Tk.k ?_
 intro R avs qm κ r h
 unfold qq6 at h
 simp only at h
 split at h
 ·rename_i p t qk qx inc lo hi seq qo qP qD qb l bad
  split at h
  case isFalse => cases h
  rename_i hl
  refine ⟨0, _, _, _, (Tk.eq (0) p t qk qx inc lo hi seq qo qP qD qb l bad).trans (Tk.pure p t qk qx inc lo hi seq qo qP qD qb l bad hl), ?_, h⟩
  intro rs ros hk
  unfold Tk.k at hk
  split at hk
  ·first | (cases hk; exact ⟨rfl, rfl⟩) | (rw [← Option.some.inj hk]; exact ⟨rfl, rfl⟩)
  ·cases hk
 ·cases h
theorem qpY : SumDet qiU := zj fun _ _ _ _ => by
 unfold qiU
 simp only [veil_eq]
 split
 ·first | rfl | (split <;> rfl)
 ·rfl
theorem qq5 : SumOk Tryz.prog 93 qiU := ⟨qoc.1, fun avs qm κ r hr => qoc.2 avs qm κ r (by
 unfold qiU at hr
 simp only [veil_eq] at hr
 split at hr
 ·exact hr
 ·cases hr)⟩
def qct : LF → Option LR
 | [] => some []
 | x :: m => if !(Q4 x.2).2 || x.1 != 7 then none else (qct m).map fun r => (Q4 x.2).1 :: r
def qhF (bad : Bool) (qk qx inc lo hi seq qo : Int) (qc : Option LR) : Int × Int × Int × Int × Int × Int × Int × LR × Int :=
 match qc with
 | none => (0, 0, 0, 0, 0, 0, 0, [], 4)
 | some r => if !bad && qbS qk qx inc lo hi seq qo 0 0 0 r then (qk, qx, inc, lo, hi, seq, qo, r, 0) else (0, 0, 0, 0, 0, 0, 0, [], 4)
def zT (b : List Int) : Int × Int × Int × Int × Int × Int × Int × LR × Int :=
 let y := Qh b
 let y1 := zB y.1 (y.2 != 0 || decide ((b.length : Int) > 65499)) 1 1
 let y2 := zB y1.2.1 y1.2.2 2 2
 let y3 := zB y2.2.1 y2.2.2 3 6
 let y4 := Zx y3.2.1 y3.2.2 4
 let y5 := Qy y1.1 0 y4.2.2.1 y4.2.2.2 5
 let y6 := Qy y1.1 1 y5.2.1 y5.2.2 6
 qhF y6.2.2 y1.1 y2.1 y3.1 y4.1 y4.2.1 y5.1 y6.1 (qct y6.2.1)
def qm2 : Den.Sum := ⟨[.dat (.sl (.int .u8)) false], fun qK qm κ => match qK, qm with
 | [.d (.sl (.int .u8)) b], [] => if inS b = true then κ [.agg [.d (.int .i64) (zT b).1, .d (.int .i64) (zT b).2.1, .d (.int .i64) (zT b).2.2.1, .d (.int .i64) (zT b).2.2.2.1, .d (.int .i64) (zT b).2.2.2.2.1, .d (.int .i64) (zT b).2.2.2.2.2.1, .d (.int .i64) (zT b).2.2.2.2.2.2.1, .d (.int .i64) 0, .d (.int .i64) 0, .d (.int .i64) 0, .d (.sl (.pair (.int .i64) (.pair (.int .i64) (.pair (.int .i64) (.pair (.pair (.int .i64) (.int .i64)) (.pair .bool (.sl (.pair (.int .i64) (.sl (.int .u8)))))))))) ((zT b).2.2.2.2.2.2.2.1)], .d (.int .i64) ((zT b).2.2.2.2.2.2.2.2)] [] else none
 | _, _ => none⟩
def qfz : Den.Sum := ⟨[.dat (.sl (.int .u8)) false], fun qK qm κ => match qK, qm with
 | [.d (.sl (.int .u8)) b], [] => if inS b = true then (match veil (some (zT b)) with | none => none | some y => κ [.agg [.d (.int .i64) y.1, .d (.int .i64) y.2.1, .d (.int .i64) y.2.2.1, .d (.int .i64) y.2.2.2.1, .d (.int .i64) y.2.2.2.2.1, .d (.int .i64) y.2.2.2.2.2.1, .d (.int .i64) y.2.2.2.2.2.2.1, .d (.int .i64) 0, .d (.int .i64) 0, .d (.int .i64) 0, .d (.sl (.pair (.int .i64) (.pair (.int .i64) (.pair (.int .i64) (.pair (.pair (.int .i64) (.int .i64)) (.pair .bool (.sl (.pair (.int .i64) (.sl (.int .u8)))))))))) (y.2.2.2.2.2.2.2.1)], .d (.int .i64) (y.2.2.2.2.2.2.2.2)] []) else none
 | _, _ => none⟩
def qiP : Env := ⟨th, gam [(91, qcU), (93, qiU), (95, qfx), (87, qdf), (92, qbH), (94, qcW)], fun i => if i = 11 then ⟨[2, 6, 7, 50, 51, 52], [(1458, 54, tQr)], []⟩ else ⟨[], [], []⟩⟩
def zZ.k (rs : List AV) (os : List Den.Obj) : Option (Int × Int × Int × Int × Int × Int × Int × Int × Int × Int × LR × Int) :=
 match rs, os with
 | [.agg [.d (.int .i64) r0, .d (.int .i64) r1, .d (.int .i64) r2, .d (.int .i64) r3, .d (.int .i64) r4, .d (.int .i64) r5, .d (.int .i64) r6, .d (.int .i64) r7, .d (.int .i64) r8, .d (.int .i64) r9, .d (.sl (.pair (.int .i64) (.pair (.int .i64) (.pair (.int .i64) (.pair (.pair (.int .i64) (.int .i64)) (.pair .bool (.sl (.pair (.int .i64) (.sl (.int .u8)))))))))) r10], .d (.int .i64) r11], [] => some (r0, r1, r2, r3, r4, r5, r6, r7, r8, r9, r10, r11)
 | _, _ => none
def zZ.s11 (b : List Int) (x7 : LF) (x8 x9 : Int) (x10 : LF) (x11 : Bool) (x12 x13 x14 x15 x16 x17 x18 : Int) (x19 : LR) : St := ⟨[.dead, .dead, .ptr 64 0, dD, dD, dD, .ptr 65 0, .ptr 67 0, dD, dD, dD, dD, dD, dD, dD, dD, dD, dD, dD, dD, dD, dD, dD, dD, dD, dD, dD, dD, dD, dD, dD, dD, dD, dD, dD, dD, dD, dD, dD, dD, dD, dD, dD, dD, dD, dD, dD, dD, dD, dD, .d (.sl (.pair tQi (.sl (.int .u8)))) x7, .d tQi x8, .d tQi x9, dD, dD, dD, dD, dD, dD, dD, dD, dD, dD, dD, dD, dD, dD, dD, dD, dD, dD, dD, dD, dD, dD, dD, dD, dD, dD, dD, dD, dD, dD, dD, dD, dD, dD, .dead], ofL [(64, .box [.d tQi (0), .d tQi (0), .d tQi (0), .d tQi (0), .d tQi (0), .d tQi (0), .d tQi (0), .d tQi (0), .d tQi (0), .d tQi (0), .nilsl]), (65, .box [.ptr 66 0]), (66, .box [.d (.sl (.pair tQi (.sl (.int .u8)))) x10, .d .bool x11]), (67, .box [.d tQi x12, .d tQi x13, .d tQi x14, .d tQi x15, .d tQi x16, .d tQi x17, .d tQi x18, .d tQi (0), .d tQi (0), .d tQi (0), .row 68]), (68, .row 54 tQr x19 false)], 0⟩
def zZ.p11 (qa : Nat) (b : List Int) (k : Nat) := fun x7 x8 x9 x10 x11 x12 x13 x14 x15 x16 x17 x18 x19 => lp qiP qa Tryz.f63 [.dat (.pair tQi (.pair tQi (.pair tQi (.pair (.pair tQi tQi) (.pair tQi (.pair tQi (.pair tQi (.pair tQi (.pair tQi (.sl tQr)))))))))) true, .raw] 0 zZ.k 11 [] k (zZ.s11 b x7 x8 x9 x10 x11 x12 x13 x14 x15 x16 x17 x18 x19)
def zZ.b11 (b : List Int) (A11 : LF → Int → Int → LF → Bool → Int → Int → Int → Int → Int → Int → Int → LR → Option (Int × Int × Int × Int × Int × Int × Int × Int × Int × Int × LR × Int)) (x7 : LF) (x8 : Int) (x9 : Int) (x10 : LF) (x11 : Bool) (x12 : Int) (x13 : Int) (x14 : Int) (x15 : Int) (x16 : Int) (x17 : Int) (x18 : Int) (x19 : LR) : Option (Int × Int × Int × Int × Int × Int × Int × Int × Int × Int × LR × Int) :=
 (if (decide (x9 < x8)) then (match (idx x7 x9) with | none => none | some y20 => (if (inS y20.2) then (match (veil (Option.some (Q4 y20.2))) with | none => none | some y21 => (if (!y21.2) then some (0, 0, 0, 0, 0, 0, 0, 0, 0, 0, ([] : LR), (4 : Int)) else (if (y20.1 != (7 : Int)) then some (0, 0, 0, 0, 0, 0, 0, 0, 0, 0, ([] : LR), (4 : Int)) else (if ((((List.length x19) + (List.length ((y21.1.1, (y21.1.2.1, (y21.1.2.2.1, ((y21.1.2.2.2.1.1, y21.1.2.2.2.1.2), (y21.1.2.2.2.2.1, y21.1.2.2.2.2.2))))) :: ([] : LR)))) * (72 : Nat)) ≤ lim) then A11 x7 x8 (IntKind.wrap .i64 (x9 + (1 : Int))) x10 x11 x12 x13 x14 x15 x16 x17 x18 (x19 ++ ((y21.1.1, (y21.1.2.1, (y21.1.2.2.1, ((y21.1.2.2.2.1.1, y21.1.2.2.2.1.2), (y21.1.2.2.2.2.1, y21.1.2.2.2.2.2))))) :: ([] : LR))) else none)))) else none)) else (if x11 then some (0, 0, 0, 0, 0, 0, 0, 0, 0, 0, ([] : LR), (4 : Int)) else (if (q0 x19) then (if (!(qbS x12 x13 x14 x15 x16 x17 x18 0 0 0 x19)) then some (0, 0, 0, 0, 0, 0, 0, 0, 0, 0, ([] : LR), (4 : Int)) else some (x12, x13, x14, x15, x16, x17, x18, 0, 0, 0, x19, (0 : Int))) else none)))
def zZ.l11 (qa : Nat) (b : List Int) : Nat → LF → Int → Int → LF → Bool → Int → Int → Int → Int → Int → Int → Int → LR → Option (Int × Int × Int × Int × Int × Int × Int × Int × Int × Int × LR × Int)
 | 0, _, _, _, _, _, _, _, _, _, _, _, _, _ => none
 | k + 1, x7, x8, x9, x10, x11, x12, x13, x14, x15, x16, x17, x18, x19 => zZ.b11 b (zZ.l11 qa b k) x7 x8 x9 x10 x11 x12 x13 x14 x15 x16 x17 x18 x19
def zZ.b (b : List Int) (E11 : LF → Int → Int → LF → Bool → Int → Int → Int → Int → Int → Int → Int → LR → Option (Int × Int × Int × Int × Int × Int × Int × Int × Int × Int × LR × Int)) : Option (Int × Int × Int × Int × Int × Int × Int × Int × Int × Int × LR × Int) :=
 (if (inS b) then (match (veil (Option.some (Qh b))) with | none => none | some y0 => (if (y0.2 != (0 : Int)) then (if ((Qb y0.1) && (n7 (1 : Int))) then (match (veil (Option.some (zB y0.1 true (1 : Int) (1 : Int)))) with | none => none | some y1 => (if ((Qb y1.2.1) && (n7 (2 : Int))) then (match (veil (Option.some (zB y1.2.1 y1.2.2 (2 : Int) (2 : Int)))) with | none => none | some y2 => (if ((Qb y2.2.1) && (n7 (6 : Int))) then (match (veil (Option.some (zB y2.2.1 y2.2.2 (3 : Int) (6 : Int)))) with | none => none | some y3 => (if (Qb y3.2.1) then (match (veil (Option.some (Zx y3.2.1 y3.2.2 (4 : Int)))) with | none => none | some y4 => (if (Qb y4.2.2.1) then (match (veil (Option.some (Qy y1.1 (0 : Int) y4.2.2.1 y4.2.2.2 (5 : Int)))) with | none => none | some y5 => (if (Qb y5.2.1) then (match (veil (Option.some (Qy y1.1 (1 : Int) y5.2.1 y5.2.2 (6 : Int)))) with | none => none | some y6 => E11 y6.2.1 ((((List.length y6.2.1)) : Nat) : Int) (0 : Int) y6.2.1 y6.2.2 y1.1 y2.1 y3.1 y4.1 y4.2.1 y5.1 y6.1 ([] : LR)) else none)) else none)) else none)) else none)) else none)) else none) else (if ((Qb y0.1) && (n7 (1 : Int))) then (match (veil (Option.some (zB y0.1 (decide (((((List.length b)) : Nat) : Int) > (65499 : Int))) (1 : Int) (1 : Int)))) with | none => none | some y22 => (if ((Qb y22.2.1) && (n7 (2 : Int))) then (match (veil (Option.some (zB y22.2.1 y22.2.2 (2 : Int) (2 : Int)))) with | none => none | some y23 => (if ((Qb y23.2.1) && (n7 (6 : Int))) then (match (veil (Option.some (zB y23.2.1 y23.2.2 (3 : Int) (6 : Int)))) with | none => none | some y24 => (if (Qb y24.2.1) then (match (veil (Option.some (Zx y24.2.1 y24.2.2 (4 : Int)))) with | none => none | some y25 => (if (Qb y25.2.2.1) then (match (veil (Option.some (Qy y22.1 (0 : Int) y25.2.2.1 y25.2.2.2 (5 : Int)))) with | none => none | some y26 => (if (Qb y26.2.1) then (match (veil (Option.some (Qy y22.1 (1 : Int) y26.2.1 y26.2.2 (6 : Int)))) with | none => none | some y27 => E11 y27.2.1 ((((List.length y27.2.1)) : Nat) : Int) (0 : Int) y27.2.1 y27.2.2 y22.1 y23.1 y24.1 y25.1 y25.2.1 y26.1 y27.1 ([] : LR)) else none)) else none)) else none)) else none)) else none)) else none))) else none)
def zZ.f (qa : Nat) (b : List Int) : Option (Int × Int × Int × Int × Int × Int × Int × Int × Int × Int × LR × Int) := zZ.b b (zZ.l11 qa b qa)
theorem zZ.l11_eq (qa : Nat) (b : List Int) : ∀ k : Nat, zZ.p11 qa b k = zZ.l11 qa b k
 | 0 => by kernel_rfl
 | k + 1 => by
  refine Eq.trans (b := zZ.b11 b (zZ.p11 qa b k)) (by kernel_rfl) ?_
  rw [zZ.l11_eq qa b k]
  kernel_rfl
theorem zZ.eq (qa : Nat) (b : List Int) : (denF qiP loopN qa Tryz.f63 [.dat (.pair tQi (.pair tQi (.pair tQi (.pair (.pair tQi tQi) (.pair tQi (.pair tQi (.pair tQi (.pair tQi (.pair tQi (.sl tQr)))))))))) true, .raw] [.d (.sl (.int .u8)) b] [] zZ.k) = zZ.f qa b := by
 refine Eq.trans (b := zZ.b b (zZ.p11 qa b qa)) (by kernel_rfl) ?_
 rw [zZ.l11_eq qa b qa]
 kernel_rfl
def qsq (e : Int × Int × Int × Int × Int × Int × Int × LR × Int) : Int × Int × Int × Int × Int × Int × Int × Int × Int × Int × LR × Int :=
 (e.1, e.2.1, e.2.2.1, e.2.2.2.1, e.2.2.2.2.1, e.2.2.2.2.2.1, e.2.2.2.2.2.2.1, 0, 0, 0, e.2.2.2.2.2.2.2.1, e.2.2.2.2.2.2.2.2)
theorem qk3 {l : LF} (h : Qb l = true) : zx l = true := by
 obtain ⟨h1, h2⟩ := (qaP l).1 h
 refine (qaQ l).2 ⟨by omega, fun x hx => ?_⟩
 have := ((qbK _).1 (h2 x hx)).2
 omega
theorem qmd (b : List Int) (hl : inS b = true) : Qb (Q4 b).1.2.2.2.2.2 = true := by
 unfold Q4
 dsimp only
 exact qif (QH (QH (QH (qd7 b hl) _ _ _) _ _ _) _ _ _) _ _
theorem zZ.loop (qa : Nat) (b : List Int) (fs fs' : LF) (bad : Bool) (qk qx inc lo hi seq qo : Int) (hf : Qb fs = true) : ∀ (k i : Nat) (acc : LR), i ≤ fs.length → fs.length - i < k → acc.length + (fs.length - i) < 2000000000 → (∀ r ∈ acc, zx r.2.2.2.2.2 = true) →
  zZ.l11 qa b k fs (fs.length : Int) (i : Int) fs' bad qk qx inc lo hi seq qo acc = some (qsq (qhF bad qk qx inc lo hi seq qo ((qct (fs.drop i)).map fun r => acc ++ r))) := by
 obtain ⟨hf1, hf2⟩ := (qaP fs).1 hf
 intro k
 induction k with
 | zero => intro i acc h1 h2; omega
 | succ k ih =>
  intro i acc h1 h2 h3 h4
  rw [zZ.l11]
  unfold zZ.b11
  simp only [veil_eq]
  by_cases hi' : i < fs.length
  ·rw [if_pos (by simp; omega), Qm, List.getElem?_eq_getElem hi']
   dsimp only
   have hx := hf2 fs[i] (List.getElem_mem hi')
   rw [List.drop_eq_getElem_cons hi', qct]
   generalize fs[i] = x at hx ⊢
   rw [if_pos hx]
   have hsm := qk3 (qmd x.2 hx)
   cases c1 : (Q4 x.2).2
   ·rw [if_pos (by simp), if_pos (by simp)]
    rfl
   ·by_cases c2 : x.1 = 7
    ·rw [if_neg (by simp), if_neg (by simpa using c2), if_pos (by simp [lim]; omega), if_neg (by simp [c2]), qX ((i : Int) + 1) (by omega) (by omega)]
     simp only [qlF]
     have := ih (i + 1) (acc ++ [(Q4 x.2).1]) (by omega) (by omega) (by simp; omega) (by
      intro r hr
      rcases List.mem_append.1 hr with hr | hr
      ·exact h4 r hr
      ·simp at hr; subst hr; exact hsm)
     rw [show ((i + 1 : Nat) : Int) = (i : Int) + 1 from by omega] at this
     rw [this]
     cases qct (fs.drop (i + 1)) <;> simp
    ·rw [if_neg (by simp), if_pos (by simpa using c2), if_pos (by simp [c2])]
     rfl
  ·rw [if_neg (by simp; omega), List.drop_of_length_le (by omega)]
   have hs : q0 acc = true := (Zn acc).2 ⟨by omega, h4⟩
   cases bad
   ·rw [if_neg (by simp), hs, if_pos rfl]
    simp only [qct, Option.map_some, List.append_nil, qhF, Bool.not_false, Bool.true_and]
    cases qbS qk qx inc lo hi seq qo 0 0 0 acc <;> rfl
   ·rfl
theorem qcB {l : LF} (h : Qb l = true) (qk p : Int) (bad : Bool) (t : Int) : Qb (Qy qk p l bad t).2.1 = true := by
 unfold Qy
 split
 ·exact QH h bad t 2
 ·exact h
theorem qcj {l : LF} (bad : Bool) (t n : Int) : (zB l bad t n).2.1.length ≤ l.length := by
 unfold zB
 cases l with
 | nil => simp
 | cons x m => dsimp only; split <;> simp
theorem qfm {l : LF} (qk p : Int) (bad : Bool) (t : Int) : (Qy qk p l bad t).2.1.length ≤ l.length := by
 unfold Qy
 split
 ·exact qcj bad t 2
 ·simp
theorem qpT (b : List Int) (h : inS b = true) : (Qh b).1.length ≤ b.length := by
 obtain ⟨hb, hl⟩ := (qbK b).1 h
 unfold Qh
 cases hs : Ze b.length b with
 | none => simp
 | some r =>
  have := (qd8 b.length b r (qd1 hb) hs).2.1
  show r.length ≤ _
  omega
theorem zZ.pure (b : List Int) (hl : inS b = true) : zZ.f (b.length + 1) b = some (qsq (zT b)) := by
 have hbl := ((qbK b).1 hl).2
 unfold zZ.f zZ.b
 simp only [veil_eq]
 have h0 := qd7 b hl
 have g0 := qpT b hl
 rw [hl, if_pos rfl, h0]
 have k2 : n7 2 = true := rfl
 have k6 : n7 6 = true := rfl
 have k1 : n7 1 = true := rfl
 rw [k2, k6, k1]
 unfold zT
 dsimp only
 cases hy : ((Qh b).2 != 0)
 ·rw [if_neg (by simp), Bool.false_or]
  generalize decide ((b.length : Int) > 65499) = bad0
  have h1 := QH h0 bad0 1 1
  have g1 := @qcj (Qh b).1 bad0 1 1
  generalize zB (Qh b).1 bad0 1 1 = y1 at h1 g1 ⊢
  have h2 := QH h1 y1.2.2 2 2
  have g2 := @qcj y1.2.1 y1.2.2 2 2
  generalize zB y1.2.1 y1.2.2 2 2 = y2 at h2 g2 ⊢
  have h3 := QH h2 y2.2.2 3 6
  have g3 := @qcj y2.2.1 y2.2.2 3 6
  generalize zB y2.2.1 y2.2.2 3 6 = y3 at h3 g3 ⊢
  have h4 := qif h3 y3.2.2 4
  have g4 : (Zx y3.2.1 y3.2.2 4).2.2.1.length ≤ _ := @qcj y3.2.1 y3.2.2 4 1
  generalize Zx y3.2.1 y3.2.2 4 = y4 at h4 g4 ⊢
  have h5 := qcB h4 y1.1 0 y4.2.2.2 5
  have g5 := @qfm y4.2.2.1 y1.1 0 y4.2.2.2 5
  generalize Qy y1.1 0 y4.2.2.1 y4.2.2.2 5 = y5 at h5 g5 ⊢
  have h6 := qcB h5 y1.1 1 y5.2.2 6
  have g6 := @qfm y5.2.1 y1.1 1 y5.2.2 6
  generalize Qy y1.1 1 y5.2.1 y5.2.2 6 = y6 at h6 g6 ⊢
  have hlp := zZ.loop (b.length + 1) b y6.2.1 y6.2.1 y6.2.2 y1.1 y2.1 y3.1 y4.1 y4.2.1 y5.1 y6.1 h6 (b.length + 1) 0 [] (by omega) (by omega) (by simp; omega) (by simp)
  rw [show ((0 : Nat) : Int) = 0 from rfl, List.drop_zero] at hlp
  simp only [Bool.and_true, if_true, h1, h2, h3, h4, h5, h6]
  rw [hlp]
  simp
 ·rw [if_pos rfl, Bool.true_or]
  have h1 := QH h0 true 1 1
  have g1 := @qcj (Qh b).1 true 1 1
  generalize zB (Qh b).1 true 1 1 = y1 at h1 g1 ⊢
  have h2 := QH h1 y1.2.2 2 2
  have g2 := @qcj y1.2.1 y1.2.2 2 2
  generalize zB y1.2.1 y1.2.2 2 2 = y2 at h2 g2 ⊢
  have h3 := QH h2 y2.2.2 3 6
  have g3 := @qcj y2.2.1 y2.2.2 3 6
  generalize zB y2.2.1 y2.2.2 3 6 = y3 at h3 g3 ⊢
  have h4 := qif h3 y3.2.2 4
  have g4 : (Zx y3.2.1 y3.2.2 4).2.2.1.length ≤ _ := @qcj y3.2.1 y3.2.2 4 1
  generalize Zx y3.2.1 y3.2.2 4 = y4 at h4 g4 ⊢
  have h5 := qcB h4 y1.1 0 y4.2.2.2 5
  have g5 := @qfm y4.2.2.1 y1.1 0 y4.2.2.2 5
  generalize Qy y1.1 0 y4.2.2.1 y4.2.2.2 5 = y5 at h5 g5 ⊢
  have h6 := qcB h5 y1.1 1 y5.2.2 6
  have g6 := @qfm y5.2.1 y1.1 1 y5.2.2 6
  generalize Qy y1.1 1 y5.2.1 y5.2.2 6 = y6 at h6 g6 ⊢
  have hlp := zZ.loop (b.length + 1) b y6.2.1 y6.2.1 y6.2.2 y1.1 y2.1 y3.1 y4.1 y4.2.1 y5.1 y6.1 h6 (b.length + 1) 0 [] (by omega) (by omega) (by simp; omega) (by simp)
  rw [show ((0 : Nat) : Int) = 0 from rfl, List.drop_zero] at hlp
  simp only [Bool.and_true, if_true, h1, h2, h3, h4, h5, h6]
  rw [hlp]
  simp
theorem ql9 : SumOk Tryz.prog 63 qm2 := by
 have hE : EnvOk Tryz.prog qiP := env_ok (l := [(91, qcU), (93, qiU), (95, qfx), (87, qdf), (92, qbH), (94, qcW)]) th_ok qZ ⟨⟨qje, qij⟩, ⟨qq5, qpY⟩, ⟨qo0, qnQ⟩, ⟨qkC, qjj⟩, ⟨qfp, qeY⟩, ⟨qji, qil⟩, trivial⟩ _
 refine sum_ok hE Tryz.func63 rfl (by kernel_rfl) qm2 [.dat (.pair tQi (.pair tQi (.pair tQi (.pair (.pair tQi tQi) (.pair tQi (.pair tQi (.pair tQi (.pair tQi (.pair tQi (.sl tQr)))))))))) true, .raw] zZ.k ?_
 intro R avs qm κ r h
 unfold qm2 at h
 simp only at h
 split at h
 ·rename_i b
  split at h
  case isFalse => cases h
  rename_i hl
  refine ⟨b.length + 1, _, _, _, (zZ.eq (b.length + 1) b).trans (zZ.pure b hl), ?_, h⟩
  intro rs ros hk
  unfold zZ.k at hk
  split at hk
  ·first | (cases hk; exact ⟨rfl, rfl⟩) | (rw [← Option.some.inj hk]; exact ⟨rfl, rfl⟩)
  ·cases hk
 ·cases h
theorem qnT : SumDet qfz := zj fun _ _ _ _ => by
 unfold qfz
 simp only [veil_eq]
 split
 ·first | rfl | (split <;> rfl)
 ·rfl
theorem qo8 : SumOk Tryz.prog 63 qfz := ⟨ql9.1, fun avs qm κ r hr => ql9.2 avs qm κ r (by
 unfold qfz at hr
 simp only [veil_eq] at hr
 split at hr
 ·exact hr
 ·cases hr)⟩
theorem qc7 {l : LF} (hf : Qb l = true) (bad : Bool) (t n : Int) (n1 : 1 ≤ n) (n7 : n ≤ 7) (h : (zB l bad t n).2.2 = false) :
  bad = false ∧ l.flatMap Qi = itB t n (zB l bad t n).1 ++ (zB l bad t n).2.1.flatMap Qi := by
 unfold zB at h ⊢
 cases l with
 | nil => cases h
 | cons x m =>
  dsimp only at h ⊢
  split at h
  ·cases h
  ·rename_i c
   rw [if_neg c]
   simp at c
   unfold qeI at h ⊢
   split at h
   ·rename_i c2
    rw [if_pos c2]
    simp at c2
    refine ⟨c.1, ?_⟩
    have hx := qd1 ((qbK _).1 (((qaP _).1 hf).2 x (by simp))).1
    have hb := qoq x.2 hx
    rw [List.flatMap_cons]
    unfold Qi itB
    rw [show n.toNat = x.2.length from by omega, hb, c.2]
    have e1 : ((x.2.length / 256 : Nat) : Int) = 0 := by omega
    have e2 : ((x.2.length % 256 : Nat) : Int) = n := by omega
    rw [e1, e2]
    try rfl
   ·cases h
theorem qlI {c : Int} (h : okS (zW Qv c).1 (zW Qv c).2.1 = true) : (zW Qv c).1 * 16 + (zW Qv c).2.1 = c := by
 have h2 : (zW Qv c).2.2 = true := by
  unfold Qv zW zW zW zW zW zW zW at h ⊢
  split
  ·rfl
  rename_i c1
  rw [if_neg c1] at h
  split
  ·rfl
  rename_i c2
  rw [if_neg c2] at h
  split
  ·rfl
  rename_i c3
  rw [if_neg c3] at h
  split
  ·rfl
  rename_i c4
  rw [if_neg c4] at h
  split
  ·rfl
  rename_i c5
  rw [if_neg c5] at h
  split
  ·rfl
  rename_i c6
  rw [if_neg c6] at h
  cases h
 have := qmf h2
 rw [qeT h] at this
 exact this
theorem qr3 (b : List Int) (hl : inS b = true) (h : (Q4 b).2 = true) (hr : zE (Q4 b).1 = true) : Q9 (Q4 b).1 = b := by
 have f7 := (zH hr).2.2.2.2.2.2.1
 unfold Q4 at h f7 ⊢
 dsimp only at h f7 ⊢
 have h0 := qd7 b hl
 have h1 := QH h0 ((Qh b).2 != 0) 1 2
 have t1 := qc7 h0 ((Qh b).2 != 0) 1 2 (by omega) (by omega)
 generalize zB (Qh b).1 ((Qh b).2 != 0) 1 2 = y1 at *
 have h2 := QH h1 y1.2.2 2 4
 have t2 := qc7 h1 y1.2.2 2 4 (by omega) (by omega)
 generalize zB y1.2.1 y1.2.2 2 4 = y2 at *
 have h3 := QH h2 y2.2.2 3 1
 have h3b := qlY h2 y2.2.2 3
 have t3 := qc7 h2 y2.2.2 3 1 (by omega) (by omega)
 generalize zB y2.2.1 y2.2.2 3 1 = y3 at *
 have t4 := qc7 h3 y3.2.2 4 1 (by omega) (by omega)
 unfold Zx at h f7 ⊢
 dsimp only at h f7 ⊢
 have e4 := qlI f7
 generalize zB y3.2.1 y3.2.2 4 1 = y4 at *
 obtain ⟨q4, p4⟩ := t4 (by simpa using h)
 obtain ⟨q3, p3⟩ := t3 q4
 obtain ⟨q2, p2⟩ := t2 q3
 obtain ⟨q1, p1⟩ := t1 q2
 have hs : (Qh b).1.flatMap Qi = b := by
  unfold Qh at q1 ⊢
  cases hs : Ze b.length b with
  | none => rw [hs] at q1; simp at q1
  | some r => exact (qd8 b.length b r (qd1 ((qbK b).1 hl).1) hs).1
 unfold Q9 qet
 dsimp only
 rw [e4]
 have e3 : (if decide (y3.1 ≥ 128) = true then y3.1 % 128 + 128 else y3.1 % 128) = y3.1 := by
  split
  ·rename_i c; simp at c; omega
  ·rename_i c; simp at c; omega
 rw [e3]
 conv => rhs; rw [← hs, p1, p2, p3, p4]
theorem qm6 : ∀ (fs : LF) (r : LR), Qb fs = true → qct fs = some r → (∀ x ∈ r, zE x = true) → r.flatMap qeh = fs.flatMap Qi ∧ ∀ x ∈ r, zx x.2.2.2.2.2 = true
 | [], r, hf, h, hr => by
  simp [qct] at h
  subst h
  exact ⟨rfl, by simp⟩
 | x :: m, r, hf, h, hr => by
  rw [qct] at h
  obtain ⟨f1, f2⟩ := (qaP _).1 hf
  have hm : Qb m = true := (qaP _).2 ⟨by simp at f1; omega, fun y hy => f2 y (by simp [hy])⟩
  split at h
  ·cases h
  ·rename_i c
   simp at c
   cases hs : qct m with
   | none => rw [hs] at h; cases h
   | some q =>
    rw [hs] at h
    simp at h
    subst h
    obtain ⟨i1, i2⟩ := qm6 m q hm hs (fun y hy => hr y (by simp [hy]))
    have hx := f2 x (by simp)
    have hrx := hr (Q4 x.2).1 (by simp)
    refine ⟨?_, ?_⟩
    ·rw [List.flatMap_cons, List.flatMap_cons, i1]
     unfold qeh
     rw [qr3 x.2 hx c.1 hrx, ← c.2]
    ·intro y hy
     rcases List.mem_cons.1 hy with rfl | hy
     ·exact qk3 (qmd x.2 hx)
     ·exact i2 y hy
theorem ql0 {l : LF} (hf : Qb l = true) (qk p : Int) (bad : Bool) (t : Int) (h : (Qy qk p l bad t).2.2 = false) :
  bad = false ∧ l.flatMap Qi = (if qy qk p then itB t 2 (Qy qk p l bad t).1 else []) ++ (Qy qk p l bad t).2.1.flatMap Qi := by
 unfold Qy at h ⊢
 cases hc : qy qk p
 ·rw [hc] at h
  simp at h ⊢
  exact h
 ·rw [hc] at h
  simp at h ⊢
  exact qc7 hf bad t 2 (by omega) (by omega) h
theorem qsu (l : List Int) (hl : inS l = true) (h : (zT l).2.2.2.2.2.2.2.2 = 0) :
  qbS (zT l).1 (zT l).2.1 (zT l).2.2.1 (zT l).2.2.2.1 (zT l).2.2.2.2.1 (zT l).2.2.2.2.2.1 (zT l).2.2.2.2.2.2.1 0 0 0 (zT l).2.2.2.2.2.2.2.1 = true ∧
  qaj (zT l).1 (zT l).2.1 (zT l).2.2.1 (zT l).2.2.2.1 (zT l).2.2.2.2.1 (zT l).2.2.2.2.2.1 (zT l).2.2.2.2.2.2.1 (zT l).2.2.2.2.2.2.2.1 = l ∧ q0 (zT l).2.2.2.2.2.2.2.1 = true := by
 unfold zT at h ⊢
 dsimp only at h ⊢
 have h0 := qd7 l hl
 generalize hb0 : ((Qh l).2 != 0 || decide ((l.length : Int) > 65499)) = bad0 at *
 have h1 := QH h0 bad0 1 1
 have t1 := qc7 h0 bad0 1 1 (by omega) (by omega)
 generalize zB (Qh l).1 bad0 1 1 = y1 at *
 have h2 := QH h1 y1.2.2 2 2
 have t2 := qc7 h1 y1.2.2 2 2 (by omega) (by omega)
 generalize zB y1.2.1 y1.2.2 2 2 = y2 at *
 have h3 := QH h2 y2.2.2 3 6
 have t3 := qc7 h2 y2.2.2 3 6 (by omega) (by omega)
 generalize zB y2.2.1 y2.2.2 3 6 = y3 at *
 have h4 := QH h3 y3.2.2 4 1
 have t4 := qc7 h3 y3.2.2 4 1 (by omega) (by omega)
 unfold Zx at h ⊢
 dsimp only at h ⊢
 generalize zB y3.2.1 y3.2.2 4 1 = y4 at *
 have h5 := qcB h4 y1.1 0 y4.2.2 5
 have t5 := ql0 h4 y1.1 0 y4.2.2 5
 generalize Qy y1.1 0 y4.2.1 y4.2.2 5 = y5 at *
 have h6 := qcB h5 y1.1 1 y5.2.2 6
 have t6 := ql0 h5 y1.1 1 y5.2.2 6
 generalize Qy y1.1 1 y5.2.1 y5.2.2 6 = y6 at *
 cases hr : qct y6.2.1 with
 | none => rw [hr] at h; simp [qhF] at h
 | some r =>
  rw [hr] at h
  unfold qhF at h ⊢
  dsimp only at h ⊢
  split at h
  ·rename_i c
   rw [if_pos c]
   dsimp only
   simp at c
   obtain ⟨hv, w1, w2, w3, w4⟩ := qgy c.2
   obtain ⟨v1, v2, v3, v4, v5, v6, v7, v8, v9, v10, v11, _, v12, v13⟩ := Qk hv
   obtain ⟨i1, i2⟩ := qm6 y6.2.1 r h6 hr v13
   obtain ⟨q6, p6⟩ := t6 c.1
   obtain ⟨q5, p5⟩ := t5 q6
   obtain ⟨q4, p4⟩ := t4 q5
   obtain ⟨q3, p3⟩ := t3 q4
   obtain ⟨q2, p2⟩ := t2 q3
   obtain ⟨q1, p1⟩ := t1 q2
   have hs : (Qh l).1.flatMap Qi = l := by
    rw [q1] at hb0
    unfold Qh at hb0 ⊢
    cases hs : Ze l.length l with
    | none => rw [hs] at hb0; simp at hb0
    | some r => exact (qd8 l.length l r (qd1 ((qbK l).1 hl).1) hs).1
   refine ⟨c.2, ?_, (Zn r).2 ⟨by omega, i2⟩⟩
   unfold qaj
   rw [qlI v7, i1]
   conv => rhs; rw [← hs, p1, p2, p3, p4, p5, p6]
  ·cases h
def qiB : Env := ⟨th, gam [(76, QJ)], fun i => ⟨[], [], []⟩⟩
def Zm.k (rs : List AV) (os : List Den.Obj) : Option Bool :=
 match rs, os with
 | [.d .bool r0], [] => some r0
 | _, _ => none
def Zm.b (qj qs qH qe qf qG qg qr ql qq : Int) (qh : LR) (gen : Int) : Option Bool :=
 (if (q0 qh) then (if (zb qj qs qH qe qf qG qg qr ql qq qh) then (if (decide (gen ≥ (1 : Int))) then some ((decide (gen ≤ (3 : Int)))) else some (false)) else some (false)) else none)
def Zm.f (qa : Nat) (qj qs qH qe qf qG qg qr ql qq : Int) (qh : LR) (gen : Int) : Option Bool := Zm.b qj qs qH qe qf qG qg qr ql qq qh gen
theorem Zm.eq (qa : Nat) (qj qs qH qe qf qG qg qr ql qq : Int) (qh : LR) (gen : Int) : (denF qiB loopN qa Tryz.f102 [.raw] [.agg [.d tQi qj, .d tQi qs, .d tQi qH, .d tQi qe, .d tQi qf, .d tQi qG, .d tQi qg, .d tQi qr, .d tQi ql, .d tQi qq, .d (.sl tQr) qh], .d tQi gen] [] Zm.k) = Zm.f qa qj qs qH qe qf qG qg qr ql qq qh gen := by
 kernel_rfl
def qau : Den.Sum := ⟨[.dat (.pair tQi (.pair tQi (.pair tQi (.pair (.pair tQi tQi) (.pair tQi (.pair tQi (.pair tQi (.pair tQi (.pair tQi (.sl tQr)))))))))) true, .raw], fun qK qm κ => match qK, qm with
 | [.agg [.d (.int .i64) qj, .d (.int .i64) qs, .d (.int .i64) qH, .d (.int .i64) qe, .d (.int .i64) qf, .d (.int .i64) qG, .d (.int .i64) qg, .d (.int .i64) qr, .d (.int .i64) ql, .d (.int .i64) qq, .d (.sl (.pair (.int .i64) (.pair (.int .i64) (.pair (.int .i64) (.pair (.pair (.int .i64) (.int .i64)) (.pair .bool (.sl (.pair (.int .i64) (.sl (.int .u8)))))))))) qh], .d (.int .i64) gen], [] => (match veil (Zm.f BIG qj qs qH qe qf qG qg qr ql qq qh gen) with | none => none | some y => κ [.d .bool y] [])
 | _, _ => none⟩
theorem qfO : SumDet qau := zj fun _ _ _ _ => by
 unfold qau
 simp only [veil_eq]
 split
 ·split <;> rfl
 ·rfl
theorem qgc : SumOk Tryz.prog 102 qau := by
 have hE : EnvOk Tryz.prog qiB := env_ok (l := [(76, QJ)]) th_ok qZ ⟨⟨qas, qad⟩, trivial⟩ _
 refine sum_ok hE Tryz.func102 rfl (by kernel_rfl) qau [.raw] Zm.k ?_
 intro R avs qm κ r h
 unfold qau at h
 simp only [veil_eq] at h
 split at h
 ·rename_i qj qs qH qe qf qG qg qr ql qq qh gen
  split at h
  ·cases h
  ·rename_i y hy
   refine ⟨BIG, _, _, _, (Zm.eq BIG qj qs qH qe qf qG qg qr ql qq qh gen).trans hy, ?_, h⟩
   intro rs ros hk
   unfold Zm.k at hk
   split at hk
   ·rw [← sj hk]; exact ⟨rfl, rfl⟩
   ·cases hk
 ·cases h
def qk7 : Env := ⟨th, gam [], fun i => ⟨[], [], []⟩⟩
def qan.k (rs : List AV) (os : List Den.Obj) : Option Int :=
 match rs, os with
 | [.d (.int .i64) r0], [] => some r0
 | _, _ => none
def qan.b (gen : Int) : Option Int :=
 (if (gen == (1 : Int)) then some ((65535 : Int)) else (if (gen == (2 : Int)) then some ((veil (4294967295 : Int))) else some ((veil (281474976710655 : Int)))))
def qan.f (qa : Nat) (gen : Int) : Option Int := qan.b gen
theorem qan.eq (qa : Nat) (gen : Int) : (denF qk7 loopN qa Tryz.f103 [.raw] [.d tQi gen] [] qan.k) = qan.f qa gen := by
 kernel_rfl
def qcp : Den.Sum := ⟨[.raw], fun qK qm κ => match qK, qm with
 | [.d (.int .i64) gen], [] => (match veil (qan.f BIG gen) with | none => none | some y => κ [.d (.int .i64) y] [])
 | _, _ => none⟩
theorem qlA : SumDet qcp := zj fun _ _ _ _ => by
 unfold qcp
 simp only [veil_eq]
 split
 ·split <;> rfl
 ·rfl
theorem qmy : SumOk Tryz.prog 103 qcp := by
 have hE : EnvOk Tryz.prog qk7 := env_ok (l := []) th_ok qZ trivial _
 refine sum_ok hE Tryz.func103 rfl (by kernel_rfl) qcp [.raw] qan.k ?_
 intro R avs qm κ r h
 unfold qcp at h
 simp only [veil_eq] at h
 split at h
 ·rename_i gen
  split at h
  ·cases h
  ·rename_i y hy
   refine ⟨BIG, _, _, _, (qan.eq BIG gen).trans hy, ?_, h⟩
   intro rs ros hk
   unfold qan.k at hk
   split at hk
   ·rw [← sj hk]; exact ⟨rfl, rfl⟩
   ·cases hk
 ·cases h
def qiC : Env := ⟨th, gam [], fun i => ⟨[], [], []⟩⟩
def zn.k (rs : List AV) (os : List Den.Obj) : Option (List Int) :=
 match rs, os with
 | [], [.box [.row 2], .gone, .row 155 (.int .i64) r0 false] => some r0
 | _, _ => none
def zn.b (is0 : Bool) (r0 : Int) (l : List Int) : Option (List Int) :=
 (if is0 then (if ((((List.length l) + (List.length (r0 :: ([] : List Int)))) * (8 : Nat)) ≤ lim) then some ((l ++ (r0 :: ([] : List Int)))) else none) else some (l))
def zn.f (qa : Nat) (is0 : Bool) (r0 : Int) (l : List Int) : Option (List Int) := zn.b is0 r0 l
theorem zn.eq (qa : Nat) (is0 : Bool) (r0 : Int) (l : List Int) : (denF qiC loopN qa Tryz.f104 [.pb [.own (some 0) [] 0 155 tQi true, .kill 1]] [.d .bool is0, .d tQi r0, .ptr 0 0] [.box [.row 1], .row 155 tQi l false] zn.k) = zn.f qa is0 r0 l := by
 kernel_rfl
def qby : Den.Sum := ⟨[.raw, .raw, .pb [.own none [] 0 155 tQi false]], fun qK qm κ => match qK, qm with
 | [.d .bool is0, .d (.int .i64) r0, .ptr 0 0], [.box [.row 1], .row 155 (.int .i64) l false] => (match veil (zn.f BIG is0 r0 l) with | none => none | some y => κ [] [.box [.row 2], .gone, .row 155 (.int .i64) y false])
 | _, _ => none⟩
theorem qjP : SumDet qby := zj fun _ _ _ _ => by
 unfold qby
 simp only [veil_eq]
 split
 ·split <;> rfl
 ·rfl
theorem qkE : SumOk Tryz.prog 104 qby := by
 have hE : EnvOk Tryz.prog qiC := env_ok (l := []) th_ok qZ trivial _
 refine sum_ok hE Tryz.func104 rfl (by kernel_rfl) qby [.pb [.own (some 0) [] 0 155 tQi true, .kill 1]] zn.k ?_
 intro R avs qm κ r h
 unfold qby at h
 simp only [veil_eq] at h
 split at h
 ·rename_i is0 r0 l
  split at h
  ·cases h
  ·rename_i y hy
   refine ⟨BIG, _, _, _, (zn.eq BIG is0 r0 l).trans hy, ?_, h⟩
   intro rs ros hk
   unfold zn.k at hk
   split at hk
   ·rw [← sj hk]; exact ⟨rfl, rfl⟩
   ·cases hk
 ·cases h
def qe5 : Env := ⟨th, gam [], fun i => ⟨[], [], []⟩⟩
def z6.k (rs : List AV) (os : List Den.Obj) : Option (List Int) :=
 match rs, os with
 | [.ptr 0 0], [.box [.row 2, .d .bool false], .gone, .row 5 (.int .u8) r0 false] => some r0
 | _, _ => none
def z6.b (l b : List Int) : Option (List Int) :=
 (if ((((List.length l) + (List.length b)) * (1 : Nat)) ≤ lim) then some ((l ++ b)) else none)
def z6.f (qa : Nat) (l b : List Int) : Option (List Int) := z6.b l b
theorem z6.eq (qa : Nat) (l b : List Int) : (denF qe5 loopN qa Tryz.f130 [.raw, .pb [.own (some 0) [] 0 5 (.int .u8) true, .kill 1]] [.ptr 0 0, .d (.sl (.int .u8)) b] [.box [.row 1, .d .bool false], .row 5 (.int .u8) l false] z6.k) = z6.f qa l b := by
 kernel_rfl
def QY : Den.Sum := ⟨[.pb [.own none [] 0 5 (.int .u8) false], .dat (.sl (.int .u8)) false], fun qK qm κ => match qK, qm with
 | [.ptr 0 0, .d (.sl (.int .u8)) b], [.box [.row 1, .d .bool false], .row 5 (.int .u8) l false] => (match veil (z6.f BIG l b) with | none => none | some y => κ [.ptr 0 0] [.box [.row 2, .d .bool false], .gone, .row 5 (.int .u8) y false])
 | _, _ => none⟩
theorem qdx : SumDet QY := zj fun _ _ _ _ => by
 unfold QY
 simp only [veil_eq]
 split
 ·split <;> rfl
 ·rfl
theorem qdV : SumOk Tryz.prog 130 QY := by
 have hE : EnvOk Tryz.prog qe5 := env_ok (l := []) th_ok qZ trivial _
 refine sum_ok hE Tryz.func130 rfl (by kernel_rfl) QY [.raw, .pb [.own (some 0) [] 0 5 (.int .u8) true, .kill 1]] z6.k ?_
 intro R avs qm κ r h
 unfold QY at h
 simp only [veil_eq] at h
 split at h
 ·rename_i b l
  split at h
  ·cases h
  ·rename_i y hy
   refine ⟨BIG, _, _, _, (z6.eq BIG l b).trans hy, ?_, h⟩
   intro rs ros hk
   unfold z6.k at hk
   split at hk
   ·rw [← sj hk]; exact ⟨rfl, rfl⟩
   ·cases hk
 ·cases h
def qgk : Env := ⟨th, gam [], fun i => if i = 2 then ⟨[0, 3], [(3, 5, (.int .u8))], []⟩ else ⟨[], [], []⟩⟩
def zA.k (rs : List AV) (os : List Den.Obj) : Option (List Int) :=
 match rs, os with
 | [.row 0], [.row 5 (.int .u8) r0 false] => some r0
 | _, _ => none
def zA.s2 (v x0 : Int) (x1 : (List Int)) : St := ⟨[.d (.int .u64) x0, .dead, .dead, .row 64, dD, dD, dD, dD, dD, dD, dD, dD, dD, dD, dD, dD, dD, dD, .dead], ofL [(64, .row 5 (.int .u8) x1 false)], 0⟩
def zA.p2 (qa : Nat) (v : Int) (k : Nat) := fun x0 x1 => lp qgk qa Tryz.f131 [.own 5 (.int .u8)] 0 zA.k 2 [] k (zA.s2 v x0 x1)
def zA.b2 (v : Int) (A2 : Int → (List Int) → Option (List Int)) (x0 : Int) (x1 : (List Int)) : Option (List Int) :=
 (if (decide (x0 ≥ (128 : Int))) then (if ((((List.length x1) + (List.length ((bits BinOp.or .u8 (IntKind.wrap .u8 x0) (128 : Int)) :: ([] : List Int)))) * (1 : Nat)) ≤ lim) then A2 (Int.fdiv x0 ((2 : Int) ^ (Min.min (Int.toNat (7 : Int)) (IntKind.bits .u64)))) (x1 ++ ((bits BinOp.or .u8 (IntKind.wrap .u8 x0) (128 : Int)) :: ([] : List Int))) else none) else (if ((((List.length x1) + (List.length ((IntKind.wrap .u8 x0) :: ([] : List Int)))) * (1 : Nat)) ≤ lim) then some ((x1 ++ ((IntKind.wrap .u8 x0) :: ([] : List Int)))) else none))
def zA.l2 (qa : Nat) (v : Int) : Nat → Int → (List Int) → Option (List Int)
 | 0, _, _ => none
 | k + 1, x0, x1 => zA.b2 v (zA.l2 qa v k) x0 x1
def zA.b (v : Int) (E2 : Int → (List Int) → Option (List Int)) : Option (List Int) :=
 E2 v ([] : List Int)
def zA.f (qa : Nat) (v : Int) : Option (List Int) := zA.b v (zA.l2 qa v qa)
theorem zA.l2_eq (qa : Nat) (v : Int) : ∀ k : Nat, zA.p2 qa v k = zA.l2 qa v k
 | 0 => by kernel_rfl
 | k + 1 => by
  refine Eq.trans (b := zA.b2 v (zA.p2 qa v k)) (by kernel_rfl) ?_
  rw [zA.l2_eq qa v k]
  kernel_rfl
theorem zA.eq (qa : Nat) (v : Int) : (denF qgk loopN qa Tryz.f131 [.own 5 (.int .u8)] [.d (.int .u64) v] [] zA.k) = zA.f qa v := by
 refine Eq.trans (b := zA.b v (zA.p2 qa v qa)) (by kernel_rfl) ?_
 rw [zA.l2_eq qa v qa]
 kernel_rfl
def qaI : Den.Sum := ⟨[.raw], fun qK qm κ => match qK, qm with
 | [.d (.int .u64) v], [] => (match veil (zA.f BIG v) with | none => none | some y => κ [.row 0] [.row 5 (.int .u8) y false])
 | _, _ => none⟩
theorem qf4 : SumDet qaI := zj fun _ _ _ _ => by
 unfold qaI
 simp only [veil_eq]
 split
 ·split <;> rfl
 ·rfl
theorem qgL : SumOk Tryz.prog 131 qaI := by
 have hE : EnvOk Tryz.prog qgk := env_ok (l := []) th_ok qZ trivial _
 refine sum_ok hE Tryz.func131 rfl (by kernel_rfl) qaI [.own 5 (.int .u8)] zA.k ?_
 intro R avs qm κ r h
 unfold qaI at h
 simp only [veil_eq] at h
 split at h
 ·rename_i v
  split at h
  ·cases h
  ·rename_i y hy
   refine ⟨BIG, _, _, _, (zA.eq BIG v).trans hy, ?_, h⟩
   intro rs ros hk
   unfold zA.k at hk
   split at hk
   ·rw [← sj hk]; exact ⟨rfl, rfl⟩
   ·cases hk
 ·cases h
def qh8 : Env := ⟨th, gam [], fun i => ⟨[], [], []⟩⟩
def ZJ.k (rs : List AV) (os : List Den.Obj) : Option Int :=
 match rs, os with
 | [.d (.int .u64) r0], [] => some r0
 | _, _ => none
def ZJ.b (n : Int) : Option Int :=
 some ((bits BinOp.xor .u64 (IntKind.wrap .u64 ((IntKind.wrap .u64 n) * ((2 : Int) ^ (Min.min (Int.toNat (1 : Int)) (IntKind.bits .u64))))) (IntKind.wrap .u64 (Int.fdiv n ((2 : Int) ^ (Min.min (Int.toNat (63 : Int)) (IntKind.bits .i64)))))))
def ZJ.f (qa : Nat) (n : Int) : Option Int := ZJ.b n
theorem ZJ.eq (qa : Nat) (n : Int) : (denF qh8 loopN qa Tryz.f132 [.raw] [.d tQi n] [] ZJ.k) = ZJ.f qa n := by
 kernel_rfl
def qbs : Den.Sum := ⟨[.raw], fun qK qm κ => match qK, qm with
 | [.d (.int .i64) n], [] => (match veil (ZJ.f BIG n) with | none => none | some y => κ [.d (.int .u64) y] [])
 | _, _ => none⟩
theorem qjD : SumDet qbs := zj fun _ _ _ _ => by
 unfold qbs
 simp only [veil_eq]
 split
 ·split <;> rfl
 ·rfl
theorem qkk : SumOk Tryz.prog 132 qbs := by
 have hE : EnvOk Tryz.prog qh8 := env_ok (l := []) th_ok qZ trivial _
 refine sum_ok hE Tryz.func132 rfl (by kernel_rfl) qbs [.raw] ZJ.k ?_
 intro R avs qm κ r h
 unfold qbs at h
 simp only [veil_eq] at h
 split at h
 ·rename_i n
  split at h
  ·cases h
  ·rename_i y hy
   refine ⟨BIG, _, _, _, (ZJ.eq BIG n).trans hy, ?_, h⟩
   intro rs ros hk
   unfold ZJ.k at hk
   split at hk
   ·rw [← sj hk]; exact ⟨rfl, rfl⟩
   ·cases hk
 ·cases h
def qhW : Env := ⟨th, gam [], fun i => ⟨[], [], []⟩⟩
def ZT.k (rs : List AV) (os : List Den.Obj) : Option (Bool × Int) :=
 match rs, os with
 | [.d .bool r0], [.box [.d (.int .i64) r1]] => some (r0, r1)
 | _, _ => none
def ZT.b (za qQ qw qu qv : Int) (qR : Bool) (qO : LF) (id0 : Int) : Option (Bool × Int) :=
 some ((za == id0), id0)
def ZT.f (qa : Nat) (za qQ qw qu qv : Int) (qR : Bool) (qO : LF) (id0 : Int) : Option (Bool × Int) := ZT.b za qQ qw qu qv qR qO id0
theorem ZT.eq (qa : Nat) (za qQ qw qu qv : Int) (qR : Bool) (qO : LF) (id0 : Int) : (denF qhW loopN qa Tryz.f134 [.raw] [.agg [.d tQi za, .d tQi qQ, .d tQi qw, .d tQi qu, .d tQi qv, .d .bool qR, .d (.sl (.pair tQi (.sl (.int .u8)))) qO], .ptr 0 0] [.box [.d tQi id0]] ZT.k) = ZT.f qa za qQ qw qu qv qR qO id0 := by
 kernel_rfl
def qag : Den.Sum := ⟨[.dat tQr true, .raw], fun qK qm κ => match qK, qm with
 | [.agg [.d (.int .i64) za, .d (.int .i64) qQ, .d (.int .i64) qw, .d (.int .i64) qu, .d (.int .i64) qv, .d .bool qR, .d (.sl (.pair (.int .i64) (.sl (.int .u8)))) qO], .ptr 0 0], [.box [.d (.int .i64) id0]] => (match veil (ZT.f BIG za qQ qw qu qv qR qO id0) with | none => none | some y => κ [.d .bool y.1] [.box [.d (.int .i64) y.2]])
 | _, _ => none⟩
theorem qfj : SumDet qag := zj fun _ _ _ _ => by
 unfold qag
 simp only [veil_eq]
 split
 ·split <;> rfl
 ·rfl
theorem qfJ : SumOk Tryz.prog 134 qag := by
 have hE : EnvOk Tryz.prog qhW := env_ok (l := []) th_ok qZ trivial _
 refine sum_ok hE Tryz.func134 rfl (by kernel_rfl) qag [.raw] ZT.k ?_
 intro R avs qm κ r h
 unfold qag at h
 simp only [veil_eq] at h
 split at h
 ·rename_i za qQ qw qu qv qR qO id0
  split at h
  ·cases h
  ·rename_i y hy
   refine ⟨BIG, _, _, _, (ZT.eq BIG za qQ qw qu qv qR qO id0).trans hy, ?_, h⟩
   intro rs ros hk
   unfold ZT.k at hk
   split at hk
   ·rw [← sj hk]; exact ⟨rfl, rfl⟩
   ·cases hk
 ·cases h
def qmo : Env := ⟨th, gam [], fun i => ⟨[], [], []⟩⟩
def qaY.k (rs : List AV) (os : List Den.Obj) : Option (Int × (List Int)) :=
 match rs, os with
 | [.agg [.d (.int .i64) r0, .d (.sl (.int .u8)) r1]], [] => some (r0, r1)
 | _, _ => none
def qaY.b (Zv : Int) (Qj : List Int) : Option (Int × (List Int)) :=
 (if (((0 : Int) ≤ ((((List.length Qj)) : Nat) : Int)) ∧ ((((((List.length Qj)) : Nat) : Int) ≤ ((((List.length Qj)) : Nat) : Int)) ∧ (((((((List.length Qj)) : Nat) : Int) * ((((1 : Nat)) : Nat) : Int)) ≤ (1099511627776 : Int)) ∧ (((((List.length Qj)) : Nat) : Int) ≤ (1099511627776 : Int))))) then (if ((false = false) ∧ ((List.length Qj) ≤ (List.length (List.replicate (Int.toNat ((((List.length Qj)) : Nat) : Int)) (zeroI (Go.Den.Ty.int .u8)))))) then some (Zv, (Qj ++ (List.drop (List.length Qj) (List.replicate (Int.toNat ((((List.length Qj)) : Nat) : Int)) (zeroI (Go.Den.Ty.int .u8)))))) else none) else none)
def qaY.f (qa : Nat) (Zv : Int) (Qj : List Int) : Option (Int × (List Int)) := qaY.b Zv Qj
theorem qaY.eq (qa : Nat) (Zv : Int) (Qj : List Int) : (denF qmo loopN qa Tryz.f139 [.dat (.pair tQi (.sl (.int .u8))) true] [.agg [.d tQi Zv, .d (.sl (.int .u8)) Qj]] [] qaY.k) = qaY.f qa Zv Qj := by
 kernel_rfl
def qc0 : Den.Sum := ⟨[.dat (.pair tQi (.sl (.int .u8))) true], fun qK qm κ => match qK, qm with
 | [.agg [.d (.int .i64) Zv, .d (.sl (.int .u8)) Qj]], [] => (match veil (qaY.f BIG Zv Qj) with | none => none | some y => κ [.agg [.d (.int .i64) y.1, .d (.sl (.int .u8)) y.2]] [])
 | _, _ => none⟩
theorem qmD : SumDet qc0 := zj fun _ _ _ _ => by
 unfold qc0
 simp only [veil_eq]
 split
 ·split <;> rfl
 ·rfl
theorem qm5 : SumOk Tryz.prog 139 qc0 := by
 have hE : EnvOk Tryz.prog qmo := env_ok (l := []) th_ok qZ trivial _
 refine sum_ok hE Tryz.func139 rfl (by kernel_rfl) qc0 [.dat (.pair tQi (.sl (.int .u8))) true] qaY.k ?_
 intro R avs qm κ r h
 unfold qc0 at h
 simp only [veil_eq] at h
 split at h
 ·rename_i Zv Qj
  split at h
  ·cases h
  ·rename_i y hy
   refine ⟨BIG, _, _, _, (qaY.eq BIG Zv Qj).trans hy, ?_, h⟩
   intro rs ros hk
   unfold qaY.k at hk
   split at hk
   ·rw [← sj hk]; exact ⟨rfl, rfl⟩
   ·cases hk
 ·cases h
def qbA : Env := ⟨th, gam [(134, qag)], fun i => if i = 2 then ⟨[0, 1, 7, 8, 9], [], []⟩ else ⟨[], [], []⟩⟩
def qU.k (rs : List AV) (os : List Den.Obj) : Option (Int × Int) :=
 match rs, os with
 | [.d (.int .i64) r0], [.box [.d (.int .i64) r1]] => some (r0, r1)
 | _, _ => none
def qU.s2 (l : LR) (id0 x0 x1 x2 : Int) : St := ⟨[.d (.sl tQr) (l), .fn (.func 134) [] [.ptr 0 0], dD, dD, dD, dD, dD, .d (.sl tQr) (l), .d tQi x0, .d tQi x1, dD, dD, dD, dD, dD, dD, dD, dD, dD, dD, .dead], ofL [(0, .box [.d tQi x2])], 1⟩
def qU.p2 (qa : Nat) (l : LR) (id0 : Int) (k : Nat) := fun x0 x1 x2 => lp qbA qa Tryz.f116 [.raw] 1 qU.k 2 [] k (qU.s2 l id0 x0 x1 x2)
def qU.b2 (l : LR) (id0 : Int) (A2 : Int → Int → Int → Option (Int × Int)) (x0 : Int) (x1 : Int) (x2 : Int) : Option (Int × Int) :=
 (if (decide (x1 < x0)) then (match (idx l x1) with | none => none | some y3 => (match (veil (ZT.f BIG y3.1 y3.2.1 y3.2.2.1 y3.2.2.2.1.1 y3.2.2.2.1.2 y3.2.2.2.2.1 y3.2.2.2.2.2 x2)) with | none => none | some y4 => (if y4.1 then some (x1, y4.2) else A2 x0 (IntKind.wrap .i64 (x1 + (1 : Int))) y4.2))) else some (((((List.length l)) : Nat) : Int), x2))
def qU.l2 (qa : Nat) (l : LR) (id0 : Int) : Nat → Int → Int → Int → Option (Int × Int)
 | 0, _, _, _ => none
 | k + 1, x0, x1, x2 => qU.b2 l id0 (qU.l2 qa l id0 k) x0 x1 x2
def qU.b (l : LR) (id0 : Int) (E2 : Int → Int → Int → Option (Int × Int)) : Option (Int × Int) :=
 E2 ((((List.length l)) : Nat) : Int) (0 : Int) id0
def qU.f (qa : Nat) (l : LR) (id0 : Int) : Option (Int × Int) := qU.b l id0 (qU.l2 qa l id0 qa)
theorem qU.l2_eq (qa : Nat) (l : LR) (id0 : Int) : ∀ k : Nat, qU.p2 qa l id0 k = qU.l2 qa l id0 k
 | 0 => by kernel_rfl
 | k + 1 => by
  refine Eq.trans (b := qU.b2 l id0 (qU.p2 qa l id0 k)) (by kernel_rfl) ?_
  rw [qU.l2_eq qa l id0 k]
  kernel_rfl
theorem qU.eq (qa : Nat) (l : LR) (id0 : Int) : (denF qbA loopN qa Tryz.f116 [.raw] [.d (.sl tQr) l, .fn (.func 134) [] [.ptr 0 0]] [.box [.d tQi id0]] qU.k) = qU.f qa l id0 := by
 refine Eq.trans (b := qU.b l id0 (qU.p2 qa l id0 qa)) (by kernel_rfl) ?_
 rw [qU.l2_eq qa l id0 qa]
 kernel_rfl
def Q7 : Den.Sum := ⟨[.dat (.sl tQr) false, .raw], fun qK qm κ => match qK, qm with
 | [.d (.sl (.pair (.int .i64) (.pair (.int .i64) (.pair (.int .i64) (.pair (.pair (.int .i64) (.int .i64)) (.pair .bool (.sl (.pair (.int .i64) (.sl (.int .u8)))))))))) l, .fn (.func 134) [] [.ptr 0 0]], [.box [.d (.int .i64) id0]] => (match veil (qU.f BIG l id0) with | none => none | some y => κ [.d (.int .i64) y.1] [.box [.d (.int .i64) y.2]])
 | _, _ => none⟩
theorem qeN : SumDet Q7 := zj fun _ _ _ _ => by
 unfold Q7
 simp only [veil_eq]
 split
 ·split <;> rfl
 ·rfl
theorem qe1 : SumOk Tryz.prog 116 Q7 := by
 have hE : EnvOk Tryz.prog qbA := env_ok (l := [(134, qag)]) th_ok qZ ⟨⟨qfJ, qfj⟩, trivial⟩ _
 refine sum_ok hE Tryz.func116 rfl (by kernel_rfl) Q7 [.raw] qU.k ?_
 intro R avs qm κ r h
 unfold Q7 at h
 simp only [veil_eq] at h
 split at h
 ·rename_i l id0
  split at h
  ·cases h
  ·rename_i y hy
   refine ⟨BIG, _, _, _, (qU.eq BIG l id0).trans hy, ?_, h⟩
   intro rs ros hk
   unfold qU.k at hk
   split at hk
   ·rw [← sj hk]; exact ⟨rfl, rfl⟩
   ·cases hk
 ·cases h
def qac : Den.Sum := ⟨[.dat (.sl tQr) false, .raw], fun qK qm κ => match qK, qm with
 | [.d (.sl (.pair (.int .i64) (.pair (.int .i64) (.pair (.int .i64) (.pair (.pair (.int .i64) (.int .i64)) (.pair .bool (.sl (.pair (.int .i64) (.sl (.int .u8)))))))))) l, .fn (.func 117) [] [.ptr 0 0]], [.box [.d (.int .i64) qi]] => qdT.run [.d (.sl (.pair (.int .i64) (.pair (.int .i64) (.pair (.int .i64) (.pair (.pair (.int .i64) (.int .i64)) (.pair .bool (.sl (.pair (.int .i64) (.sl (.int .u8)))))))))) l, .fn (.func 117) [] [.ptr 0 0]] [.box [.d (.int .i64) qi]] κ
 | [.d (.sl (.pair (.int .i64) (.pair (.int .i64) (.pair (.int .i64) (.pair (.pair (.int .i64) (.int .i64)) (.pair .bool (.sl (.pair (.int .i64) (.sl (.int .u8)))))))))) l, .fn (.func 134) [] [.ptr 0 0]], [.box [.d (.int .i64) id0]] => Q7.run [.d (.sl (.pair (.int .i64) (.pair (.int .i64) (.pair (.int .i64) (.pair (.pair (.int .i64) (.int .i64)) (.pair .bool (.sl (.pair (.int .i64) (.sl (.int .u8)))))))))) l, .fn (.func 134) [] [.ptr 0 0]] [.box [.d (.int .i64) id0]] κ
 | _, _ => none⟩
theorem qf1 : SumDet qac := zj fun _ _ R κ => by
 unfold qac
 simp only
 split
 ·exact qjd _ _ R κ
 ·exact qeN _ _ R κ
 ·rfl
theorem qgn : SumOk Tryz.prog 116 qac := by
 refine ⟨qhc.1, ?_⟩
 intro R avs qm κ r h
 unfold qac at h
 simp only at h
 split at h
 ·exact qhc.2 _ _ κ r h
 ·exact qe1.2 _ _ κ r h
 ·cases h
def qc5 : Env := ⟨th, gam [(130, QY), (131, qaI)], fun i => if i = 2 then ⟨[2, 6, 7, 8], [], [1001]⟩ else ⟨[], [], []⟩⟩
def qn.k (rs : List AV) (os : List Den.Obj) : Option (List Int) :=
 match rs, os with
 | [], [.box [.row 2, .d .bool false], .gone, .row 5 (.int .u8) r0 false] => some r0
 | _, _ => none
def qn.s2 (l lq : List Int) (x0 x1 : Int) (x2 : (List Int)) : St := ⟨[.dead, .dead, .ptr 65 0, dD, dD, dD, .d (.sl tQi) (lq), .d tQi x0, .d tQi x1, dD, dD, dD, dD, dD, dD, dD, dD, dD, .dead], ofL [(0, .box [.row 64, .d .bool (false)]), (1, .gone), (64, .row 5 (.int .u8) x2 false), (65, .box [.ptr 0 0])], 2⟩
def qn.p2 (qa : Nat) (l lq : List Int) (k : Nat) := fun x0 x1 x2 => lp qc5 qa Tryz.f119 [.pb [.own (some 0) [] 0 5 (.int .u8) true, .kill 1]] 2 qn.k 2 [] k (qn.s2 l lq x0 x1 x2)
def qn.b2 (l lq : List Int) (A2 : Int → Int → (List Int) → Option (List Int)) (x0 : Int) (x1 : Int) (x2 : (List Int)) : Option (List Int) :=
 (if (decide (x1 < x0)) then (match (idx lq x1) with | none => none | some y3 => (match (veil (zA.f BIG (IntKind.wrap .u64 y3))) with | none => none | some y4 => (match (veil (z6.f BIG x2 y4)) with | none => none | some y5 => A2 x0 (IntKind.wrap .i64 (x1 + (1 : Int))) y5))) else some (x2))
def qn.l2 (qa : Nat) (l lq : List Int) : Nat → Int → Int → (List Int) → Option (List Int)
 | 0, _, _, _ => none
 | k + 1, x0, x1, x2 => qn.b2 l lq (qn.l2 qa l lq k) x0 x1 x2
def qn.b (l lq : List Int) (E2 : Int → Int → (List Int) → Option (List Int)) : Option (List Int) :=
 E2 ((((List.length lq)) : Nat) : Int) (0 : Int) l
def qn.f (qa : Nat) (l lq : List Int) : Option (List Int) := qn.b l lq (qn.l2 qa l lq qa)
theorem qn.l2_eq (qa : Nat) (l lq : List Int) : ∀ k : Nat, qn.p2 qa l lq k = qn.l2 qa l lq k
 | 0 => by kernel_rfl
 | k + 1 => by
  refine Eq.trans (b := qn.b2 l lq (qn.p2 qa l lq k)) (by kernel_rfl) ?_
  rw [qn.l2_eq qa l lq k]
  kernel_rfl
theorem qn.eq (qa : Nat) (l lq : List Int) : (denF qc5 loopN qa Tryz.f119 [.pb [.own (some 0) [] 0 5 (.int .u8) true, .kill 1]] [.agg [.ptr 0 0], .d (.sl tQi) lq] [.box [.row 1, .d .bool false], .row 5 (.int .u8) l false] qn.k) = qn.f qa l lq := by
 refine Eq.trans (b := qn.b l lq (qn.p2 qa l lq qa)) (by kernel_rfl) ?_
 rw [qn.l2_eq qa l lq qa]
 kernel_rfl
def QZ : Den.Sum := ⟨[.pb [.own none [0] 0 5 (.int .u8) false], .dat (.sl tQi) false], fun qK qm κ => match qK, qm with
 | [.agg [.ptr 0 0], .d (.sl (.int .i64)) lq], [.box [.row 1, .d .bool false], .row 5 (.int .u8) l false] => (match veil (qn.f BIG l lq) with | none => none | some y => κ [] [.box [.row 2, .d .bool false], .gone, .row 5 (.int .u8) y false])
 | _, _ => none⟩
theorem qdy : SumDet QZ := zj fun _ _ _ _ => by
 unfold QZ
 simp only [veil_eq]
 split
 ·split <;> rfl
 ·rfl
theorem qdW : SumOk Tryz.prog 119 QZ := by
 have hE : EnvOk Tryz.prog qc5 := env_ok (l := [(130, QY), (131, qaI)]) th_ok qZ ⟨⟨qdV, qdx⟩, ⟨qgL, qf4⟩, trivial⟩ _
 refine sum_ok hE Tryz.func119 rfl (by kernel_rfl) QZ [.pb [.own (some 0) [] 0 5 (.int .u8) true, .kill 1]] qn.k ?_
 intro R avs qm κ r h
 unfold QZ at h
 simp only [veil_eq] at h
 split at h
 ·rename_i lq l
  split at h
  ·cases h
  ·rename_i y hy
   refine ⟨BIG, _, _, _, (qn.eq BIG l lq).trans hy, ?_, h⟩
   intro rs ros hk
   unfold qn.k at hk
   split at hk
   ·rw [← sj hk]; exact ⟨rfl, rfl⟩
   ·cases hk
 ·cases h
def qhI : Env := ⟨th, gam [(139, qc0)], fun i => if i = 3 then ⟨[3, 6, 7, 8], [(3, 86, (.pair tQi (.sl (.int .u8))))], []⟩ else ⟨[], [], []⟩⟩
def zR.k (rs : List AV) (os : List Den.Obj) : Option LF :=
 match rs, os with
 | [.row 0], [.row 86 (.pair (.int .i64) (.sl (.int .u8))) r0 false] => some r0
 | _, _ => none
def zR.s3 (b : LF) (x0 x1 : Int) (x2 : LF) : St := ⟨[dD, dD, dD, .row 64, .dead, .dead, .d (.sl (.pair tQi (.sl (.int .u8)))) (b), .d tQi x0, .d tQi x1, dD, dD, dD, dD, dD, dD, dD, dD, dD, .dead], ofL [(64, .row 86 (.pair tQi (.sl (.int .u8))) x2 false)], 0⟩
def zR.p3 (qa : Nat) (b : LF) (k : Nat) := fun x0 x1 x2 => lp qhI qa Tryz.f137 [.own 86 (.pair tQi (.sl (.int .u8)))] 0 zR.k 3 [] k (zR.s3 b x0 x1 x2)
def zR.b3 (b : LF) (A3 : Int → Int → LF → Option LF) (x0 x1 : Int) (x2 : LF) : Option LF :=
 (if (decide (x1 < x0)) then (match (idx b x1) with | none => none | some y3 => (match (veil (qaY.f BIG y3.1 y3.2)) with | none => none | some y4 => (if ((((List.length x2) + (List.length ((y4.1, y4.2) :: ([] : LF)))) * (32 : Nat)) ≤ lim) then A3 x0 (IntKind.wrap .i64 (x1 + (1 : Int))) (x2 ++ ((y4.1, y4.2) :: ([] : LF))) else none))) else some (x2))
def zR.l3 (qa : Nat) (b : LF) : Nat → Int → Int → LF → Option LF
 | 0, _, _, _ => none
 | k + 1, x0, x1, x2 => zR.b3 b (zR.l3 qa b k) x0 x1 x2
def zR.b (b : LF) (E3 : Int → Int → LF → Option LF) : Option LF :=
 E3 ((((List.length b)) : Nat) : Int) (0 : Int) ([] : LF)
def zR.f (qa : Nat) (b : LF) : Option LF := zR.b b (zR.l3 qa b qa)
theorem zR.l3_eq (qa : Nat) (b : LF) : ∀ k : Nat, zR.p3 qa b k = zR.l3 qa b k
 | 0 => by kernel_rfl
 | k + 1 => by
  refine Eq.trans (b := zR.b3 b (zR.p3 qa b k)) (by kernel_rfl) ?_
  rw [zR.l3_eq qa b k]
  kernel_rfl
theorem zR.eq (qa : Nat) (b : LF) : (denF qhI loopN qa Tryz.f137 [.own 86 (.pair tQi (.sl (.int .u8)))] [.d (.sl (.pair tQi (.sl (.int .u8)))) b] [] zR.k) = zR.f qa b := by
 refine Eq.trans (b := zR.b b (zR.p3 qa b qa)) (by kernel_rfl) ?_
 rw [zR.l3_eq qa b qa]
 kernel_rfl
def qcs : Den.Sum := ⟨[.dat (.sl (.pair tQi (.sl (.int .u8)))) false], fun qK qm κ => match qK, qm with
 | [.d (.sl (.pair (.int .i64) (.sl (.int .u8)))) b], [] => (match veil (zR.f BIG b) with | none => none | some y => κ [.row 0] [.row 86 (.pair (.int .i64) (.sl (.int .u8))) y false])
 | _, _ => none⟩
theorem qlE : SumDet qcs := zj fun _ _ _ _ => by
 unfold qcs
 simp only [veil_eq]
 split
 ·split <;> rfl
 ·rfl
theorem qmE : SumOk Tryz.prog 137 qcs := by
 have hE : EnvOk Tryz.prog qhI := env_ok (l := [(139, qc0)]) th_ok qZ ⟨⟨qm5, qmD⟩, trivial⟩ _
 refine sum_ok hE Tryz.func137 rfl (by kernel_rfl) qcs [.own 86 (.pair tQi (.sl (.int .u8)))] zR.k ?_
 intro R avs qm κ r h
 unfold qcs at h
 simp only [veil_eq] at h
 split at h
 ·rename_i b
  split at h
  ·cases h
  ·rename_i y hy
   refine ⟨BIG, _, _, _, (zR.eq BIG b).trans hy, ?_, h⟩
   intro rs ros hk
   unfold zR.k at hk
   split at hk
   ·rw [← sj hk]; exact ⟨rfl, rfl⟩
   ·cases hk
 ·cases h
def qjp : Env := ⟨th, gam [(137, qcs)], fun i => ⟨[], [], []⟩⟩
def Z6.k (rs : List AV) (os : List Den.Obj) : Option (Int × Int × Int × Int × Int × Bool × LF) :=
 match rs, os with
 | [.agg [.d (.int .i64) r0, .d (.int .i64) r1, .d (.int .i64) r2, .d (.int .i64) r3, .d (.int .i64) r4, .d .bool r5, .d (.sl (.pair (.int .i64) (.sl (.int .u8)))) r6]], [] => some (r0, r1, r2, r3, r4, r5, r6)
 | _, _ => none
def Z6.b (za qQ qw qu qv : Int) (qR : Bool) (qO : LF) : Option (Int × Int × Int × Int × Int × Bool × LF) :=
 (match (veil (zR.f BIG qO)) with | none => none | some y0 => some (za, qQ, qw, qu, qv, qR, y0))
def Z6.f (qa : Nat) (za qQ qw qu qv : Int) (qR : Bool) (qO : LF) : Option (Int × Int × Int × Int × Int × Bool × LF) := Z6.b za qQ qw qu qv qR qO
theorem Z6.eq (qa : Nat) (za qQ qw qu qv : Int) (qR : Bool) (qO : LF) : (denF qjp loopN qa Tryz.f135 [.dat tQr true] [.agg [.d tQi za, .d tQi qQ, .d tQi qw, .d tQi qu, .d tQi qv, .d .bool qR, .d (.sl (.pair tQi (.sl (.int .u8)))) qO]] [] Z6.k) = Z6.f qa za qQ qw qu qv qR qO := by
 kernel_rfl
def qbZ : Den.Sum := ⟨[.dat tQr true], fun qK qm κ => match qK, qm with
 | [.agg [.d (.int .i64) za, .d (.int .i64) qQ, .d (.int .i64) qw, .d (.int .i64) qu, .d (.int .i64) qv, .d .bool qR, .d (.sl (.pair (.int .i64) (.sl (.int .u8)))) qO]], [] => (match veil (Z6.f BIG za qQ qw qu qv qR qO) with | none => none | some y => κ [.agg [.d (.int .i64) y.1, .d (.int .i64) y.2.1, .d (.int .i64) y.2.2.1, .d (.int .i64) y.2.2.2.1, .d (.int .i64) y.2.2.2.2.1, .d .bool y.2.2.2.2.2.1, .d (.sl (.pair (.int .i64) (.sl (.int .u8)))) y.2.2.2.2.2.2]] [])
 | _, _ => none⟩
theorem qkt : SumDet qbZ := zj fun _ _ _ _ => by
 unfold qbZ
 simp only [veil_eq]
 split
 ·split <;> rfl
 ·rfl
theorem qls : SumOk Tryz.prog 135 qbZ := by
 have hE : EnvOk Tryz.prog qjp := env_ok (l := [(137, qcs)]) th_ok qZ ⟨⟨qmE, qlE⟩, trivial⟩ _
 refine sum_ok hE Tryz.func135 rfl (by kernel_rfl) qbZ [.dat tQr true] Z6.k ?_
 intro R avs qm κ r h
 unfold qbZ at h
 simp only [veil_eq] at h
 split at h
 ·rename_i za qQ qw qu qv qR qO
  split at h
  ·cases h
  ·rename_i y hy
   refine ⟨BIG, _, _, _, (Z6.eq BIG za qQ qw qu qv qR qO).trans hy, ?_, h⟩
   intro rs ros hk
   unfold Z6.k at hk
   split at hk
   ·rw [← sj hk]; exact ⟨rfl, rfl⟩
   ·cases hk
 ·cases h
theorem qlZ {x : Int × List Int} {m : LF} {t n : Int} (h1 : x.1 = t) (h2 : (x.2.length : Int) = n) : zB (x :: m) false t n = (Q5 x.2, m, false) := by
 unfold zB qeI
 simp [h1, h2]
theorem qpP {l : LF} {bad : Bool} {t n : Int} (h : (zB l bad t n).2.2 = false) : bad = false ∧ ∃ x m, l = x :: m ∧ x.1 = t ∧ (x.2.length : Int) = n ∧ zB l bad t n = (Q5 x.2, m, false) := by
 cases l with
 | nil => simp [zB] at h
 | cons x m =>
  unfold zB at h
  dsimp only at h
  split at h
  ·cases h
  ·rename_i c
   simp at c
   unfold qeI at h
   split at h
   ·rename_i c2
    simp at c2
    exact ⟨c.1, x, m, rfl, c.2, by omega, by rw [c.1]; exact qlZ c.2 (by omega)⟩
   ·cases h
def hit (t n : Int) : LF → Option (Int × LF)
 | [] => none
 | x :: m => if x.1 == t && ((x.2.length : Int) == n) then some (Q5 x.2, m) else none
def qel (c : Bool) (t : Int) (m : LF) : Option (Int × LF) := if c then hit t 2 m else some (0, m)
theorem qrq {t n : Int} {l : LF} {v : Int} {m : LF} (h : hit t n l = some (v, m)) : ∃ x, l = x :: m ∧ v = Q5 x.2 ∧ x.1 = t ∧ (x.2.length : Int) = n := by
 cases l with
 | nil => simp [hit] at h
 | cons x l =>
  have h' : (if (x.1 == t && ((x.2.length : Int) == n)) = true then some (Q5 x.2, l) else none) = some (v, m) := h
  by_cases c : (x.1 == t && ((x.2.length : Int) == n)) = true
  ·rw [if_pos c] at h'
   simp at c
   cases h'
   exact ⟨x, rfl, rfl, c.1, c.2⟩
  ·rw [if_neg c] at h'
   cases h'
theorem QK {t n : Int} {l : LF} {v : Int} {m : LF} (h : hit t n l = some (v, m)) : zB l false t n = (v, m, false) := by
 obtain ⟨x, rfl, rfl, h1, h2⟩ := qrq h
 exact qlZ h1 h2
theorem qbN (l : LF) (t n : Int) : (zB l true t n).2.2 = true := by
 unfold zB
 cases l <;> simp
theorem qbb {t n : Int} {l : LF} (h : hit t n l = none) : (zB l false t n).2.2 = true := by
 cases hb : (zB l false t n).2.2 with
 | true => rfl
 | false =>
  obtain ⟨_, x, m, rfl, h1, h2, _⟩ := qpP hb
  simp [hit, h1, h2] at h
theorem qc8 (k p : Int) (l : LF) (t : Int) : (Qy k p l true t).2.2 = true := by
 unfold Qy
 split
 ·exact qbN l t 2
 ·rfl
theorem qhP {k p t : Int} {l : LF} {v : Int} {m : LF} (h : qel (qy k p) t l = some (v, m)) : Qy k p l false t = (v, m, false) := by
 unfold Qy
 unfold qel at h
 split
 ·rename_i c; rw [if_pos c] at h; exact QK h
 ·rename_i c; rw [if_neg c] at h; cases h; rfl
theorem qi9 {k p t : Int} {l : LF} (h : qel (qy k p) t l = none) : (Qy k p l false t).2.2 = true := by
 unfold Qy
 unfold qel at h
 split
 ·rename_i c; rw [if_pos c] at h; exact qbb h
 ·rename_i c; rw [if_neg c] at h; cases h
def qnc (b : List Int) : Option (Int × Int × Int × Int × Int × Int × LF) :=
 if (Qh b).2 != 0 || decide ((b.length : Int) > 65499) then none else
 match hit 1 1 (Qh b).1 with
 | none => none
 | some (K, m1) => match hit 2 2 m1 with
  | none => none
  | some (f, m2) => match hit 3 6 m2 with
   | none => none
   | some (i, m3) => match hit 4 1 m3 with
    | none => none
    | some (c, m4) => match qel (qy K 0) 5 m4 with
     | none => none
     | some (s, m5) => match qel (qy K 1) 6 m5 with
      | none => none
      | some (t, m6) => some (K, f, i, c, s, t, m6)
theorem qdS (k f i lo hi s t : Int) (r : Option LR) : qhF true k f i lo hi s t r = (0, 0, 0, 0, 0, 0, 0, [], 4) := by
 cases r <;> rfl
theorem qon (b : List Int) : zT b = match qnc b with
  | none => (0, 0, 0, 0, 0, 0, 0, [], 4)
  | some (K, f, i, c, s, t, m) => qhF false K f i (zW Qv c).1 (zW Qv c).2.1 s t (qct m) := by
 unfold zT qnc
 dsimp only
 unfold Zx
 dsimp only
 cases hb : ((Qh b).2 != 0 || decide ((b.length : Int) > 65499))
 ·simp only [Bool.false_eq_true, if_false]
  cases h1 : hit 1 1 (Qh b).1 with
  | none =>
   dsimp only
   rw [qbb h1]
   simp only [qbN, qc8, qdS]
  | some p1 =>
   obtain ⟨K, m1⟩ := p1
   dsimp only
   rw [QK h1]
   dsimp only
   cases h2 : hit 2 2 m1 with
   | none =>
    dsimp only
    rw [qbb h2]
    simp only [qbN, qc8, qdS]
   | some p2 =>
    obtain ⟨f, m2⟩ := p2
    dsimp only
    rw [QK h2]
    dsimp only
    cases h3 : hit 3 6 m2 with
    | none =>
     dsimp only
     rw [qbb h3]
     simp only [qbN, qc8, qdS]
    | some p3 =>
     obtain ⟨i, m3⟩ := p3
     dsimp only
     rw [QK h3]
     dsimp only
     cases h4 : hit 4 1 m3 with
     | none =>
      dsimp only
      rw [qbb h4]
      simp only [qc8, qdS]
     | some p4 =>
      obtain ⟨c, m4⟩ := p4
      dsimp only
      rw [QK h4]
      dsimp only
      cases h5 : qel (qy K 0) 5 m4 with
      | none =>
       dsimp only
       rw [qi9 h5]
       simp only [qc8, qdS]
      | some p5 =>
       obtain ⟨s, m5⟩ := p5
       dsimp only
       rw [qhP h5]
       dsimp only
       cases h6 : qel (qy K 1) 6 m5 with
       | none =>
        dsimp only
        rw [qi9 h6]
        simp only [qdS]
       | some p6 =>
        obtain ⟨t, m6⟩ := p6
        dsimp only
        rw [qhP h6]
 ·simp only [qbN, qc8, qdS]
  rfl
theorem qhu (c : Int) (h0 : 0 ≤ c) (h1 : c ≤ 255) : (okS (c / 16) (c % 16) = true → zW Qv c = (c / 16, c % 16, true)) ∧ (okS (c / 16) (c % 16) = false → okS (zW Qv c).1 (zW Qv c).2.1 = false) := by
 constructor
 ·intro h
  simp [okS] at h
  have : c = 17 ∨ c = 18 ∨ c = 19 ∨ c = 34 ∨ c = 35 ∨ c = 51 := by omega
  rcases this with rfl | rfl | rfl | rfl | rfl | rfl <;> decide +kernel
 ·intro h
  cases hk : okS (zW Qv c).1 (zW Qv c).2.1 with
  | false => rfl
  | true =>
   have he := qlI hk
   have hk2 := hk
   simp [okS] at hk2
   rw [show c / 16 = (zW Qv c).1 from by omega, show c % 16 = (zW Qv c).2.1 from by omega, hk] at h
   cases h
theorem qr4 (b : List Int) : Q4 b = match (if (Qh b).2 != 0 then none else match hit 1 2 (Qh b).1 with
  | none => none
  | some (a1, m1) => match hit 2 4 m1 with
   | none => none
   | some (a2, m2) => match hit 3 1 m2 with
    | none => none
    | some (a3, m3) => match hit 4 1 m3 with
     | none => none
     | some (a4, m4) => some (a1, a2, a3, a4, m4)) with
  | none => ((Q4 b).1, false)
  | some (a1, a2, a3, a4, m) => ((a1, a2, a3 % 128, ((zW Qv a4).1, (zW Qv a4).2.1), decide (a3 ≥ 128), m), true) := by
 have key : ∀ r, (Q4 b).2 = false → r = ((Q4 b).1, false) → Q4 b = r := fun r h1 h2 => by rw [h2, ← h1]
 cases hb : ((Qh b).2 != 0)
 ·simp only [Bool.false_eq_true, if_false]
  cases h1 : hit 1 2 (Qh b).1 with
  | none =>
   refine key _ ?_ rfl
   unfold Q4 Zx
   dsimp only
   rw [hb, qbb h1]
   simp only [qbN, Bool.not_true]
  | some p1 =>
   obtain ⟨a1, m1⟩ := p1
   dsimp only
   cases h2 : hit 2 4 m1 with
   | none =>
    refine key _ ?_ rfl
    unfold Q4 Zx
    dsimp only
    rw [hb, QK h1]
    dsimp only
    rw [qbb h2]
    simp only [qbN, Bool.not_true]
   | some p2 =>
    obtain ⟨a2, m2⟩ := p2
    dsimp only
    cases h3 : hit 3 1 m2 with
    | none =>
     refine key _ ?_ rfl
     unfold Q4 Zx
     dsimp only
     rw [hb, QK h1]
     dsimp only
     rw [QK h2]
     dsimp only
     rw [qbb h3]
     simp only [qbN, Bool.not_true]
    | some p3 =>
     obtain ⟨a3, m3⟩ := p3
     dsimp only
     cases h4 : hit 4 1 m3 with
     | none =>
      refine key _ ?_ rfl
      unfold Q4 Zx
      dsimp only
      rw [hb, QK h1]
      dsimp only
      rw [QK h2]
      dsimp only
      rw [QK h3]
      dsimp only
      rw [qbb h4, Bool.not_true]
     | some p4 =>
      obtain ⟨a4, m4⟩ := p4
      dsimp only
      unfold Q4 Zx
      dsimp only
      rw [hb, QK h1]
      dsimp only
      rw [QK h2]
      dsimp only
      rw [QK h3]
      dsimp only
      rw [QK h4]
      rfl
 ·refine key _ ?_ rfl
  unfold Q4 Zx
  dsimp only
  rw [hb]
  simp only [qbN, Bool.not_true]
theorem qqF (b : List Int) (h : (zT b).2.2.2.2.2.2.2.2 ≠ 0) : zT b = (0, 0, 0, 0, 0, 0, 0, [], 4) := by
 rw [qon] at h ⊢
 cases hP : qnc b with
 | none => rfl
 | some p =>
  obtain ⟨K, f, i, c, s, t, m⟩ := p
  rw [hP] at h
  dsimp only at h ⊢
  unfold qhF at h ⊢
  cases hr : qct m with
  | none => rfl
  | some r =>
   rw [hr] at h
   dsimp only at h ⊢
   split
   ·rename_i c; rw [if_pos c] at h; exact absurd rfl h
   ·rfl
theorem qja : ∀ (items : LF) (k : Nat), items.length ≤ k → Ze k (items.flatMap Qi) = some items
 | [], k, _ => by cases k <;> rfl
 | x :: items, 0, h => by simp at h
 | x :: items, k + 1, h => by
  have ih := qja items k (by simp at h; omega)
  have e : (x :: items).flatMap Qi = x.1 :: ((x.2.length / 256 : Nat) : Int) :: ((x.2.length % 256 : Nat) : Int) :: (x.2 ++ items.flatMap Qi) := by
   rw [List.flatMap_cons]; rfl
  rw [e, Ze]
  have e2 : ((x.2.length / 256 : Nat) : Int) * 256 + ((x.2.length % 256 : Nat) : Int) = (x.2.length : Int) := by omega
  rw [e2, if_neg (by simp; omega)]
  rw [show (x.2.length : Int).toNat = x.2.length from rfl, List.drop_left, List.take_left, ih]
  rfl
theorem qru (items : LF) : items.length ≤ (items.flatMap Qi).length := by
 induction items with
 | nil => simp
 | cons x l ih => rw [List.flatMap_cons, List.length_append, qhE, List.length_cons]; omega
theorem qie (items : LF) : Qh (items.flatMap Qi) = (items, 0) := by
 unfold Qh
 rw [qja items _ (qru items)]
theorem qaU {t n v : Int} (n1 : 1 ≤ n) (n7 : n ≤ 7) : itB t n v = Qi (t, be n.toNat v) := by
 unfold itB Qi
 dsimp only
 rw [zL]
 have e1 : ((n.toNat / 256 : Nat) : Int) = 0 := by omega
 have e2 : ((n.toNat % 256 : Nat) : Int) = n := by omega
 rw [e1, e2]
theorem qdB {t n v : Int} {m : LF} (n1 : 1 ≤ n) (h0 : 0 ≤ v) (h1 : v < 256 ^ n.toNat) : hit t n ((t, be n.toNat v) :: m) = some (v, m) := by
 rw [hit, if_pos (by simp [zL]; omega)]
 dsimp only
 rw [qlJ _ _ h0 h1]
theorem qit (r : Int × Int × Int × (Int × Int) × Bool × LF) : Q9 r = (qbo r).flatMap Qi := by
 unfold Q9 qbo
 rw [List.flatMap_append, qaU (by omega) (by omega), qaU (by omega) (by omega), qaU (by omega) (by omega), qaU (by omega) (by omega)]
 simp [List.flatMap_cons]
theorem qqd {r : Int × Int × Int × (Int × Int) × Bool × LF} (h : zE r = true) (hi : r.2.1 ≤ 4294967295) : Q4 (Q9 r) = (r, true) := by
 obtain ⟨id, inc, st, ⟨lo, hi'⟩, cut, bag⟩ := r
 obtain ⟨f1, f2, f3, f4, f5, f6, f7, f8⟩ := zH h
 dsimp only at f1 f2 f3 f4 f5 f6 f7 hi
 have hs := (qaq _ _).1 f7
 have e := qr4 (Q9 (id, inc, st, (lo, hi'), cut, bag))
 rw [qit, qie] at e
 have hc : 0 ≤ qet (id, inc, st, (lo, hi'), cut, bag) ∧ qet (id, inc, st, (lo, hi'), cut, bag) < 256 := by
  unfold qet
  dsimp only
  split <;> omega
 have w : qbo (id, inc, st, (lo, hi'), cut, bag) = (1, be (2 : Int).toNat id) :: (2, be (4 : Int).toNat inc) :: (3, be (1 : Int).toNat (qet (id, inc, st, (lo, hi'), cut, bag))) :: (4, be (1 : Int).toNat (lo * 16 + hi')) :: bag := rfl
 rw [← qit, w] at e
 dsimp only at e
 rw [qdB (by omega) (by omega) (by simp; omega)] at e
 dsimp only at e
 rw [qdB (by omega) (by omega) (by simp; omega)] at e
 dsimp only at e
 rw [qdB (by omega) hc.1 (by simpa using hc.2)] at e
 dsimp only at e
 rw [qdB (by omega) (by omega) (by simp; omega)] at e
 rw [if_neg (by simp)] at e
 dsimp only at e
 rw [e]
 have o := (qhu (lo * 16 + hi') (by omega) (by omega)).1 (by rw [show (lo * 16 + hi') / 16 = lo from by omega, show (lo * 16 + hi') % 16 = hi' from by omega]; exact f7)
 rw [o, show (lo * 16 + hi') / 16 = lo from by omega, show (lo * 16 + hi') % 16 = hi' from by omega]
 dsimp only
 have s1 : qet (id, inc, st, (lo, hi'), cut, bag) % 128 = st := by
  unfold qet
  dsimp only
  split <;> omega
 have s2 : decide (qet (id, inc, st, (lo, hi'), cut, bag) ≥ 128) = cut := by
  unfold qet
  dsimp only
  cases cut
  ·simp; omega
  ·simp; omega
 rw [s1, s2]
theorem qkJ : ∀ r : LR, (∀ x ∈ r, zE x = true ∧ x.2.1 ≤ 4294967295) → qct (r.map fun x => ((7 : Int), Q9 x)) = some r
 | [], _ => rfl
 | x :: r, h => by
  obtain ⟨h1, h2⟩ := h x (by simp)
  rw [List.map_cons, qct, qkJ r fun y hy => h y (by simp [hy])]
  dsimp only
  rw [qqd h1 h2]
  rfl
theorem qkc {qk qx inc lo hi seq qo qP qD qb : Int} {qc : LR} (h : zb qk qx inc lo hi seq qo qP qD qb qc = true) :
  (qy qk 0 = false → seq = 0) ∧ (qy qk 1 = false → qo = 0) := by
 unfold zb at h
 have h1 : ((ofF qk).1.toList == (⟨#[]⟩ : ByteArray).toList || (decide (qx < 0) || (decide (qx > 4095) || (decide (inc < 0) || (decide (inc > 281474976710655) || !okS lo hi))))) = false := by
  cases hc : ((ofF qk).1.toList == (⟨#[]⟩ : ByteArray).toList || (decide (qx < 0) || (decide (qx > 4095) || (decide (inc < 0) || (decide (inc > 281474976710655) || !okS lo hi))))) with
  | false => rfl
  | true => rw [hc] at h; cases h
 rw [h1] at h
 have h2 : (!withinF (qy qk 0) seq 0 65535 || (!withinF (qy qk 1) qo (if qk == 3 then 1 else 0) (if qk == 3 then 3 else 4095) || !livesF qk qP qD qb)) = false := by
  cases hc : (!withinF (qy qk 0) seq 0 65535 || (!withinF (qy qk 1) qo (if qk == 3 then 1 else 0) (if qk == 3 then 3 else 4095) || !livesF qk qP qD qb)) with
  | false => rfl
  | true => rw [hc] at h; cases h
 simp only [Bool.or_eq_false_iff, Bool.not_eq_false'] at h2
 obtain ⟨c1, c2, c3⟩ := h2
 constructor
 ·intro h0
  rw [h0] at c1
  simpa [ZO] using c1
 ·intro h0
  rw [h0] at c2
  simpa [ZO] using c2
def qkY (qk qx inc lo hi seq qo : Int) (qc : LR) : LF :=
 (1, be (1 : Int).toNat qk) :: (2, be (2 : Int).toNat qx) :: (3, be (6 : Int).toNat inc) :: (4, be (1 : Int).toNat (lo * 16 + hi)) :: ((if qy qk 0 then [((5 : Int), be (2 : Int).toNat seq)] else []) ++ ((if qy qk 1 then [((6 : Int), be (2 : Int).toNat qo)] else []) ++ qc.map fun x => ((7 : Int), Q9 x)))
theorem qn6 (qk qx inc lo hi seq qo : Int) (qc : LR) : qaj qk qx inc lo hi seq qo qc = (qkY qk qx inc lo hi seq qo qc).flatMap Qi := by
 unfold qaj qkY
 rw [qaU (by omega) (by omega), qaU (by omega) (by omega), qaU (by omega) (by omega), qaU (by omega) (by omega)]
 simp only [List.flatMap_cons, List.flatMap_append, List.append_assoc]
 have e : qc.flatMap qeh = (qc.map fun x => ((7 : Int), Q9 x)).flatMap Qi := by
  rw [List.flatMap_map]
  rfl
 rw [e]
 cases qy qk 0 <;> cases qy qk 1 <;> simp [qaU (t := 5) (n := 2), qaU (t := 6) (n := 2)]
theorem qsM {qk qx inc lo hi seq qo : Int} {qc : LR} (hv : zb qk qx inc lo hi seq qo 0 0 0 qc = true) (h9 : qk ≠ 9) (hf : qdD qc = true) (hlen : (qaj qk qx inc lo hi seq qo qc).length ≤ 65499) :
  zT (qaj qk qx inc lo hi seq qo qc) = (qk, qx, inc, lo, hi, seq, qo, qc, 0) := by
 obtain ⟨v1, v2, v3, v4, v5, v6, v7, v8, v9, v10, v11, _, v12, v13⟩ := Qk hv
 have hs := (qaq _ _).1 v7
 obtain ⟨z0, z1⟩ := qkc hv
 have hP : qnc (qaj qk qx inc lo hi seq qo qc) = some (qk, qx, inc, lo * 16 + hi, seq, qo, qc.map fun x => ((7 : Int), Q9 x)) := by
  have hsp : Qh (qaj qk qx inc lo hi seq qo qc) = (qkY qk qx inc lo hi seq qo qc, 0) := by rw [qn6, qie]
  unfold qnc
  rw [if_neg (by rw [hsp]; simp; omega), hsp]
  dsimp only
  unfold qkY
  rw [qdB (by omega) (by omega) (by simp; omega)]
  dsimp only
  rw [qdB (by omega) (by omega) (by simp; omega)]
  dsimp only
  rw [qdB (by omega) (by omega) (by simp; omega)]
  dsimp only
  rw [qdB (by omega) (by omega) (by simp; omega)]
  dsimp only
  have hq : qel (qy qk 0) 5 ((if qy qk 0 then [((5 : Int), be (2 : Int).toNat seq)] else []) ++ ((if qy qk 1 then [((6 : Int), be (2 : Int).toNat qo)] else []) ++ qc.map fun x => ((7 : Int), Q9 x))) = some (seq, (if qy qk 1 then [((6 : Int), be (2 : Int).toNat qo)] else []) ++ qc.map fun x => ((7 : Int), Q9 x)) := by
   cases h : qy qk 0
   ·simp [qel, z0 h]
   ·simp only [qel, if_true, List.singleton_append]
    exact qdB (by omega) (by omega) (by simp; omega)
  have ht : qel (qy qk 1) 6 ((if qy qk 1 then [((6 : Int), be (2 : Int).toNat qo)] else []) ++ qc.map fun x => ((7 : Int), Q9 x)) = some (qo, qc.map fun x => ((7 : Int), Q9 x)) := by
   cases h : qy qk 1
   ·simp [qel, z1 h]
   ·simp only [qel, if_true, List.singleton_append]
    exact qdB (by omega) (by omega) (by simp; omega)
  rw [hq]
  dsimp only
  rw [ht]
 rw [qon, hP]
 dsimp only
 have o := (qhu (lo * 16 + hi) (by omega) (by omega)).1 (by rw [show (lo * 16 + hi) / 16 = lo from by omega, show (lo * 16 + hi) % 16 = hi from by omega]; exact v7)
 rw [o, qkJ qc fun x hx => ⟨v13 x hx, qj0 _ hf x hx⟩, show (lo * 16 + hi) / 16 = lo from by omega, show (lo * 16 + hi) % 16 = hi from by omega]
 unfold qhF
 dsimp only
 have hz := ql2 hv
 have : qbS qk qx inc lo hi seq qo 0 0 0 qc = true := by
  unfold qbS
  rw [hv, hz, if_neg, hf]
  simp [h9]
  omega
 rw [this]
 rfl
def qaH (l : LR) : Prop := ∀ r ∈ l, ∀ x ∈ r.2.2.2.2.2, ∀ c ∈ x.2, 0 ≤ c ∧ c ≤ 255
theorem qfZ {x : Int × List Int} (h1 : 0 ≤ x.1) (h2 : x.1 ≤ 255) (h3 : x.2.length ≤ 65535) (h4 : ∀ c ∈ x.2, 0 ≤ c ∧ c ≤ 255) : ∀ c ∈ Qi x, 0 ≤ c ∧ c ≤ 255 := by
 intro c hc
 unfold Qi at hc
 simp at hc
 rcases hc with rfl | rfl | rfl | hc
 ·omega
 ·omega
 ·omega
 ·exact h4 c hc
theorem qbm {t n v : Int} (t0 : 0 ≤ t) (t1 : t ≤ 255) (n1 : 1 ≤ n) (n7 : n ≤ 7) : ∀ c ∈ itB t n v, 0 ≤ c ∧ c ≤ 255 := by
 rw [qaU n1 n7]
 exact qfZ t0 t1 (by rw [zL]; omega) (fun c hc => qlb _ _ c hc)
theorem qjY {α : Type} {l : List α} {f : α → List Int} {Q : Int → Prop} (h : ∀ x ∈ l, ∀ c ∈ f x, Q c) : ∀ c ∈ l.flatMap f, Q c := by
 intro c hc
 obtain ⟨x, hx, hc⟩ := List.mem_flatMap.1 hc
 exact h x hx c hc
theorem qpq {r : Int × Int × Int × (Int × Int) × Bool × LF} (h : zE r = true) : (Q9 r).length ≤ 5000 := by
 have hb := Zd (zH h).2.2.2.2.2.2.2.1
 have := qiz r.2.2.2.2.2
 unfold Q9
 simp only [List.length_append, itB, List.length_cons, zL]
 omega
theorem qne {r : Int × Int × Int × (Int × Int) × Bool × LF} (h : zE r = true) (hb : ∀ x ∈ r.2.2.2.2.2, ∀ c ∈ x.2, 0 ≤ c ∧ c ≤ 255) : ∀ c ∈ Q9 r, 0 ≤ c ∧ c ≤ 255 := by
 have ht := qbD (zH h).2.2.2.2.2.2.2.1
 intro c hc
 unfold Q9 at hc
 simp only [List.mem_append] at hc
 rcases hc with hc | hc | hc | hc | hc
 ·exact qbm (by omega) (by omega) (by omega) (by omega) c hc
 ·exact qbm (by omega) (by omega) (by omega) (by omega) c hc
 ·exact qbm (by omega) (by omega) (by omega) (by omega) c hc
 ·exact qbm (by omega) (by omega) (by omega) (by omega) c hc
 ·exact qjY (fun x hx => qfZ (by have := ht x hx; omega) (ht x hx).2.1 (by have := ht x hx; omega) (hb x hx)) c hc
theorem qn7 {qk qx inc lo hi seq qo : Int} {qc : LR} (hr : ∀ x ∈ qc, zE x = true) (hb : qaH qc) : ∀ c ∈ qaj qk qx inc lo hi seq qo qc, 0 ≤ c ∧ c ≤ 255 := by
 intro c hc
 unfold qaj at hc
 simp only [List.mem_append] at hc
 rcases hc with hc | hc | hc | hc | hc | hc | hc
 ·exact qbm (by omega) (by omega) (by omega) (by omega) c hc
 ·exact qbm (by omega) (by omega) (by omega) (by omega) c hc
 ·exact qbm (by omega) (by omega) (by omega) (by omega) c hc
 ·exact qbm (by omega) (by omega) (by omega) (by omega) c hc
 ·split at hc
  ·exact qbm (by omega) (by omega) (by omega) (by omega) c hc
  ·simp at hc
 ·split at hc
  ·exact qbm (by omega) (by omega) (by omega) (by omega) c hc
  ·simp at hc
 ·exact qjY (fun x hx => qfZ (x := (7, Q9 x)) (by simp) (by simp) (by have := qpq (hr x hx); dsimp only; omega) (qne (hr x hx) (hb x hx))) c hc
theorem qno {qk qx inc lo hi seq qo qP qD qb : Int} {qc : LR} (h : qk6 qk qx inc lo hi seq qo qP qD qb qc = true) :
  zb qk qx inc lo hi seq qo qP qD qb qc = true ∧ qk ≠ 9 ∧ qP = 0 ∧ qD = 0 ∧ qb = 0 ∧ qdD qc = true ∧ (qaj qk qx inc lo hi seq qo qc).length ≤ 65499 := by
 unfold qk6 at h
 split at h
 ·cases h
 rename_i c
 split at h
 ·cases h
 rename_i c2
 simp at c c2 h
 exact ⟨c.1, c.2.1, c.2.2.1, c.2.2.2.1, c.2.2.2.2, c2, by omega⟩
def qkL : Env := ⟨th, gam [(116, qac), (134, qag), (135, qbZ)], fun i => ⟨[], [], []⟩⟩
def qal.k (rs : List AV) (os : List Den.Obj) : Option (Int × Int × Int × Int × Int × Bool × LF × Bool) :=
 match rs, os with
 | [.agg [.d (.int .i64) r0, .d (.int .i64) r1, .d (.int .i64) r2, .d (.int .i64) r3, .d (.int .i64) r4, .d .bool r5, .d (.sl (.pair (.int .i64) (.sl (.int .u8)))) r6], .d .bool r7], [] => some (r0, r1, r2, r3, r4, r5, r6, r7)
 | _, _ => none
def qal.b (l : LR) (id : Int) : Option (Int × Int × Int × Int × Int × Bool × LF × Bool) :=
 (match (veil (qU.f BIG l id)) with | none => none | some y0 => (if (y0.1 == ((((List.length l)) : Nat) : Int)) then some (0, 0, 0, 0, 0, false, ([] : LF), false) else (match (idx l y0.1) with | none => none | some y1 => (match (veil (Z6.f BIG y1.1 y1.2.1 y1.2.2.1 y1.2.2.2.1.1 y1.2.2.2.1.2 y1.2.2.2.2.1 y1.2.2.2.2.2)) with | none => none | some y2 => some (y2.1, y2.2.1, y2.2.2.1, y2.2.2.2.1, y2.2.2.2.2.1, y2.2.2.2.2.2.1, y2.2.2.2.2.2.2, true)))))
def qal.f (qa : Nat) (l : LR) (id : Int) : Option (Int × Int × Int × Int × Int × Bool × LF × Bool) := qal.b l id
theorem qal.eq (qa : Nat) (l : LR) (id : Int) : (denF qkL loopN qa Tryz.f122 [.dat tQr true, .raw] [.d (.sl tQr) l, .d tQi id] [] qal.k) = qal.f qa l id := by
 kernel_rfl
def qbd : Den.Sum := ⟨[.dat (.sl tQr) false, .raw], fun qK qm κ => match qK, qm with
 | [.d (.sl (.pair (.int .i64) (.pair (.int .i64) (.pair (.int .i64) (.pair (.pair (.int .i64) (.int .i64)) (.pair .bool (.sl (.pair (.int .i64) (.sl (.int .u8)))))))))) l, .d (.int .i64) id], [] => (match veil (qal.f BIG l id) with | none => none | some y => κ [.agg [.d (.int .i64) y.1, .d (.int .i64) y.2.1, .d (.int .i64) y.2.2.1, .d (.int .i64) y.2.2.2.1, .d (.int .i64) y.2.2.2.2.1, .d .bool y.2.2.2.2.2.1, .d (.sl (.pair (.int .i64) (.sl (.int .u8)))) y.2.2.2.2.2.2.1], .d .bool y.2.2.2.2.2.2.2] [])
 | _, _ => none⟩
theorem qgO : SumDet qbd := zj fun _ _ _ _ => by
 unfold qbd
 simp only [veil_eq]
 split
 ·split <;> rfl
 ·rfl
theorem qhR : SumOk Tryz.prog 122 qbd := by
 have hE : EnvOk Tryz.prog qkL := env_ok (l := [(116, qac), (134, qag), (135, qbZ)]) th_ok qZ ⟨⟨qgn, qf1⟩, ⟨qfJ, qfj⟩, ⟨qls, qkt⟩, trivial⟩ _
 refine sum_ok hE Tryz.func122 rfl (by kernel_rfl) qbd [.dat tQr true, .raw] qal.k ?_
 intro R avs qm κ r h
 unfold qbd at h
 simp only [veil_eq] at h
 split at h
 ·rename_i l id
  split at h
  ·cases h
  ·rename_i y hy
   refine ⟨BIG, _, _, _, (qal.eq BIG l id).trans hy, ?_, h⟩
   intro rs ros hk
   unfold qal.k at hk
   split at hk
   ·rw [← sj hk]; exact ⟨rfl, rfl⟩
   ·cases hk
 ·cases h
def Z5 : Env := ⟨th, gam [(79, qde), (80, qaS), (119, QZ), (75, qdi), (130, QY), (131, qaI), (122, qbd), (132, qbs)], fun i => if i = 17 then ⟨[4, 92, 93, 94], [], []⟩ else if i = 5 then ⟨[2, 4, 5, 8, 9, 10], [], [777777]⟩ else if i = 7 then ⟨[2, 4, 5, 8, 9, 10], [], [777777]⟩ else if i = 9 then ⟨[2, 4, 5, 8, 10], [], [777777]⟩ else if i = 13 then ⟨[4, 5, 8, 10], [], [777777]⟩ else ⟨[], [], []⟩⟩
def qd.k (rs : List AV) (os : List Den.Obj) : Option (List Int) :=
 match rs, os with
 | [], [.box [.row 2, .d .bool false], .gone, .row 5 (.int .u8) r0 false] => some r0
 | _, _ => none
def qd.s17 (l : List Int) (za qQ qw qu qv : Int) (qR : Bool) (qO : LF) (qi : Int) (qb : LR) (x41 x42 : Int) (x43 : (List Int)) : St := ⟨[dD, dD, dD, dD, .ptr 65 0, dD, dD, dD, dD, dD, dD, dD, dD, dD, dD, dD, dD, dD, dD, dD, dD, dD, dD, dD, dD, dD, dD, dD, dD, dD, dD, dD, dD, dD, dD, dD, dD, dD, dD, dD, dD, dD, dD, dD, dD, dD, dD, dD, dD, dD, dD, dD, dD, dD, dD, dD, dD, dD, dD, dD, dD, dD, dD, dD, dD, dD, dD, dD, dD, dD, dD, dD, dD, dD, dD, dD, dD, dD, dD, dD, dD, dD, dD, dD, dD, dD, dD, dD, dD, dD, dD, dD, .d (.sl (.pair tQi (.sl (.int .u8)))) (qO), .d tQi x41, .d tQi x42, dD, dD, dD, dD, dD, dD, dD, dD, dD, dD, dD, dD, dD, dD, dD, dD, dD, dD, dD, .dead], ofL [(0, .box [.row 64, .d .bool (false)]), (1, .gone), (64, .row 5 (.int .u8) x43 false), (65, .box [.ptr 0 0])], 2⟩
def qd.p17 (qa : Nat) (l : List Int) (za qQ qw qu qv : Int) (qR : Bool) (qO : LF) (qi : Int) (qb : LR) (k : Nat) := fun x41 x42 x43 => lp Z5 qa Tryz.f120 [.pb [.own (some 0) [] 0 5 (.int .u8) true, .kill 1]] 2 qd.k 17 [] k (qd.s17 l za qQ qw qu qv qR qO qi qb x41 x42 x43)
def qd.b17 (l : List Int) (za qQ qw qu qv : Int) (qR : Bool) (qO : LF) (qi : Int) (qb : LR) (A17 : Int → Int → (List Int) → Option (List Int)) (x41 : Int) (x42 : Int) (x43 : (List Int)) : Option (List Int) :=
 (if (decide (x42 < x41)) then (match (idx qO x42) with | none => none | some y44 => (if ((Qc (1 : Int) y44.1) ∧ (Zh x43)) then (match (veil (qn.f BIG (x43 ++ (be (Int.toNat (1 : Int)) y44.1)) (((((List.length y44.2)) : Nat) : Int) :: ([] : List Int)))) with | none => none | some y45 => (match (veil (z6.f BIG y45 y44.2)) with | none => none | some y46 => A17 x41 (IntKind.wrap .i64 (x42 + (1 : Int))) y46)) else none)) else some (x43))
def qd.l17 (qa : Nat) (l : List Int) (za qQ qw qu qv : Int) (qR : Bool) (qO : LF) (qi : Int) (qb : LR) : Nat → Int → Int → (List Int) → Option (List Int)
 | 0, _, _, _ => none
 | k + 1, x41, x42, x43 => qd.b17 l za qQ qw qu qv qR qO qi qb (qd.l17 qa l za qQ qw qu qv qR qO qi qb k) x41 x42 x43
def qd.s13 (l : List Int) (za qQ qw qu qv : Int) (qR : Bool) (qO : LF) (qi : Int) (qb : LR) (x28 : Int) (x29 : (List Int)) (x30 x31 x32 x33 x34 : Int) (x35 : Bool) (x36 : LF) : St := ⟨[dD, dD, dD, dD, .ptr 65 0, .ptr 66 0, .dead, .dead, .ptr 67 0, .dead, .d tQi x28, dD, dD, dD, dD, dD, dD, dD, dD, dD, dD, dD, dD, dD, dD, dD, dD, dD, dD, dD, dD, dD, dD, dD, dD, dD, dD, dD, dD, dD, dD, dD, dD, dD, dD, dD, dD, dD, dD, dD, dD, dD, dD, dD, dD, dD, dD, dD, dD, dD, dD, dD, dD, dD, dD, dD, dD, dD, dD, dD, dD, dD, dD, dD, dD, dD, dD, dD, dD, dD, dD, dD, dD, dD, dD, dD, dD, dD, dD, dD, dD, dD, dD, dD, dD, dD, dD, dD, dD, dD, dD, dD, dD, dD, dD, dD, dD, dD, dD, dD, dD, dD, dD, dD, .dead], ofL [(0, .box [.row 64, .d .bool (false)]), (1, .gone), (64, .row 5 (.int .u8) x29 false), (65, .box [.ptr 0 0]), (66, .box [.d tQi (za), .d tQi (qQ), .d tQi (qw), .d tQi (qu), .d tQi (qv), .d .bool (qR), .d (.sl (.pair tQi (.sl (.int .u8)))) (qO)]), (67, .box [.d tQi x30, .d tQi x31, .d tQi x32, .d tQi x33, .d tQi x34, .d .bool x35, .d (.sl (.pair tQi (.sl (.int .u8)))) x36])], 2⟩
def qd.p13 (qa : Nat) (l : List Int) (za qQ qw qu qv : Int) (qR : Bool) (qO : LF) (qi : Int) (qb : LR) (k : Nat) := fun x28 x29 x30 x31 x32 x33 x34 x35 x36 => lp Z5 qa Tryz.f120 [.pb [.own (some 0) [] 0 5 (.int .u8) true, .kill 1]] 2 qd.k 13 [] k (qd.s13 l za qQ qw qu qv qR qO qi qb x28 x29 x30 x31 x32 x33 x34 x35 x36)
def qd.b13 (l : List Int) (za qQ qw qu qv : Int) (qR : Bool) (qO : LF) (qi : Int) (qb : LR) (A13 : Int → (List Int) → Int → Int → Int → Int → Int → Bool → LF → Option (List Int)) (E17 : Int → Int → (List Int) → Option (List Int)) (x28 : Int) (x29 : (List Int)) (x30 : Int) (x31 : Int) (x32 : Int) (x33 : Int) (x34 : Int) (x35 : Bool) (x36 : LF) : Option (List Int) :=
 (match (veil (ZJ.f BIG (IntKind.wrap .i64 (qQ - x31)))) with | none => none | some y37 => (match (veil (zA.f BIG y37)) with | none => none | some y38 => (match (veil (z6.f BIG x29 y38)) with | none => none | some y39 => (if ((bits BinOp.and .i64 x28 (20 : Int)) != (0 : Int)) then some (y39) else (match (veil (qn.f BIG y39 (((((List.length qO)) : Nat) : Int) :: ([] : List Int)))) with | none => none | some y40 => E17 ((((List.length qO)) : Nat) : Int) (0 : Int) y40)))))
def qd.l13 (qa : Nat) (l : List Int) (za qQ qw qu qv : Int) (qR : Bool) (qO : LF) (qi : Int) (qb : LR) : Nat → Int → (List Int) → Int → Int → Int → Int → Int → Bool → LF → Option (List Int)
 | 0, _, _, _, _, _, _, _, _, _ => none
 | k + 1, x28, x29, x30, x31, x32, x33, x34, x35, x36 => qd.b13 l za qQ qw qu qv qR qO qi qb (qd.l13 qa l za qQ qw qu qv qR qO qi qb k) (qd.l17 qa l za qQ qw qu qv qR qO qi qb qa) x28 x29 x30 x31 x32 x33 x34 x35 x36
def qd.s9 (l : List Int) (za qQ qw qu qv : Int) (qR : Bool) (qO : LF) (qi : Int) (qb : LR) (x19 x20 x21 x22 x23 x24 : Int) (x25 : Bool) (x26 : LF) : St := ⟨[.dead, .dead, .d tQi (qi), .dead, .ptr 64 0, .ptr 65 0, .dead, .dead, .ptr 66 0, .dead, .d tQi x19, dD, dD, dD, dD, dD, dD, dD, dD, dD, dD, dD, dD, dD, dD, dD, dD, dD, dD, dD, dD, dD, dD, dD, dD, dD, dD, dD, dD, dD, dD, dD, dD, dD, dD, dD, dD, dD, dD, dD, dD, dD, dD, dD, dD, dD, dD, dD, dD, dD, dD, dD, dD, dD, dD, dD, dD, dD, dD, dD, dD, dD, dD, dD, dD, dD, dD, dD, dD, dD, dD, dD, dD, dD, dD, dD, dD, dD, dD, dD, dD, dD, dD, dD, dD, dD, dD, dD, dD, dD, dD, dD, dD, dD, dD, dD, dD, dD, dD, dD, dD, dD, dD, dD, .dead], ofL [(0, .box [.row 1, .d .bool (false)]), (1, .row 5 (.int .u8) (l) false), (64, .box [.ptr 0 0]), (65, .box [.d tQi (za), .d tQi (qQ), .d tQi (qw), .d tQi (qu), .d tQi (qv), .d .bool (qR), .d (.sl (.pair tQi (.sl (.int .u8)))) (qO)]), (66, .box [.d tQi x20, .d tQi x21, .d tQi x22, .d tQi x23, .d tQi x24, .d .bool x25, .d (.sl (.pair tQi (.sl (.int .u8)))) x26])], 2⟩
def qd.p9 (qa : Nat) (l : List Int) (za qQ qw qu qv : Int) (qR : Bool) (qO : LF) (qi : Int) (qb : LR) (k : Nat) := fun x19 x20 x21 x22 x23 x24 x25 x26 => lp Z5 qa Tryz.f120 [.pb [.own (some 0) [] 0 5 (.int .u8) true, .kill 1]] 2 qd.k 9 [] k (qd.s9 l za qQ qw qu qv qR qO qi qb x19 x20 x21 x22 x23 x24 x25 x26)
def qd.b9 (l : List Int) (za qQ qw qu qv : Int) (qR : Bool) (qO : LF) (qi : Int) (qb : LR) (A9 : Int → Int → Int → Int → Int → Int → Bool → LF → Option (List Int)) (E13 : Int → (List Int) → Int → Int → Int → Int → Int → Bool → LF → Option (List Int)) (x19 : Int) (x20 : Int) (x21 : Int) (x22 : Int) (x23 : Int) (x24 : Int) (x25 : Bool) (x26 : LF) : Option (List Int) :=
 (match (veil (qn.f BIG l ((IntKind.wrap .i64 ((IntKind.wrap .i64 (za - qi)) - (1 : Int))) :: ([] : List Int)))) with | none => none | some y27 => (if ((Qc (1 : Int) x19) ∧ (Zh y27)) then (if ((bits BinOp.and .i64 x19 (8 : Int)) == (0 : Int)) then (if ((Qc (1 : Int) (Qq qu qv)) ∧ (Zh (y27 ++ (be (Int.toNat (1 : Int)) x19)))) then E13 x19 ((y27 ++ (be (Int.toNat (1 : Int)) x19)) ++ (be (Int.toNat (1 : Int)) (Qq qu qv))) x20 x21 x22 x23 x24 x25 x26 else none) else E13 x19 (y27 ++ (be (Int.toNat (1 : Int)) x19)) x20 x21 x22 x23 x24 x25 x26) else none))
def qd.l9 (qa : Nat) (l : List Int) (za qQ qw qu qv : Int) (qR : Bool) (qO : LF) (qi : Int) (qb : LR) : Nat → Int → Int → Int → Int → Int → Int → Bool → LF → Option (List Int)
 | 0, _, _, _, _, _, _, _, _ => none
 | k + 1, x19, x20, x21, x22, x23, x24, x25, x26 => qd.b9 l za qQ qw qu qv qR qO qi qb (qd.l9 qa l za qQ qw qu qv qR qO qi qb k) (qd.l13 qa l za qQ qw qu qv qR qO qi qb qa) x19 x20 x21 x22 x23 x24 x25 x26
def qd.s7 (l : List Int) (za qQ qw qu qv : Int) (qR : Bool) (qO : LF) (qi : Int) (qb : LR) (x10 : Bool) (x11 x12 x13 x14 x15 x16 : Int) (x17 : Bool) (x18 : LF) : St := ⟨[.dead, .dead, .d tQi (qi), .dead, .ptr 64 0, .ptr 65 0, .dead, .dead, .ptr 66 0, .d .bool x10, .d tQi x11, dD, dD, dD, dD, dD, dD, dD, dD, dD, dD, dD, dD, dD, dD, dD, dD, dD, dD, dD, dD, dD, dD, dD, dD, dD, dD, dD, dD, dD, dD, dD, dD, dD, dD, dD, dD, dD, dD, dD, dD, dD, dD, dD, dD, dD, dD, dD, dD, dD, dD, dD, dD, dD, dD, dD, dD, dD, dD, dD, dD, dD, dD, dD, dD, dD, dD, dD, dD, dD, dD, dD, dD, dD, dD, dD, dD, dD, dD, dD, dD, dD, dD, dD, dD, dD, dD, dD, dD, dD, dD, dD, dD, dD, dD, dD, dD, dD, dD, dD, dD, dD, dD, dD, .dead], ofL [(0, .box [.row 1, .d .bool (false)]), (1, .row 5 (.int .u8) (l) false), (64, .box [.ptr 0 0]), (65, .box [.d tQi (za), .d tQi (qQ), .d tQi (qw), .d tQi (qu), .d tQi (qv), .d .bool (qR), .d (.sl (.pair tQi (.sl (.int .u8)))) (qO)]), (66, .box [.d tQi x12, .d tQi x13, .d tQi x14, .d tQi x15, .d tQi x16, .d .bool x17, .d (.sl (.pair tQi (.sl (.int .u8)))) x18])], 2⟩
def qd.p7 (qa : Nat) (l : List Int) (za qQ qw qu qv : Int) (qR : Bool) (qO : LF) (qi : Int) (qb : LR) (k : Nat) := fun x10 x11 x12 x13 x14 x15 x16 x17 x18 => lp Z5 qa Tryz.f120 [.pb [.own (some 0) [] 0 5 (.int .u8) true, .kill 1]] 2 qd.k 7 [] k (qd.s7 l za qQ qw qu qv qR qO qi qb x10 x11 x12 x13 x14 x15 x16 x17 x18)
def qd.b7 (l : List Int) (za qQ qw qu qv : Int) (qR : Bool) (qO : LF) (qi : Int) (qb : LR) (A7 : Bool → Int → Int → Int → Int → Int → Int → Bool → LF → Option (List Int)) (E9 : Int → Int → Int → Int → Int → Int → Bool → LF → Option (List Int)) (x10 : Bool) (x11 : Int) (x12 : Int) (x13 : Int) (x14 : Int) (x15 : Int) (x16 : Int) (x17 : Bool) (x18 : LF) : Option (List Int) :=
 (if x10 then (if (!r0Cut) then (if ((zx x18) && (zx qO)) then (if ((ZP x18 qO) == (0 : Int)) then E9 (bits BinOp.or .i64 x11 (16 : Int)) x12 x13 x14 x15 x16 x17 x18 else E9 x11 x12 x13 x14 x15 x16 x17 x18) else none) else E9 x11 x12 x13 x14 x15 x16 x17 x18) else E9 x11 x12 x13 x14 x15 x16 x17 x18)
def qd.l7 (qa : Nat) (l : List Int) (za qQ qw qu qv : Int) (qR : Bool) (qO : LF) (qi : Int) (qb : LR) : Nat → Bool → Int → Int → Int → Int → Int → Int → Bool → LF → Option (List Int)
 | 0, _, _, _, _, _, _, _, _, _ => none
 | k + 1, x10, x11, x12, x13, x14, x15, x16, x17, x18 => qd.b7 l za qQ qw qu qv qR qO qi qb (qd.l7 qa l za qQ qw qu qv qR qO qi qb k) (qd.l9 qa l za qQ qw qu qv qR qO qi qb qa) x10 x11 x12 x13 x14 x15 x16 x17 x18
def qd.s5 (l : List Int) (za qQ qw qu qv : Int) (qR : Bool) (qO : LF) (qi : Int) (qb : LR) (x1 : Bool) (x2 x3 x4 x5 x6 x7 : Int) (x8 : Bool) (x9 : LF) : St := ⟨[.dead, .dead, .d tQi (qi), .dead, .ptr 64 0, .ptr 65 0, .dead, .dead, .ptr 66 0, .d .bool x1, .d tQi x2, dD, dD, dD, dD, dD, dD, dD, dD, dD, dD, dD, dD, dD, dD, dD, dD, dD, dD, dD, dD, dD, dD, dD, dD, dD, dD, dD, dD, dD, dD, dD, dD, dD, dD, dD, dD, dD, dD, dD, dD, dD, dD, dD, dD, dD, dD, dD, dD, dD, dD, dD, dD, dD, dD, dD, dD, dD, dD, dD, dD, dD, dD, dD, dD, dD, dD, dD, dD, dD, dD, dD, dD, dD, dD, dD, dD, dD, dD, dD, dD, dD, dD, dD, dD, dD, dD, dD, dD, dD, dD, dD, dD, dD, dD, dD, dD, dD, dD, dD, dD, dD, dD, dD, .dead], ofL [(0, .box [.row 1, .d .bool (false)]), (1, .row 5 (.int .u8) (l) false), (64, .box [.ptr 0 0]), (65, .box [.d tQi (za), .d tQi (qQ), .d tQi (qw), .d tQi (qu), .d tQi (qv), .d .bool (qR), .d (.sl (.pair tQi (.sl (.int .u8)))) (qO)]), (66, .box [.d tQi x3, .d tQi x4, .d tQi x5, .d tQi x6, .d tQi x7, .d .bool x8, .d (.sl (.pair tQi (.sl (.int .u8)))) x9])], 2⟩
def qd.p5 (qa : Nat) (l : List Int) (za qQ qw qu qv : Int) (qR : Bool) (qO : LF) (qi : Int) (qb : LR) (k : Nat) := fun x1 x2 x3 x4 x5 x6 x7 x8 x9 => lp Z5 qa Tryz.f120 [.pb [.own (some 0) [] 0 5 (.int .u8) true, .kill 1]] 2 qd.k 5 [] k (qd.s5 l za qQ qw qu qv qR qO qi qb x1 x2 x3 x4 x5 x6 x7 x8 x9)
def qd.b5 (l : List Int) (za qQ qw qu qv : Int) (qR : Bool) (qO : LF) (qi : Int) (qb : LR) (A5 : Bool → Int → Int → Int → Int → Int → Int → Bool → LF → Option (List Int)) (E7 : Bool → Int → Int → Int → Int → Int → Int → Bool → LF → Option (List Int)) (x1 : Bool) (x2 : Int) (x3 : Int) (x4 : Int) (x5 : Int) (x6 : Int) (x7 : Int) (x8 : Bool) (x9 : LF) : Option (List Int) :=
 (if x1 then (if (if (x6 == qu) then (if (x7 == qv) then true else false) else false) then E7 x1 (bits BinOp.or .i64 x2 (8 : Int)) x3 x4 x5 x6 x7 x8 x9 else E7 x1 x2 x3 x4 x5 x6 x7 x8 x9) else E7 x1 x2 x3 x4 x5 x6 x7 x8 x9)
def qd.l5 (qa : Nat) (l : List Int) (za qQ qw qu qv : Int) (qR : Bool) (qO : LF) (qi : Int) (qb : LR) : Nat → Bool → Int → Int → Int → Int → Int → Int → Bool → LF → Option (List Int)
 | 0, _, _, _, _, _, _, _, _, _ => none
 | k + 1, x1, x2, x3, x4, x5, x6, x7, x8, x9 => qd.b5 l za qQ qw qu qv qR qO qi qb (qd.l5 qa l za qQ qw qu qv qR qO qi qb k) (qd.l7 qa l za qQ qw qu qv qR qO qi qb qa) x1 x2 x3 x4 x5 x6 x7 x8 x9
def qd.b (l : List Int) (za qQ qw qu qv : Int) (qR : Bool) (qO : LF) (qi : Int) (qb : LR) (E5 : Bool → Int → Int → Int → Int → Int → Int → Bool → LF → Option (List Int)) : Option (List Int) :=
 (match (veil (qal.f BIG qb za)) with | none => none | some y0 => (if qR then E5 y0.2.2.2.2.2.2.2 (bits BinOp.or .i64 qw (4 : Int)) y0.1 y0.2.1 y0.2.2.1 y0.2.2.2.1 y0.2.2.2.2.1 y0.2.2.2.2.2.1 y0.2.2.2.2.2.2.1 else E5 y0.2.2.2.2.2.2.2 qw y0.1 y0.2.1 y0.2.2.1 y0.2.2.2.1 y0.2.2.2.2.1 y0.2.2.2.2.2.1 y0.2.2.2.2.2.2.1))
def qd.f (qa : Nat) (l : List Int) (za qQ qw qu qv : Int) (qR : Bool) (qO : LF) (qi : Int) (qb : LR) : Option (List Int) := qd.b l za qQ qw qu qv qR qO qi qb (qd.l5 qa l za qQ qw qu qv qR qO qi qb qa)
theorem qd.l17_eq (qa : Nat) (l : List Int) (za qQ qw qu qv : Int) (qR : Bool) (qO : LF) (qi : Int) (qb : LR) : ∀ k : Nat, qd.p17 qa l za qQ qw qu qv qR qO qi qb k = qd.l17 qa l za qQ qw qu qv qR qO qi qb k
 | 0 => by kernel_rfl
 | k + 1 => by
  refine Eq.trans (b := qd.b17 l za qQ qw qu qv qR qO qi qb (qd.p17 qa l za qQ qw qu qv qR qO qi qb k)) (by kernel_rfl) ?_
  rw [qd.l17_eq qa l za qQ qw qu qv qR qO qi qb k]
  kernel_rfl
theorem qd.l13_eq (qa : Nat) (l : List Int) (za qQ qw qu qv : Int) (qR : Bool) (qO : LF) (qi : Int) (qb : LR) : ∀ k : Nat, qd.p13 qa l za qQ qw qu qv qR qO qi qb k = qd.l13 qa l za qQ qw qu qv qR qO qi qb k
 | 0 => by kernel_rfl
 | k + 1 => by
  refine Eq.trans (b := qd.b13 l za qQ qw qu qv qR qO qi qb (qd.p13 qa l za qQ qw qu qv qR qO qi qb k) (qd.p17 qa l za qQ qw qu qv qR qO qi qb qa)) (by kernel_rfl) ?_
  rw [qd.l13_eq qa l za qQ qw qu qv qR qO qi qb k, qd.l17_eq qa l za qQ qw qu qv qR qO qi qb qa]
  kernel_rfl
theorem qd.l9_eq (qa : Nat) (l : List Int) (za qQ qw qu qv : Int) (qR : Bool) (qO : LF) (qi : Int) (qb : LR) : ∀ k : Nat, qd.p9 qa l za qQ qw qu qv qR qO qi qb k = qd.l9 qa l za qQ qw qu qv qR qO qi qb k
 | 0 => by kernel_rfl
 | k + 1 => by
  refine Eq.trans (b := qd.b9 l za qQ qw qu qv qR qO qi qb (qd.p9 qa l za qQ qw qu qv qR qO qi qb k) (qd.p13 qa l za qQ qw qu qv qR qO qi qb qa)) (by kernel_rfl) ?_
  rw [qd.l9_eq qa l za qQ qw qu qv qR qO qi qb k, qd.l13_eq qa l za qQ qw qu qv qR qO qi qb qa]
  kernel_rfl
theorem qd.l7_eq (qa : Nat) (l : List Int) (za qQ qw qu qv : Int) (qR : Bool) (qO : LF) (qi : Int) (qb : LR) : ∀ k : Nat, qd.p7 qa l za qQ qw qu qv qR qO qi qb k = qd.l7 qa l za qQ qw qu qv qR qO qi qb k
 | 0 => by kernel_rfl
 | k + 1 => by
  refine Eq.trans (b := qd.b7 l za qQ qw qu qv qR qO qi qb (qd.p7 qa l za qQ qw qu qv qR qO qi qb k) (qd.p9 qa l za qQ qw qu qv qR qO qi qb qa)) (by kernel_rfl) ?_
  rw [qd.l7_eq qa l za qQ qw qu qv qR qO qi qb k, qd.l9_eq qa l za qQ qw qu qv qR qO qi qb qa]
  kernel_rfl
theorem qd.l5_eq (qa : Nat) (l : List Int) (za qQ qw qu qv : Int) (qR : Bool) (qO : LF) (qi : Int) (qb : LR) : ∀ k : Nat, qd.p5 qa l za qQ qw qu qv qR qO qi qb k = qd.l5 qa l za qQ qw qu qv qR qO qi qb k
 | 0 => by kernel_rfl
 | k + 1 => by
  refine Eq.trans (b := qd.b5 l za qQ qw qu qv qR qO qi qb (qd.p5 qa l za qQ qw qu qv qR qO qi qb k) (qd.p7 qa l za qQ qw qu qv qR qO qi qb qa)) (by kernel_rfl) ?_
  rw [qd.l5_eq qa l za qQ qw qu qv qR qO qi qb k, qd.l7_eq qa l za qQ qw qu qv qR qO qi qb qa]
  kernel_rfl
theorem qd.eq (qa : Nat) (l : List Int) (za qQ qw qu qv : Int) (qR : Bool) (qO : LF) (qi : Int) (qb : LR) : (denF Z5 loopN qa Tryz.f120 [.pb [.own (some 0) [] 0 5 (.int .u8) true, .kill 1]] [.agg [.ptr 0 0], .agg [.d tQi za, .d tQi qQ, .d tQi qw, .d tQi qu, .d tQi qv, .d .bool qR, .d (.sl (.pair tQi (.sl (.int .u8)))) qO], .d tQi qi, .d (.sl tQr) qb] [.box [.row 1, .d .bool false], .row 5 (.int .u8) l false] qd.k) = qd.f qa l za qQ qw qu qv qR qO qi qb := by
 refine Eq.trans (b := qd.b l za qQ qw qu qv qR qO qi qb (qd.p5 qa l za qQ qw qu qv qR qO qi qb qa)) (by kernel_rfl) ?_
 rw [qd.l5_eq qa l za qQ qw qu qv qR qO qi qb qa]
 kernel_rfl
def Z2 : Den.Sum := ⟨[.pb [.own none [0] 0 5 (.int .u8) false], .dat tQr true, .raw, .dat (.sl tQr) false], fun qK qm κ => match qK, qm with
 | [.agg [.ptr 0 0], .agg [.d (.int .i64) za, .d (.int .i64) qQ, .d (.int .i64) qw, .d (.int .i64) qu, .d (.int .i64) qv, .d .bool qR, .d (.sl (.pair (.int .i64) (.sl (.int .u8)))) qO], .d (.int .i64) qi, .d (.sl (.pair (.int .i64) (.pair (.int .i64) (.pair (.int .i64) (.pair (.pair (.int .i64) (.int .i64)) (.pair .bool (.sl (.pair (.int .i64) (.sl (.int .u8)))))))))) qb], [.box [.row 1, .d .bool false], .row 5 (.int .u8) l false] => (match veil (qd.f BIG l za qQ qw qu qv qR qO qi qb) with | none => none | some y => κ [] [.box [.row 2, .d .bool false], .gone, .row 5 (.int .u8) y false])
 | _, _ => none⟩
theorem qgU : SumDet Z2 := zj fun _ _ _ _ => by
 unfold Z2
 simp only [veil_eq]
 split
 ·split <;> rfl
 ·rfl
theorem qhg : SumOk Tryz.prog 120 Z2 := by
 have hE : EnvOk Tryz.prog Z5 := env_ok (l := [(79, qde), (80, qaS), (119, QZ), (75, qdi), (130, QY), (131, qaI), (122, qbd), (132, qbs)]) th_ok qZ ⟨⟨qhf, qf7⟩, ⟨qdX, qdh⟩, ⟨qdW, qdy⟩, ⟨qkG, qjm⟩, ⟨qdV, qdx⟩, ⟨qgL, qf4⟩, ⟨qhR, qgO⟩, ⟨qkk, qjD⟩, trivial⟩ _
 refine sum_ok hE Tryz.func120 rfl (by kernel_rfl) Z2 [.pb [.own (some 0) [] 0 5 (.int .u8) true, .kill 1]] qd.k ?_
 intro R avs qm κ r h
 unfold Z2 at h
 simp only [veil_eq] at h
 split at h
 ·rename_i za qQ qw qu qv qR qO qi qb l
  split at h
  ·cases h
  ·rename_i y hy
   refine ⟨BIG, _, _, _, (qd.eq BIG l za qQ qw qu qv qR qO qi qb).trans hy, ?_, h⟩
   intro rs ros hk
   unfold qd.k at hk
   split at hk
   ·rw [← sj hk]; exact ⟨rfl, rfl⟩
   ·cases hk
 ·cases h
theorem qd.l17_at (qa n k : Nat) (hn : n = k + 1) (l : List Int) (za : Int) (qQ : Int) (qw : Int) (qu : Int) (qv : Int) (qR : Bool) (qO : LF) (qi : Int) (qb : LR) (x41 : Int) (x42 : Int) (x43 : (List Int)) : qd.l17 qa l za qQ qw qu qv qR qO qi qb n x41 x42 x43 = qd.b17 l za qQ qw qu qv qR qO qi qb (qd.l17 qa l za qQ qw qu qv qR qO qi qb k) x41 x42 x43 := by
 subst hn
 rfl
theorem qd.l13_at (qa n k : Nat) (hn : n = k + 1) (l : List Int) (za : Int) (qQ : Int) (qw : Int) (qu : Int) (qv : Int) (qR : Bool) (qO : LF) (qi : Int) (qb : LR) (x28 : Int) (x29 : (List Int)) (x30 : Int) (x31 : Int) (x32 : Int) (x33 : Int) (x34 : Int) (x35 : Bool) (x36 : LF) : qd.l13 qa l za qQ qw qu qv qR qO qi qb n x28 x29 x30 x31 x32 x33 x34 x35 x36 = qd.b13 l za qQ qw qu qv qR qO qi qb (qd.l13 qa l za qQ qw qu qv qR qO qi qb k) (qd.l17 qa l za qQ qw qu qv qR qO qi qb qa) x28 x29 x30 x31 x32 x33 x34 x35 x36 := by
 subst hn
 rfl
theorem qd.l9_at (qa n k : Nat) (hn : n = k + 1) (l : List Int) (za : Int) (qQ : Int) (qw : Int) (qu : Int) (qv : Int) (qR : Bool) (qO : LF) (qi : Int) (qb : LR) (x19 : Int) (x20 : Int) (x21 : Int) (x22 : Int) (x23 : Int) (x24 : Int) (x25 : Bool) (x26 : LF) : qd.l9 qa l za qQ qw qu qv qR qO qi qb n x19 x20 x21 x22 x23 x24 x25 x26 = qd.b9 l za qQ qw qu qv qR qO qi qb (qd.l9 qa l za qQ qw qu qv qR qO qi qb k) (qd.l13 qa l za qQ qw qu qv qR qO qi qb qa) x19 x20 x21 x22 x23 x24 x25 x26 := by
 subst hn
 rfl
theorem qd.l7_at (qa n k : Nat) (hn : n = k + 1) (l : List Int) (za : Int) (qQ : Int) (qw : Int) (qu : Int) (qv : Int) (qR : Bool) (qO : LF) (qi : Int) (qb : LR) (x10 : Bool) (x11 : Int) (x12 : Int) (x13 : Int) (x14 : Int) (x15 : Int) (x16 : Int) (x17 : Bool) (x18 : LF) : qd.l7 qa l za qQ qw qu qv qR qO qi qb n x10 x11 x12 x13 x14 x15 x16 x17 x18 = qd.b7 l za qQ qw qu qv qR qO qi qb (qd.l7 qa l za qQ qw qu qv qR qO qi qb k) (qd.l9 qa l za qQ qw qu qv qR qO qi qb qa) x10 x11 x12 x13 x14 x15 x16 x17 x18 := by
 subst hn
 rfl
theorem qd.l5_at (qa n k : Nat) (hn : n = k + 1) (l : List Int) (za : Int) (qQ : Int) (qw : Int) (qu : Int) (qv : Int) (qR : Bool) (qO : LF) (qi : Int) (qb : LR) (x1 : Bool) (x2 : Int) (x3 : Int) (x4 : Int) (x5 : Int) (x6 : Int) (x7 : Int) (x8 : Bool) (x9 : LF) : qd.l5 qa l za qQ qw qu qv qR qO qi qb n x1 x2 x3 x4 x5 x6 x7 x8 x9 = qd.b5 l za qQ qw qu qv qR qO qi qb (qd.l5 qa l za qQ qw qu qv qR qO qi qb k) (qd.l7 qa l za qQ qw qu qv qR qO qi qb qa) x1 x2 x3 x4 x5 x6 x7 x8 x9 := by
 subst hn
 rfl
abbrev REC := Int × Int × Int × (Int × Int) × Bool × LF
theorem qaW : BIG = (BIG - 1) + 1 := by rw [Zw]
def viF : Nat → Int → List Int
 | 0, v => [v]
 | k + 1, v => if v ≥ 128 then (v % 128 + 128) :: viF k (v / 128) else [v]
def vi (v : Int) : List Int := viF 9 v
theorem qqg : (List.range 256).all (fun n => bits BinOp.or .u8 (n : Int) 128 == (n : Int) % 128 + 128) = true := by kernel_rfl
theorem qsG (c : Int) (h0 : 0 ≤ c) (h1 : c < 256) : bits BinOp.or .u8 c 128 = c % 128 + 128 := by
 have := List.all_eq_true.1 qqg c.toNat (by simp; omega)
 rw [show ((c.toNat : Nat) : Int) = c from by omega] at this
 simpa using this
theorem qgI (n : Int) : IntKind.wrap .u8 n = n % 256 := by
 simp [IntKind.wrap, IntKind.signed, IntKind.bits]
theorem Of.loop (qa : Nat) (v : Int) : ∀ (j k : Nat) (x0 : Int) (x1 : List Int), 0 ≤ x0 → x0 < 128 ^ (j + 1) → j < k → x1.length + j < 1000 →
  zA.l2 qa v k x0 x1 = some (x1 ++ viF j x0) := by
 intro j
 induction j with
 | zero =>
  intro k x0 x1 h0 h1 hk hl
  obtain ⟨k, rfl⟩ : ∃ k', k = k' + 1 := ⟨k - 1, by omega⟩
  rw [zA.l2]
  unfold zA.b2
  rw [if_neg (by simp at h1 ⊢; omega), if_pos (by simp [lim]; omega), qgI, show x0 % 256 = x0 from by simp at h1; omega]
  rfl
 | succ j ih =>
  intro k x0 x1 h0 h1 hk hl
  obtain ⟨k, rfl⟩ : ∃ k', k = k' + 1 := ⟨k - 1, by omega⟩
  rw [zA.l2]
  unfold zA.b2
  rw [viF]
  by_cases hc : x0 ≥ 128
  ·rw [if_pos (by simpa using hc), if_pos (by simp [lim]; omega), if_pos hc, qgI, qsG _ (by omega) (by omega)]
   rw [show ((2 : Int) ^ (Min.min (Int.toNat (7 : Int)) (IntKind.bits .u64))) = 128 from rfl, Int.fdiv_eq_ediv_of_nonneg _ (by omega)]
   rw [ih k (x0 / 128) _ (by omega) (by rw [Int.pow_succ] at h1; generalize (128 : Int) ^ (j + 1) = M at h1 ⊢; omega) (by omega) (by simp; omega), show x0 % 256 % 128 = x0 % 128 from by omega]
   simp
  ·rw [if_neg (by simpa using hc), if_pos (by simp [lim]; omega), if_neg hc, qgI, show x0 % 256 = x0 from by omega]
theorem Of.pure (v : Int) (h0 : 0 ≤ v) (h1 : v < 18446744073709551616) : zA.f BIG v = some (vi v) := by
 unfold zA.f zA.b vi
 rw [Of.loop BIG v 9 BIG v [] h0 (by simp; omega) (by rw [Zw]; omega) (by simp)]
 rfl
theorem qoa : ∀ (j : Nat) (v : Int), 1 ≤ (viF j v).length ∧ (viF j v).length ≤ j + 1
 | 0, v => by simp [viF]
 | j + 1, v => by
  rw [viF]
  split
  ·have := qoa j (v / 128)
   simp; omega
  ·simp
theorem qaC (v : Int) : 1 ≤ (vi v).length ∧ (vi v).length ≤ 10 := qoa 9 v
theorem Raw.pure (l b : List Int) (h : l.length + b.length ≤ 1099511627776) : z6.f BIG l b = some (l ++ b) := by
 unfold z6.f z6.b
 rw [if_pos (by simp [lim]; omega)]
theorem qab (n : Int) (h0 : 0 ≤ n) (h1 : n < 18446744073709551616) : IntKind.wrap .u64 n = n := by
 simp [IntKind.wrap, IntKind.signed, IntKind.bits]
 omega
theorem qj5.loop (qa : Nat) (l0 vs : List Int) (hv : ∀ v ∈ vs, 0 ≤ v ∧ v < 9223372036854775808) (hn : vs.length < 1000) : ∀ (k i : Nat) (acc : List Int), i ≤ vs.length → vs.length - i < k → acc.length + 10 * (vs.length - i) ≤ 1099511627776 →
  qn.l2 qa l0 vs k (vs.length : Int) (i : Int) acc = some (acc ++ (vs.drop i).flatMap vi) := by
 intro k
 induction k with
 | zero => intro i acc h1 h2; omega
 | succ k ih =>
  intro i acc h1 h2 h3
  rw [qn.l2]
  unfold qn.b2
  simp only [veil_eq]
  by_cases hi : i < vs.length
  ·rw [if_pos (by simp; omega), Qm, List.getElem?_eq_getElem hi]
   dsimp only
   obtain ⟨v0, v1⟩ := hv vs[i] (List.getElem_mem hi)
   have hl := qaC vs[i]
   rw [qab _ v0 (by omega), Of.pure _ v0 (by omega)]
   dsimp only
   rw [Raw.pure _ _ (by omega)]
   dsimp only
   rw [qX _ (by omega) (by omega), show ((i : Int) + 1) = ((i + 1 : Nat) : Int) from by omega, ih (i + 1) _ (by omega) (by omega) (by simp; omega), List.drop_eq_getElem_cons hi, List.flatMap_cons]
   simp
  ·rw [if_neg (by simp; omega), List.drop_of_length_le (by omega)]
   simp
theorem qj5.pure (l vs : List Int) (hv : ∀ v ∈ vs, 0 ≤ v ∧ v < 9223372036854775808) (hn : vs.length < 1000) (hl : l.length + 10 * vs.length ≤ 1099511627776) : qn.f BIG l vs = some (l ++ vs.flatMap vi) := by
 unfold qn.f qn.b
 exact qj5.loop BIG l vs hv hn BIG 0 l (by omega) (by rw [Zw]; omega) (by omega)
def qbp (n : Int) : Int := if n ≥ 0 then 2 * n else -2 * n - 1
theorem qqU (a : Int) (h0 : 0 ≤ a) (h1 : a < 18446744073709551616) : bits BinOp.xor .u64 a 0 = a := by
 have e : bits BinOp.xor .u64 a 0 = IntKind.wrap .u64 ((BitVec.ofInt 64 a ^^^ 0#64).toNat : Int) := rfl
 rw [e, BitVec.xor_zero, BitVec.toNat_ofInt, qab]
 ·omega
 ·omega
 ·omega
theorem qqV (a : Int) (h0 : 0 ≤ a) (h1 : a < 18446744073709551616) : bits BinOp.xor .u64 a 18446744073709551615 = 18446744073709551615 - a := by
 have e : bits BinOp.xor .u64 a 18446744073709551615 = IntKind.wrap .u64 ((BitVec.ofInt 64 a ^^^ BitVec.ofInt 64 18446744073709551615).toNat : Int) := rfl
 rw [e, show BitVec.ofInt 64 18446744073709551615 = BitVec.allOnes 64 from by decide +kernel, BitVec.xor_allOnes, BitVec.toNat_not, BitVec.toNat_ofInt, qab]
 ·omega
 ·omega
 ·omega
theorem Zig.pure (n : Int) (h0 : -4611686018427387904 ≤ n) (h1 : n < 4611686018427387904) : ZJ.f BIG n = some (qbp n) := by
 unfold ZJ.f ZJ.b qbp
 rw [show ((2 : Int) ^ (Min.min (Int.toNat (1 : Int)) (IntKind.bits .u64))) = 2 from rfl, show ((2 : Int) ^ (Min.min (Int.toNat (63 : Int)) (IntKind.bits .i64))) = 9223372036854775808 from by decide +kernel, Int.fdiv_eq_ediv_of_nonneg _ (by omega)]
 by_cases h : n ≥ 0
 ·rw [if_pos h, show n / 9223372036854775808 = 0 from by omega, qab n (by omega) (by omega), qab _ (by omega) (by omega), qab 0 (by omega) (by omega), qqU _ (by omega) (by omega)]
  congr 1
  omega
 ·rw [if_neg h, show n / 9223372036854775808 = -1 from by omega]
  have e1 : IntKind.wrap .u64 n = n + 18446744073709551616 := by simp [IntKind.wrap, IntKind.signed, IntKind.bits]; omega
  have e2 : IntKind.wrap .u64 ((n + 18446744073709551616) * 2) = 2 * n + 18446744073709551616 := by simp [IntKind.wrap, IntKind.signed, IntKind.bits]; omega
  have e3 : IntKind.wrap .u64 (-1) = 18446744073709551615 := by decide +kernel
  rw [e1, e2, e3, qqV _ (by omega) (by omega)]
  congr 1
  omega
theorem One.pure (t : Int) (d : List Int) (h : d.length ≤ 1099511627776) : qaY.f BIG t d = some (t, d) := by
 unfold qaY.f qaY.b
 rw [if_pos (by simp; omega), if_pos (by simp)]
 simp
theorem qrN.loop (qa : Nat) (b : LF) (b2 : ∀ x ∈ b, x.2.length ≤ 1000000) (hn : b.length < 1000000000) : ∀ (k i : Nat) (acc : LF), i ≤ b.length → b.length - i < k → acc.length ≤ i →
  zR.l3 qa b k (b.length : Int) (i : Int) acc = some (acc ++ b.drop i) := by
 intro k
 induction k with
 | zero => intro i acc h1 h2; omega
 | succ k ih =>
  intro i acc h1 h2 h3
  rw [zR.l3]
  unfold zR.b3
  simp only [veil_eq]
  by_cases hi : i < b.length
  ·rw [if_pos (by simp; omega), Qm, List.getElem?_eq_getElem hi]
   dsimp only
   have hx := b2 b[i] (List.getElem_mem hi)
   rw [One.pure _ _ (by omega)]
   dsimp only
   rw [if_pos (by simp [lim]; omega), qX _ (by omega) (by omega), show ((i : Int) + 1) = ((i + 1 : Nat) : Int) from by omega, ih (i + 1) _ (by omega) (by omega) (by simp; omega), List.drop_eq_getElem_cons hi]
   simp only [List.append_assoc, List.singleton_append]
  ·rw [if_neg (by simp; omega), List.drop_of_length_le (by omega)]
   simp
theorem qrN.pure (b : LF) (hb : ∀ x ∈ b, x.2.length ≤ 1000000) (hn : b.length < 1000000000) : zR.f BIG b = some b := by
 unfold zR.f zR.b
 have := qrN.loop BIG b hb hn BIG 0 [] (by omega) (by rw [Zw]; omega) (by simp)
 rw [show ((0 : Nat) : Int) = 0 from rfl] at this
 rw [this]
 simp
theorem qsT.pure (r : REC) (hb : ∀ x ∈ r.2.2.2.2.2, x.2.length ≤ 1000000) (hn : r.2.2.2.2.2.length < 1000000000) : Z6.f BIG r.1 r.2.1 r.2.2.1 r.2.2.2.1.1 r.2.2.2.1.2 r.2.2.2.2.1 r.2.2.2.2.2 = some (r.1, r.2.1, r.2.2.1, r.2.2.2.1.1, r.2.2.2.1.2, r.2.2.2.2.1, r.2.2.2.2.2) := by
 unfold Z6.f Z6.b
 rw [veil_eq, qrN.pure _ hb hn]
theorem qsy.loop (qa : Nat) (l : LR) (id : Int) (hn : l.length < 1000000000) : ∀ (k i : Nat), i ≤ l.length → l.length - i < k →
  qU.l2 qa l id k (l.length : Int) (i : Int) id = some (((i + (l.drop i).findIdx (fun r => r.1 == id) : Nat) : Int), id) := by
 intro k
 induction k with
 | zero => intro i h1 h2; omega
 | succ k ih =>
  intro i h1 h2
  rw [qU.l2]
  unfold qU.b2
  simp only [veil_eq]
  by_cases hi : i < l.length
  ·rw [if_pos (by simp; omega), Qm, List.getElem?_eq_getElem hi]
   dsimp only
   rw [show ZT.f BIG l[i].1 l[i].2.1 l[i].2.2.1 l[i].2.2.2.1.1 l[i].2.2.2.1.2 l[i].2.2.2.2.1 l[i].2.2.2.2.2 id = some ((l[i].1 == id), id) from rfl]
   dsimp only
   rw [List.drop_eq_getElem_cons hi, List.findIdx_cons]
   cases hc : (l[i].1 == id)
   ·rw [if_neg (by simp), qX _ (by omega) (by omega), show ((i : Int) + 1) = ((i + 1 : Nat) : Int) from by omega, ih (i + 1) (by omega) (by omega)]
    simp only [cond_false]
    congr 2
    omega
   ·rw [if_pos rfl]
    simp
  ·rw [if_neg (by simp; omega), List.drop_of_length_le (by omega)]
   simp
   omega
def zF (qb : LR) (id : Int) : REC × Bool :=
 match qb.find? (fun r => r.1 == id) with
 | some r => (r, true)
 | none => ((0, 0, 0, (0, 0), false, []), false)
theorem qrx (l : LR) (id : Int) : l.find? (fun r => r.1 == id) = l[l.findIdx (fun r => r.1 == id)]? := by
 induction l with
 | nil => rfl
 | cons x l ih =>
  rw [List.find?_cons, List.findIdx_cons]
  cases x.1 == id
  ·simp [ih]
  ·simp
def qnp (l : LR) : Prop := l.length < 1000000000 ∧ ∀ r ∈ l, r.2.2.2.2.2.length < 1000000000 ∧ ∀ x ∈ r.2.2.2.2.2, x.2.length ≤ 1000000
theorem qrM.pure (l : LR) (id : Int) (hl : qnp l) :
  qal.f BIG l id = some ((zF l id).1.1, (zF l id).1.2.1, (zF l id).1.2.2.1, (zF l id).1.2.2.2.1.1, (zF l id).1.2.2.2.1.2, (zF l id).1.2.2.2.2.1, (zF l id).1.2.2.2.2.2, (zF l id).2) := by
 obtain ⟨hn, l2⟩ := hl
 unfold qal.f qal.b
 simp only [veil_eq]
 have hw : qU.f BIG l id = some (((l.findIdx (fun r => r.1 == id) : Nat) : Int), id) := by
  unfold qU.f qU.b
  have := qsy.loop BIG l id hn BIG 0 (by omega) (by rw [Zw]; omega)
  rw [show ((0 : Nat) : Int) = 0 from rfl] at this
  rw [this]
  simp
 rw [hw]
 dsimp only
 unfold zF
 rw [qrx]
 by_cases hi : l.findIdx (fun r => r.1 == id) < l.length
 ·rw [if_neg (by simp; omega), Qm, List.getElem?_eq_getElem hi]
  dsimp only
  have hm := List.getElem_mem hi
  generalize l[l.findIdx (fun r => r.1 == id)] = r at hm ⊢
  rw [qsT.pure r (l2 r hm).2 (l2 r hm).1]
 ·have : l.findIdx (fun r => r.1 == id) = l.length := by have := List.findIdx_le_length (xs := l) (p := fun r => r.1 == id); omega
  rw [if_pos (by rw [this]; simp), List.getElem?_eq_none (by omega)]
def qiV : Go.Shelf.Ren where
 f := fun x => match x with
  | 156 => 42
  | 165 => 67
  | 166 => 47
  | 169 => 49
  | 240 => 71
  | 241 => 101
  | 276 => 106
  | 277 => 125
  | n => n
 t := fun x => match x with
  | 31 => 47
  | 9 => 9
  | 3 => 3
  | 4 => 4
  | 0 => 0
  | 20 => 20
  | 72 => 91
  | 76 => 94
  | 70 => 89
  | 37 => 30
  | 75 => 93
  | 127 => 118
  | 164 => 158
  | 5 => 5
  | 80 => 97
  | n => n
 g := fun x => x
theorem qjV : Go.Proofs.Lays.n156 Tryz.prog qiV where
 mixed := by kernel_rfl
 f156 := Tryz.func42
 f165 := Tryz.func67
 f166 := Tryz.func47
 f169 := Tryz.func49
 f240 := Tryz.func71
 f241 := Tryz.func101
 f276 := Tryz.func106
 f277 := Tryz.func125
 t0 := Tryz.underlying0
 a0 := Tryz.isAgg0
 z0 := Tryz.sizeOf0
 v0 := Tryz.zeroValue0
 t3 := Tryz.underlying3
 a3 := Tryz.isAgg3
 z3 := Tryz.sizeOf3
 v3 := Tryz.zeroValue3
 t4 := Tryz.underlying4
 a4 := Tryz.isAgg4
 z4 := Tryz.sizeOf4
 v4 := Tryz.zeroValue4
 t9 := Tryz.underlying9
 a9 := Tryz.isAgg9
 z9 := Tryz.sizeOf9
 v9 := Tryz.zeroValue9
 t20 := Tryz.underlying20
 a20 := Tryz.isAgg20
 z20 := Tryz.sizeOf20
 v20 := Tryz.zeroValue20
 t31 := Tryz.underlying47
 a31 := Tryz.isAgg47
 z31 := Tryz.sizeOf47
 v31 := Tryz.zeroValue47
 t37 := Tryz.underlying30
 a37 := Tryz.isAgg30
 z37 := Tryz.sizeOf30
 v37 := Tryz.zeroValue30
 t70 := Tryz.underlying89
 a70 := Tryz.isAgg89
 z70 := Tryz.sizeOf89
 v70 := Tryz.zeroValue89
 t72 := Tryz.underlying91
 a72 := Tryz.isAgg91
 z72 := Tryz.sizeOf91
 v72 := Tryz.zeroValue91
 t75 := Tryz.underlying93
 a75 := Tryz.isAgg93
 z75 := Tryz.sizeOf93
 v75 := Tryz.zeroValue93
 t76 := Tryz.underlying94
 a76 := Tryz.isAgg94
 z76 := Tryz.sizeOf94
 v76 := Tryz.zeroValue94
 t127 := Tryz.underlying118
 a127 := Tryz.isAgg118
 z127 := Tryz.sizeOf118
 v127 := Tryz.zeroValue118
 t164 := Tryz.underlying158
 a164 := Tryz.isAgg158
 z164 := Tryz.sizeOf158
 v164 := Tryz.zeroValue158
theorem qiF : Go.Proofs.Builder.Extra Tryz.prog qiV where
 sizeBuilder := by kernel_rfl
 liesBuilder := by kernel_rfl
 t5 := Tryz.underlying5
 a5 := Tryz.isAgg5
 z5 := Tryz.sizeOf5
 v5 := Tryz.zeroValue5
 infoByte := by kernel_rfl
 cellsByte := by kernel_rfl
 sizeByte := by kernel_rfl
 neB5 := by decide
def qfy : Den.Sum := Go.Den.s_join
theorem qjh : SumDet qfy := Go.Den.s_join_det
theorem qkw : SumOk Tryz.prog 42 qfy := Go.Den.s_join_ok qjV qiF Tryz.func42 rfl (by kernel_rfl)
def qgv : Env := ⟨th, gam [], fun i => if i = 6 then ⟨[0, 3, 4, 5], [], []⟩ else ⟨[], [], []⟩⟩
def zl.k (rs : List AV) (os : List Den.Obj) : Option ByteArray :=
 match rs, os with
 | [.d .str r0], [] => some r0
 | _, _ => none
def zl.s6 (v x0 x1 : Int) (x2 : (List Int)) : St := ⟨[.d tQi (v), .dead, .dead, .ptr 64 0, .d tQi x0, .d (.int .u64) x1, dD, dD, dD, dD, dD, dD, dD, dD, dD, dD, dD, dD, dD, dD, dD, dD, dD, dD, dD, dD, dD, dD, dD, dD, dD, dD, .dead], ofL [(64, .arr 20 (.int .u8) x2)], 0⟩
def zl.p6 (qa : Nat) (v : Int) (k : Nat) := fun x0 x1 x2 => lp qgv qa Tryz.f22 [.raw] 0 zl.k 6 [] k (zl.s6 v x0 x1 x2)
def zl.b6 (v : Int) (A6 : Int → Int → (List Int) → Option ByteArray) (x0 : Int) (x1 : Int) (x2 : (List Int)) : Option ByteArray :=
 (match (idx x2 (IntKind.wrap .i64 (x0 - (1 : Int)))) with | none => none | some y3 => (match (idx x2 (IntKind.wrap .i64 (x0 - (1 : Int)))) with | none => none | some y4 => (if ((IntKind.wrap .u64 (Int.tdiv x1 (10 : Int))) == (0 : Int)) then (if (decide (v < (0 : Int))) then (match (idx (List.set x2 (Int.toNat (IntKind.wrap .i64 (x0 - (1 : Int)))) (IntKind.wrap .u8 (IntKind.wrap .u64 ((48 : Int) + (Int.tmod x1 (10 : Int)))))) (IntKind.wrap .i64 ((IntKind.wrap .i64 (x0 - (1 : Int))) - (1 : Int)))) with | none => none | some y5 => (match (idx (List.set x2 (Int.toNat (IntKind.wrap .i64 (x0 - (1 : Int)))) (IntKind.wrap .u8 (IntKind.wrap .u64 ((48 : Int) + (Int.tmod x1 (10 : Int)))))) (IntKind.wrap .i64 ((IntKind.wrap .i64 (x0 - (1 : Int))) - (1 : Int)))) with | none => none | some y6 => (if (((0 : Int) ≤ (IntKind.wrap .i64 ((IntKind.wrap .i64 (x0 - (1 : Int))) - (1 : Int)))) ∧ ((IntKind.wrap .i64 ((IntKind.wrap .i64 (x0 - (1 : Int))) - (1 : Int))) ≤ ((((List.length (List.set (List.set x2 (Int.toNat (IntKind.wrap .i64 (x0 - (1 : Int)))) (IntKind.wrap .u8 (IntKind.wrap .u64 ((48 : Int) + (Int.tmod x1 (10 : Int)))))) (Int.toNat (IntKind.wrap .i64 ((IntKind.wrap .i64 (x0 - (1 : Int))) - (1 : Int)))) (45 : Int)))) : Nat) : Int))) then some ((strOf (List.drop (Int.toNat (IntKind.wrap .i64 ((IntKind.wrap .i64 (x0 - (1 : Int))) - (1 : Int)))) (List.take (List.length (List.set (List.set x2 (Int.toNat (IntKind.wrap .i64 (x0 - (1 : Int)))) (IntKind.wrap .u8 (IntKind.wrap .u64 ((48 : Int) + (Int.tmod x1 (10 : Int)))))) (Int.toNat (IntKind.wrap .i64 ((IntKind.wrap .i64 (x0 - (1 : Int))) - (1 : Int)))) (45 : Int))) (List.set (List.set x2 (Int.toNat (IntKind.wrap .i64 (x0 - (1 : Int)))) (IntKind.wrap .u8 (IntKind.wrap .u64 ((48 : Int) + (Int.tmod x1 (10 : Int)))))) (Int.toNat (IntKind.wrap .i64 ((IntKind.wrap .i64 (x0 - (1 : Int))) - (1 : Int)))) (45 : Int)))))) else none))) else (if (((0 : Int) ≤ (IntKind.wrap .i64 (x0 - (1 : Int)))) ∧ ((IntKind.wrap .i64 (x0 - (1 : Int))) ≤ ((((List.length (List.set x2 (Int.toNat (IntKind.wrap .i64 (x0 - (1 : Int)))) (IntKind.wrap .u8 (IntKind.wrap .u64 ((48 : Int) + (Int.tmod x1 (10 : Int)))))))) : Nat) : Int))) then some ((strOf (List.drop (Int.toNat (IntKind.wrap .i64 (x0 - (1 : Int)))) (List.take (List.length (List.set x2 (Int.toNat (IntKind.wrap .i64 (x0 - (1 : Int)))) (IntKind.wrap .u8 (IntKind.wrap .u64 ((48 : Int) + (Int.tmod x1 (10 : Int))))))) (List.set x2 (Int.toNat (IntKind.wrap .i64 (x0 - (1 : Int)))) (IntKind.wrap .u8 (IntKind.wrap .u64 ((48 : Int) + (Int.tmod x1 (10 : Int)))))))))) else none)) else A6 (IntKind.wrap .i64 (x0 - (1 : Int))) (IntKind.wrap .u64 (Int.tdiv x1 (10 : Int))) (List.set x2 (Int.toNat (IntKind.wrap .i64 (x0 - (1 : Int)))) (IntKind.wrap .u8 (IntKind.wrap .u64 ((48 : Int) + (Int.tmod x1 (10 : Int)))))))))
def zl.l6 (qa : Nat) (v : Int) : Nat → Int → Int → (List Int) → Option ByteArray
 | 0, _, _, _ => none
 | k + 1, x0, x1, x2 => zl.b6 v (zl.l6 qa v k) x0 x1 x2
def zl.b (v : Int) (E6 : Int → Int → (List Int) → Option ByteArray) : Option ByteArray :=
 (if (decide (v < (0 : Int))) then E6 (20 : Int) (IntKind.wrap .u64 ((0 : Int) - (IntKind.wrap .u64 v))) (List.replicate (20 : Nat) (zeroI (Go.Den.Ty.int .u8))) else E6 (20 : Int) (IntKind.wrap .u64 v) (List.replicate (20 : Nat) (zeroI (Go.Den.Ty.int .u8))))
def zl.f (qa : Nat) (v : Int) : Option ByteArray := zl.b v (zl.l6 qa v qa)
theorem zl.l6_eq (qa : Nat) (v : Int) : ∀ k : Nat, zl.p6 qa v k = zl.l6 qa v k
 | 0 => by kernel_rfl
 | k + 1 => by
  refine Eq.trans (b := zl.b6 v (zl.p6 qa v k)) (by kernel_rfl) ?_
  rw [zl.l6_eq qa v k]
  kernel_rfl
theorem zl.eq (qa : Nat) (v : Int) : (denF qgv loopN qa Tryz.f22 [.raw] [.d tQi v] [] zl.k) = zl.f qa v := by
 refine Eq.trans (b := zl.b v (zl.p6 qa v qa)) (by kernel_rfl) ?_
 rw [zl.l6_eq qa v qa]
 kernel_rfl
def Q2 : Den.Sum := ⟨[.raw], fun qK qm κ => match qK, qm with
 | [.d (.int .i64) v], [] => (match veil (zl.f BIG v) with | none => none | some y => κ [.d .str y] [])
 | _, _ => none⟩
theorem qbP : SumDet Q2 := zj fun _ _ _ _ => by
 unfold Q2
 simp only [veil_eq]
 split
 ·split <;> rfl
 ·rfl
theorem qcc : SumOk Tryz.prog 22 Q2 := by
 have hE : EnvOk Tryz.prog qgv := env_ok (l := []) th_ok qZ trivial _
 refine sum_ok hE Tryz.func22 rfl (by kernel_rfl) Q2 [.raw] zl.k ?_
 intro R avs qm κ r h
 unfold Q2 at h
 simp only [veil_eq] at h
 split at h
 ·rename_i v
  split at h
  ·cases h
  ·rename_i y hy
   refine ⟨BIG, _, _, _, (zl.eq BIG v).trans hy, ?_, h⟩
   intro rs ros hk
   unfold zl.k at hk
   split at hk
   ·rw [← sj hk]; exact ⟨rfl, rfl⟩
   ·cases hk
 ·cases h
def qkX : Env := ⟨th, gam [], fun i => ⟨[], [], []⟩⟩
def Qt.k (rs : List AV) (os : List Den.Obj) : Option ByteArray :=
 match rs, os with
 | [.d .str r0], [] => some r0
 | _, _ => none
def Qt.b (t : ByteArray) : Option ByteArray :=
 (if ((ByteArray.toList t) == (ByteArray.toList (⟨(([] : List UInt8)).toArray⟩ : ByteArray))) then some ((⟨((63 :: ([] : List UInt8))).toArray⟩ : ByteArray)) else some (t))
def Qt.f (qa : Nat) (t : ByteArray) : Option ByteArray := Qt.b t
theorem Qt.eq (qa : Nat) (t : ByteArray) : (denF qkX loopN qa Tryz.f38 [.raw] [.d .str t] [] Qt.k) = Qt.f qa t := by
 kernel_rfl
def qbe : Den.Sum := ⟨[.raw], fun qK qm κ => match qK, qm with
 | [.d .str t], [] => (match veil (Qt.f BIG t) with | none => none | some y => κ [.d .str y] [])
 | _, _ => none⟩
theorem qgQ : SumDet qbe := zj fun _ _ _ _ => by
 unfold qbe
 simp only [veil_eq]
 split
 ·split <;> rfl
 ·rfl
theorem qhS : SumOk Tryz.prog 38 qbe := by
 have hE : EnvOk Tryz.prog qkX := env_ok (l := []) th_ok qZ trivial _
 refine sum_ok hE Tryz.func38 rfl (by kernel_rfl) qbe [.raw] Qt.k ?_
 intro R avs qm κ r h
 unfold qbe at h
 simp only [veil_eq] at h
 split at h
 ·rename_i t
  split at h
  ·cases h
  ·rename_i y hy
   refine ⟨BIG, _, _, _, (Qt.eq BIG t).trans hy, ?_, h⟩
   intro rs ros hk
   unfold Qt.k at hk
   split at hk
   ·rw [← sj hk]; exact ⟨rfl, rfl⟩
   ·cases hk
 ·cases h
def qh0 : Env := ⟨th, gam [], fun i => ⟨[], [], []⟩⟩
def Za.k (rs : List AV) (os : List Den.Obj) : Option (List ByteArray) :=
 match rs, os with
 | [.d (.arr 18 .str) r0], [] => some r0
 | _, _ => none
def Za.b (u : Unit) : Option (List ByteArray) :=
 some (((⟨((111 :: (107 :: ([] : List UInt8)))).toArray⟩ : ByteArray) :: ((⟨((97 :: (114 :: (103 :: ([] : List UInt8))))).toArray⟩ : ByteArray) :: ((⟨((115 :: (104 :: (111 :: (114 :: (116 :: ([] : List UInt8))))))).toArray⟩ : ByteArray) :: ((⟨((108 :: (111 :: (110 :: (103 :: ([] : List UInt8)))))).toArray⟩ : ByteArray) :: ((⟨((102 :: (111 :: (114 :: (109 :: ([] : List UInt8)))))).toArray⟩ : ByteArray) :: ((⟨((114 :: (97 :: (110 :: (103 :: (101 :: ([] : List UInt8))))))).toArray⟩ : ByteArray) :: ((⟨((102 :: (117 :: (108 :: (108 :: ([] : List UInt8)))))).toArray⟩ : ByteArray) :: ((⟨((110 :: (111 :: (110 :: (101 :: ([] : List UInt8)))))).toArray⟩ : ByteArray) :: ((⟨((115 :: (117 :: (109 :: ([] : List UInt8))))).toArray⟩ : ByteArray) :: ((⟨((103 :: (101 :: (110 :: ([] : List UInt8))))).toArray⟩ : ByteArray) :: ((⟨((107 :: (105 :: (110 :: (100 :: ([] : List UInt8)))))).toArray⟩ : ByteArray) :: ((⟨((111 :: (114 :: (100 :: (101 :: (114 :: ([] : List UInt8))))))).toArray⟩ : ByteArray) :: ((⟨((98 :: (97 :: (115 :: (101 :: ([] : List UInt8)))))).toArray⟩ : ByteArray) :: ((⟨((112 :: (101 :: (101 :: (114 :: ([] : List UInt8)))))).toArray⟩ : ByteArray) :: ((⟨((114 :: (101 :: (112 :: ([] : List UInt8))))).toArray⟩ : ByteArray) :: ((⟨((115 :: (116 :: (97 :: (116 :: (101 :: ([] : List UInt8))))))).toArray⟩ : ByteArray) :: ((⟨((119 :: (111 :: (114 :: (100 :: ([] : List UInt8)))))).toArray⟩ : ByteArray) :: ((⟨((109 :: (111 :: (118 :: (101 :: ([] : List UInt8)))))).toArray⟩ : ByteArray) :: ([] : List ByteArray))))))))))))))))))))
def Za.f (qa : Nat) (u : Unit) : Option (List ByteArray) := Za.b u
theorem Za.eq (qa : Nat) (u : Unit) : (denF qh0 loopN qa Tryz.f69 [.raw] [] [] Za.k) = Za.f qa u := by
 kernel_rfl
def qa7 : Den.Sum := ⟨[], fun qK qm κ => match qK, qm with
 | [], [] => (match veil (Za.f BIG ()) with | none => none | some y => κ [.d (.arr 18 .str) y] [])
 | _, _ => none⟩
theorem qi4 : SumDet qa7 := zj fun _ _ _ _ => by
 unfold qa7
 simp only [veil_eq]
 split
 ·split <;> rfl
 ·rfl
theorem qjL : SumOk Tryz.prog 69 qa7 := by
 have hE : EnvOk Tryz.prog qh0 := env_ok (l := []) th_ok qZ trivial _
 refine sum_ok hE Tryz.func69 rfl (by kernel_rfl) qa7 [.raw] Za.k ?_
 intro R avs qm κ r h
 unfold qa7 at h
 simp only [veil_eq] at h
 split at h
 ·skip
  split at h
  ·cases h
  ·rename_i y hy
   refine ⟨BIG, _, _, _, (Za.eq BIG ()).trans hy, ?_, h⟩
   intro rs ros hk
   unfold Za.k at hk
   split at hk
   ·rw [← sj hk]; exact ⟨rfl, rfl⟩
   ·cases hk
 ·cases h
def qhA : Env := ⟨th, gam [(78, qcb), (79, qde), (80, qaS), (82, qce), (41, qah), (119, QZ), (120, Z2)], fun i => if i = 19 then ⟨[1, 5, 6, 78, 79, 80], [(1, 53, tQr)], [1]⟩ else ⟨[], [], []⟩⟩
def zJ.k (rs : List AV) (os : List Den.Obj) : Option (List Int) :=
 match rs, os with
 | [.d (.sl (.int .u8)) r0], [] => some r0
 | _, _ => none
def zJ.s19 (qj qs qH qe qf qG qg qr ql qq : Int) (qh qb x6 : LR) (x7 x8 x9 : Int) (x10 : (List Int)) : St := ⟨[.dead, .d (.sl tQr) x6, dD, dD, dD, .ptr 64 0, .d tQi x7, dD, dD, dD, dD, dD, dD, dD, dD, dD, dD, dD, dD, dD, dD, dD, dD, dD, dD, dD, dD, dD, dD, dD, dD, dD, dD, dD, dD, dD, dD, dD, dD, dD, dD, dD, dD, dD, dD, dD, dD, dD, dD, dD, dD, dD, dD, dD, dD, dD, dD, dD, dD, dD, dD, dD, dD, dD, dD, dD, dD, dD, dD, dD, dD, dD, dD, dD, dD, dD, dD, dD, .d (.sl tQr) (qh), .d tQi x8, .d tQi x9, dD, dD, dD, dD, dD, dD, dD, dD, dD, dD, dD, dD, dD, dD, dD, dD, dD, .dead], ofL [(64, .box [.ptr 65 0]), (65, .box [.row 66, .d .bool (false)]), (66, .row 5 (.int .u8) x10 false)], 0⟩
def zJ.p19 (qa : Nat) (qj qs qH qe qf qG qg qr ql qq : Int) (qh qb : LR) (k : Nat) := fun x6 x7 x8 x9 x10 => lp qhA qa Tryz.f97 [.own 5 (.int .u8)] 0 zJ.k 19 [] k (zJ.s19 qj qs qH qe qf qG qg qr ql qq qh qb x6 x7 x8 x9 x10)
def zJ.b19 (qj qs qH qe qf qG qg qr ql qq : Int) (qh qb : LR) (A19 : LR → Int → Int → Int → (List Int) → Option (List Int)) (x6 : LR) (x7 : Int) (x8 : Int) (x9 : Int) (x10 : (List Int)) : Option (List Int) :=
 (if (decide (x9 < x8)) then (match (idx qh x9) with | none => none | some y11 => (match (veil (qd.f BIG x10 y11.1 y11.2.1 y11.2.2.1 y11.2.2.2.1.1 y11.2.2.2.1.2 y11.2.2.2.2.1 y11.2.2.2.2.2 x7 x6)) with | none => none | some y12 => A19 x6 y11.1 x8 (IntKind.wrap .i64 (x9 + (1 : Int))) y12)) else (if (Zh x10) then some (x10) else none))
def zJ.l19 (qa : Nat) (qj qs qH qe qf qG qg qr ql qq : Int) (qh qb : LR) : Nat → LR → Int → Int → Int → (List Int) → Option (List Int)
 | 0, _, _, _, _, _ => none
 | k + 1, x6, x7, x8, x9, x10 => zJ.b19 qj qs qH qe qf qG qg qr ql qq qh qb (zJ.l19 qa qj qs qH qe qf qG qg qr ql qq qh qb k) x6 x7 x8 x9 x10
def zJ.b (qj qs qH qe qf qG qg qr ql qq : Int) (qh qb : LR) (E19 : LR → Int → Int → Int → (List Int) → Option (List Int)) : Option (List Int) :=
 (if (qq == (0 : Int)) then (if (Qc (1 : Int) qj) then (match (veil (qn.f BIG (be (Int.toNat (1 : Int)) qj) (qs :: (qH :: ([] : List Int))))) with | none => none | some y0 => (if ((Qc (1 : Int) (Qq qe qf)) ∧ (Zh y0)) then (if (qy qj (0 : Int)) then (match (veil (qn.f BIG (y0 ++ (be (Int.toNat (1 : Int)) (Qq qe qf))) (qG :: ([] : List Int)))) with | none => none | some y1 => (if (qy qj (1 : Int)) then (match (veil (qn.f BIG y1 (qg :: ([] : List Int)))) with | none => none | some y2 => (if (qy qj (2 : Int)) then (match (veil (qn.f BIG y2 (qr :: (ql :: ([] : List Int))))) with | none => none | some y3 => (if (qy qj (3 : Int)) then (match (veil (qn.f BIG y3 (qq :: ([] : List Int)))) with | none => none | some y4 => (if (qy qj (4 : Int)) then (match (veil (qn.f BIG y4 (((((List.length qh)) : Nat) : Int) :: ([] : List Int)))) with | none => none | some y5 => E19 ([] : LR) (-(1 : Int)) ((((List.length qh)) : Nat) : Int) (0 : Int) y5) else E19 ([] : LR) (-(1 : Int)) ((((List.length qh)) : Nat) : Int) (0 : Int) y4)) else (if (qy qj (4 : Int)) then (match (veil (qn.f BIG y3 (((((List.length qh)) : Nat) : Int) :: ([] : List Int)))) with | none => none | some y13 => E19 ([] : LR) (-(1 : Int)) ((((List.length qh)) : Nat) : Int) (0 : Int) y13) else E19 ([] : LR) (-(1 : Int)) ((((List.length qh)) : Nat) : Int) (0 : Int) y3))) else (if (qy qj (3 : Int)) then (match (veil (qn.f BIG y2 (qq :: ([] : List Int)))) with | none => none | some y14 => (if (qy qj (4 : Int)) then (match (veil (qn.f BIG y14 (((((List.length qh)) : Nat) : Int) :: ([] : List Int)))) with | none => none | some y15 => E19 ([] : LR) (-(1 : Int)) ((((List.length qh)) : Nat) : Int) (0 : Int) y15) else E19 ([] : LR) (-(1 : Int)) ((((List.length qh)) : Nat) : Int) (0 : Int) y14)) else (if (qy qj (4 : Int)) then (match (veil (qn.f BIG y2 (((((List.length qh)) : Nat) : Int) :: ([] : List Int)))) with | none => none | some y16 => E19 ([] : LR) (-(1 : Int)) ((((List.length qh)) : Nat) : Int) (0 : Int) y16) else E19 ([] : LR) (-(1 : Int)) ((((List.length qh)) : Nat) : Int) (0 : Int) y2)))) else (if (qy qj (2 : Int)) then (match (veil (qn.f BIG y1 (qr :: (ql :: ([] : List Int))))) with | none => none | some y17 => (if (qy qj (3 : Int)) then (match (veil (qn.f BIG y17 (qq :: ([] : List Int)))) with | none => none | some y18 => (if (qy qj (4 : Int)) then (match (veil (qn.f BIG y18 (((((List.length qh)) : Nat) : Int) :: ([] : List Int)))) with | none => none | some y19 => E19 ([] : LR) (-(1 : Int)) ((((List.length qh)) : Nat) : Int) (0 : Int) y19) else E19 ([] : LR) (-(1 : Int)) ((((List.length qh)) : Nat) : Int) (0 : Int) y18)) else (if (qy qj (4 : Int)) then (match (veil (qn.f BIG y17 (((((List.length qh)) : Nat) : Int) :: ([] : List Int)))) with | none => none | some y20 => E19 ([] : LR) (-(1 : Int)) ((((List.length qh)) : Nat) : Int) (0 : Int) y20) else E19 ([] : LR) (-(1 : Int)) ((((List.length qh)) : Nat) : Int) (0 : Int) y17))) else (if (qy qj (3 : Int)) then (match (veil (qn.f BIG y1 (qq :: ([] : List Int)))) with | none => none | some y21 => (if (qy qj (4 : Int)) then (match (veil (qn.f BIG y21 (((((List.length qh)) : Nat) : Int) :: ([] : List Int)))) with | none => none | some y22 => E19 ([] : LR) (-(1 : Int)) ((((List.length qh)) : Nat) : Int) (0 : Int) y22) else E19 ([] : LR) (-(1 : Int)) ((((List.length qh)) : Nat) : Int) (0 : Int) y21)) else (if (qy qj (4 : Int)) then (match (veil (qn.f BIG y1 (((((List.length qh)) : Nat) : Int) :: ([] : List Int)))) with | none => none | some y23 => E19 ([] : LR) (-(1 : Int)) ((((List.length qh)) : Nat) : Int) (0 : Int) y23) else E19 ([] : LR) (-(1 : Int)) ((((List.length qh)) : Nat) : Int) (0 : Int) y1))))) else (if (qy qj (1 : Int)) then (match (veil (qn.f BIG (y0 ++ (be (Int.toNat (1 : Int)) (Qq qe qf))) (qg :: ([] : List Int)))) with | none => none | some y24 => (if (qy qj (2 : Int)) then (match (veil (qn.f BIG y24 (qr :: (ql :: ([] : List Int))))) with | none => none | some y25 => (if (qy qj (3 : Int)) then (match (veil (qn.f BIG y25 (qq :: ([] : List Int)))) with | none => none | some y26 => (if (qy qj (4 : Int)) then (match (veil (qn.f BIG y26 (((((List.length qh)) : Nat) : Int) :: ([] : List Int)))) with | none => none | some y27 => E19 ([] : LR) (-(1 : Int)) ((((List.length qh)) : Nat) : Int) (0 : Int) y27) else E19 ([] : LR) (-(1 : Int)) ((((List.length qh)) : Nat) : Int) (0 : Int) y26)) else (if (qy qj (4 : Int)) then (match (veil (qn.f BIG y25 (((((List.length qh)) : Nat) : Int) :: ([] : List Int)))) with | none => none | some y28 => E19 ([] : LR) (-(1 : Int)) ((((List.length qh)) : Nat) : Int) (0 : Int) y28) else E19 ([] : LR) (-(1 : Int)) ((((List.length qh)) : Nat) : Int) (0 : Int) y25))) else (if (qy qj (3 : Int)) then (match (veil (qn.f BIG y24 (qq :: ([] : List Int)))) with | none => none | some y29 => (if (qy qj (4 : Int)) then (match (veil (qn.f BIG y29 (((((List.length qh)) : Nat) : Int) :: ([] : List Int)))) with | none => none | some y30 => E19 ([] : LR) (-(1 : Int)) ((((List.length qh)) : Nat) : Int) (0 : Int) y30) else E19 ([] : LR) (-(1 : Int)) ((((List.length qh)) : Nat) : Int) (0 : Int) y29)) else (if (qy qj (4 : Int)) then (match (veil (qn.f BIG y24 (((((List.length qh)) : Nat) : Int) :: ([] : List Int)))) with | none => none | some y31 => E19 ([] : LR) (-(1 : Int)) ((((List.length qh)) : Nat) : Int) (0 : Int) y31) else E19 ([] : LR) (-(1 : Int)) ((((List.length qh)) : Nat) : Int) (0 : Int) y24)))) else (if (qy qj (2 : Int)) then (match (veil (qn.f BIG (y0 ++ (be (Int.toNat (1 : Int)) (Qq qe qf))) (qr :: (ql :: ([] : List Int))))) with | none => none | some y32 => (if (qy qj (3 : Int)) then (match (veil (qn.f BIG y32 (qq :: ([] : List Int)))) with | none => none | some y33 => (if (qy qj (4 : Int)) then (match (veil (qn.f BIG y33 (((((List.length qh)) : Nat) : Int) :: ([] : List Int)))) with | none => none | some y34 => E19 ([] : LR) (-(1 : Int)) ((((List.length qh)) : Nat) : Int) (0 : Int) y34) else E19 ([] : LR) (-(1 : Int)) ((((List.length qh)) : Nat) : Int) (0 : Int) y33)) else (if (qy qj (4 : Int)) then (match (veil (qn.f BIG y32 (((((List.length qh)) : Nat) : Int) :: ([] : List Int)))) with | none => none | some y35 => E19 ([] : LR) (-(1 : Int)) ((((List.length qh)) : Nat) : Int) (0 : Int) y35) else E19 ([] : LR) (-(1 : Int)) ((((List.length qh)) : Nat) : Int) (0 : Int) y32))) else (if (qy qj (3 : Int)) then (match (veil (qn.f BIG (y0 ++ (be (Int.toNat (1 : Int)) (Qq qe qf))) (qq :: ([] : List Int)))) with | none => none | some y36 => (if (qy qj (4 : Int)) then (match (veil (qn.f BIG y36 (((((List.length qh)) : Nat) : Int) :: ([] : List Int)))) with | none => none | some y37 => E19 ([] : LR) (-(1 : Int)) ((((List.length qh)) : Nat) : Int) (0 : Int) y37) else E19 ([] : LR) (-(1 : Int)) ((((List.length qh)) : Nat) : Int) (0 : Int) y36)) else (if (qy qj (4 : Int)) then (match (veil (qn.f BIG (y0 ++ (be (Int.toNat (1 : Int)) (Qq qe qf))) (((((List.length qh)) : Nat) : Int) :: ([] : List Int)))) with | none => none | some y38 => E19 ([] : LR) (-(1 : Int)) ((((List.length qh)) : Nat) : Int) (0 : Int) y38) else E19 ([] : LR) (-(1 : Int)) ((((List.length qh)) : Nat) : Int) (0 : Int) (y0 ++ (be (Int.toNat (1 : Int)) (Qq qe qf)))))))) else none)) else none) else (if (Qc (1 : Int) qj) then (match (veil (qn.f BIG (be (Int.toNat (1 : Int)) qj) (qs :: (qH :: ([] : List Int))))) with | none => none | some y39 => (if ((Qc (1 : Int) (Qq qe qf)) ∧ (Zh y39)) then (if (qy qj (0 : Int)) then (match (veil (qn.f BIG (y39 ++ (be (Int.toNat (1 : Int)) (Qq qe qf))) (qG :: ([] : List Int)))) with | none => none | some y40 => (if (qy qj (1 : Int)) then (match (veil (qn.f BIG y40 (qg :: ([] : List Int)))) with | none => none | some y41 => (if (qy qj (2 : Int)) then (match (veil (qn.f BIG y41 (qr :: (ql :: ([] : List Int))))) with | none => none | some y42 => (if (qy qj (3 : Int)) then (match (veil (qn.f BIG y42 (qq :: ([] : List Int)))) with | none => none | some y43 => (if (qy qj (4 : Int)) then (match (veil (qn.f BIG y43 (((((List.length qh)) : Nat) : Int) :: ([] : List Int)))) with | none => none | some y44 => E19 qb (-(1 : Int)) ((((List.length qh)) : Nat) : Int) (0 : Int) y44) else E19 qb (-(1 : Int)) ((((List.length qh)) : Nat) : Int) (0 : Int) y43)) else (if (qy qj (4 : Int)) then (match (veil (qn.f BIG y42 (((((List.length qh)) : Nat) : Int) :: ([] : List Int)))) with | none => none | some y45 => E19 qb (-(1 : Int)) ((((List.length qh)) : Nat) : Int) (0 : Int) y45) else E19 qb (-(1 : Int)) ((((List.length qh)) : Nat) : Int) (0 : Int) y42))) else (if (qy qj (3 : Int)) then (match (veil (qn.f BIG y41 (qq :: ([] : List Int)))) with | none => none | some y46 => (if (qy qj (4 : Int)) then (match (veil (qn.f BIG y46 (((((List.length qh)) : Nat) : Int) :: ([] : List Int)))) with | none => none | some y47 => E19 qb (-(1 : Int)) ((((List.length qh)) : Nat) : Int) (0 : Int) y47) else E19 qb (-(1 : Int)) ((((List.length qh)) : Nat) : Int) (0 : Int) y46)) else (if (qy qj (4 : Int)) then (match (veil (qn.f BIG y41 (((((List.length qh)) : Nat) : Int) :: ([] : List Int)))) with | none => none | some y48 => E19 qb (-(1 : Int)) ((((List.length qh)) : Nat) : Int) (0 : Int) y48) else E19 qb (-(1 : Int)) ((((List.length qh)) : Nat) : Int) (0 : Int) y41)))) else (if (qy qj (2 : Int)) then (match (veil (qn.f BIG y40 (qr :: (ql :: ([] : List Int))))) with | none => none | some y49 => (if (qy qj (3 : Int)) then (match (veil (qn.f BIG y49 (qq :: ([] : List Int)))) with | none => none | some y50 => (if (qy qj (4 : Int)) then (match (veil (qn.f BIG y50 (((((List.length qh)) : Nat) : Int) :: ([] : List Int)))) with | none => none | some y51 => E19 qb (-(1 : Int)) ((((List.length qh)) : Nat) : Int) (0 : Int) y51) else E19 qb (-(1 : Int)) ((((List.length qh)) : Nat) : Int) (0 : Int) y50)) else (if (qy qj (4 : Int)) then (match (veil (qn.f BIG y49 (((((List.length qh)) : Nat) : Int) :: ([] : List Int)))) with | none => none | some y52 => E19 qb (-(1 : Int)) ((((List.length qh)) : Nat) : Int) (0 : Int) y52) else E19 qb (-(1 : Int)) ((((List.length qh)) : Nat) : Int) (0 : Int) y49))) else (if (qy qj (3 : Int)) then (match (veil (qn.f BIG y40 (qq :: ([] : List Int)))) with | none => none | some y53 => (if (qy qj (4 : Int)) then (match (veil (qn.f BIG y53 (((((List.length qh)) : Nat) : Int) :: ([] : List Int)))) with | none => none | some y54 => E19 qb (-(1 : Int)) ((((List.length qh)) : Nat) : Int) (0 : Int) y54) else E19 qb (-(1 : Int)) ((((List.length qh)) : Nat) : Int) (0 : Int) y53)) else (if (qy qj (4 : Int)) then (match (veil (qn.f BIG y40 (((((List.length qh)) : Nat) : Int) :: ([] : List Int)))) with | none => none | some y55 => E19 qb (-(1 : Int)) ((((List.length qh)) : Nat) : Int) (0 : Int) y55) else E19 qb (-(1 : Int)) ((((List.length qh)) : Nat) : Int) (0 : Int) y40))))) else (if (qy qj (1 : Int)) then (match (veil (qn.f BIG (y39 ++ (be (Int.toNat (1 : Int)) (Qq qe qf))) (qg :: ([] : List Int)))) with | none => none | some y56 => (if (qy qj (2 : Int)) then (match (veil (qn.f BIG y56 (qr :: (ql :: ([] : List Int))))) with | none => none | some y57 => (if (qy qj (3 : Int)) then (match (veil (qn.f BIG y57 (qq :: ([] : List Int)))) with | none => none | some y58 => (if (qy qj (4 : Int)) then (match (veil (qn.f BIG y58 (((((List.length qh)) : Nat) : Int) :: ([] : List Int)))) with | none => none | some y59 => E19 qb (-(1 : Int)) ((((List.length qh)) : Nat) : Int) (0 : Int) y59) else E19 qb (-(1 : Int)) ((((List.length qh)) : Nat) : Int) (0 : Int) y58)) else (if (qy qj (4 : Int)) then (match (veil (qn.f BIG y57 (((((List.length qh)) : Nat) : Int) :: ([] : List Int)))) with | none => none | some y60 => E19 qb (-(1 : Int)) ((((List.length qh)) : Nat) : Int) (0 : Int) y60) else E19 qb (-(1 : Int)) ((((List.length qh)) : Nat) : Int) (0 : Int) y57))) else (if (qy qj (3 : Int)) then (match (veil (qn.f BIG y56 (qq :: ([] : List Int)))) with | none => none | some y61 => (if (qy qj (4 : Int)) then (match (veil (qn.f BIG y61 (((((List.length qh)) : Nat) : Int) :: ([] : List Int)))) with | none => none | some y62 => E19 qb (-(1 : Int)) ((((List.length qh)) : Nat) : Int) (0 : Int) y62) else E19 qb (-(1 : Int)) ((((List.length qh)) : Nat) : Int) (0 : Int) y61)) else (if (qy qj (4 : Int)) then (match (veil (qn.f BIG y56 (((((List.length qh)) : Nat) : Int) :: ([] : List Int)))) with | none => none | some y63 => E19 qb (-(1 : Int)) ((((List.length qh)) : Nat) : Int) (0 : Int) y63) else E19 qb (-(1 : Int)) ((((List.length qh)) : Nat) : Int) (0 : Int) y56)))) else (if (qy qj (2 : Int)) then (match (veil (qn.f BIG (y39 ++ (be (Int.toNat (1 : Int)) (Qq qe qf))) (qr :: (ql :: ([] : List Int))))) with | none => none | some y64 => (if (qy qj (3 : Int)) then (match (veil (qn.f BIG y64 (qq :: ([] : List Int)))) with | none => none | some y65 => (if (qy qj (4 : Int)) then (match (veil (qn.f BIG y65 (((((List.length qh)) : Nat) : Int) :: ([] : List Int)))) with | none => none | some y66 => E19 qb (-(1 : Int)) ((((List.length qh)) : Nat) : Int) (0 : Int) y66) else E19 qb (-(1 : Int)) ((((List.length qh)) : Nat) : Int) (0 : Int) y65)) else (if (qy qj (4 : Int)) then (match (veil (qn.f BIG y64 (((((List.length qh)) : Nat) : Int) :: ([] : List Int)))) with | none => none | some y67 => E19 qb (-(1 : Int)) ((((List.length qh)) : Nat) : Int) (0 : Int) y67) else E19 qb (-(1 : Int)) ((((List.length qh)) : Nat) : Int) (0 : Int) y64))) else (if (qy qj (3 : Int)) then (match (veil (qn.f BIG (y39 ++ (be (Int.toNat (1 : Int)) (Qq qe qf))) (qq :: ([] : List Int)))) with | none => none | some y68 => (if (qy qj (4 : Int)) then (match (veil (qn.f BIG y68 (((((List.length qh)) : Nat) : Int) :: ([] : List Int)))) with | none => none | some y69 => E19 qb (-(1 : Int)) ((((List.length qh)) : Nat) : Int) (0 : Int) y69) else E19 qb (-(1 : Int)) ((((List.length qh)) : Nat) : Int) (0 : Int) y68)) else (if (qy qj (4 : Int)) then (match (veil (qn.f BIG (y39 ++ (be (Int.toNat (1 : Int)) (Qq qe qf))) (((((List.length qh)) : Nat) : Int) :: ([] : List Int)))) with | none => none | some y70 => E19 qb (-(1 : Int)) ((((List.length qh)) : Nat) : Int) (0 : Int) y70) else E19 qb (-(1 : Int)) ((((List.length qh)) : Nat) : Int) (0 : Int) (y39 ++ (be (Int.toNat (1 : Int)) (Qq qe qf)))))))) else none)) else none))
def zJ.f (qa : Nat) (qj qs qH qe qf qG qg qr ql qq : Int) (qh qb : LR) : Option (List Int) := zJ.b qj qs qH qe qf qG qg qr ql qq qh qb (zJ.l19 qa qj qs qH qe qf qG qg qr ql qq qh qb qa)
theorem zJ.l19_eq (qa : Nat) (qj qs qH qe qf qG qg qr ql qq : Int) (qh qb : LR) : ∀ k : Nat, zJ.p19 qa qj qs qH qe qf qG qg qr ql qq qh qb k = zJ.l19 qa qj qs qH qe qf qG qg qr ql qq qh qb k
 | 0 => by kernel_rfl
 | k + 1 => by
  refine Eq.trans (b := zJ.b19 qj qs qH qe qf qG qg qr ql qq qh qb (zJ.p19 qa qj qs qH qe qf qG qg qr ql qq qh qb k)) (by kernel_rfl) ?_
  rw [zJ.l19_eq qa qj qs qH qe qf qG qg qr ql qq qh qb k]
  kernel_rfl
theorem zJ.eq (qa : Nat) (qj qs qH qe qf qG qg qr ql qq : Int) (qh qb : LR) : (denF qhA loopN qa Tryz.f97 [.own 5 (.int .u8)] [.agg [.d tQi qj, .d tQi qs, .d tQi qH, .d tQi qe, .d tQi qf, .d tQi qG, .d tQi qg, .d tQi qr, .d tQi ql, .d tQi qq, .d (.sl tQr) qh], .d (.sl tQr) qb] [] zJ.k) = zJ.f qa qj qs qH qe qf qG qg qr ql qq qh qb := by
 refine Eq.trans (b := zJ.b qj qs qH qe qf qG qg qr ql qq qh qb (zJ.p19 qa qj qs qH qe qf qG qg qr ql qq qh qb qa)) (by kernel_rfl) ?_
 rw [zJ.l19_eq qa qj qs qH qe qf qG qg qr ql qq qh qb qa]
 kernel_rfl
def qbf : Den.Sum := ⟨[.dat (.pair tQi (.pair tQi (.pair tQi (.pair (.pair tQi tQi) (.pair tQi (.pair tQi (.pair tQi (.pair tQi (.pair tQi (.sl tQr)))))))))) true, .dat (.sl tQr) false], fun qK qm κ => match qK, qm with
 | [.agg [.d (.int .i64) qj, .d (.int .i64) qs, .d (.int .i64) qH, .d (.int .i64) qe, .d (.int .i64) qf, .d (.int .i64) qG, .d (.int .i64) qg, .d (.int .i64) qr, .d (.int .i64) ql, .d (.int .i64) qq, .d (.sl (.pair (.int .i64) (.pair (.int .i64) (.pair (.int .i64) (.pair (.pair (.int .i64) (.int .i64)) (.pair .bool (.sl (.pair (.int .i64) (.sl (.int .u8)))))))))) qh], .d (.sl (.pair (.int .i64) (.pair (.int .i64) (.pair (.int .i64) (.pair (.pair (.int .i64) (.int .i64)) (.pair .bool (.sl (.pair (.int .i64) (.sl (.int .u8)))))))))) qb], [] => (match veil (zJ.f BIG qj qs qH qe qf qG qg qr ql qq qh qb) with | none => none | some y => κ [.d (.sl (.int .u8)) y] [])
 | _, _ => none⟩
theorem qgX : SumDet qbf := zj fun _ _ _ _ => by
 unfold qbf
 simp only [veil_eq]
 split
 ·split <;> rfl
 ·rfl
theorem qhT : SumOk Tryz.prog 97 qbf := by
 have hE : EnvOk Tryz.prog qhA := env_ok (l := [(78, qcb), (79, qde), (80, qaS), (82, qce), (41, qah), (119, QZ), (120, Z2)]) th_ok qZ ⟨⟨qhb, qgl⟩, ⟨qhf, qf7⟩, ⟨qdX, qdh⟩, ⟨qhk, qgq⟩, ⟨qb0, qbk⟩, ⟨qdW, qdy⟩, ⟨qhg, qgU⟩, trivial⟩ _
 refine sum_ok hE Tryz.func97 rfl (by kernel_rfl) qbf [.own 5 (.int .u8)] zJ.k ?_
 intro R avs qm κ r h
 unfold qbf at h
 simp only [veil_eq] at h
 split at h
 ·rename_i qj qs qH qe qf qG qg qr ql qq qh qb
  split at h
  ·cases h
  ·rename_i y hy
   refine ⟨BIG, _, _, _, (zJ.eq BIG qj qs qH qe qf qG qg qr ql qq qh qb).trans hy, ?_, h⟩
   intro rs ros hk
   unfold zJ.k at hk
   split at hk
   ·rw [← sj hk]; exact ⟨rfl, rfl⟩
   ·cases hk
 ·cases h
def qh1 : Env := ⟨th, gam [(76, QJ), (96, qaE), (97, qbf)], fun i => ⟨[], [], []⟩⟩
def Zb.k (rs : List AV) (os : List Den.Obj) : Option ((List Int) × Int) :=
 match rs, os with
 | [.d (.sl (.int .u8)) r0, .d (.int .i64) r1], [] => some (r0, r1)
 | _, _ => none
def Zb.b (qj qs qH qe qf qG qg qr ql qq : Int) (qh qb : LR) : Option ((List Int) × Int) :=
 (if (q0 qh) then (if (!(zb qj qs qH qe qf qG qg qr ql qq qh)) then some (([] : List Int), (1 : Int)) else (if (q0 qb) then (if (!(Qo qb)) then some (([] : List Int), (1 : Int)) else (match (veil (zJ.f BIG qj qs qH qe qf qG qg qr ql qq qh qb)) with | none => none | some y0 => (if (decide (((((List.length y0)) : Nat) : Int) > (65499 : Int))) then some (([] : List Int), (14 : Int)) else some (y0, (0 : Int))))) else none)) else none)
def Zb.f (qa : Nat) (qj qs qH qe qf qG qg qr ql qq : Int) (qh qb : LR) : Option ((List Int) × Int) := Zb.b qj qs qH qe qf qG qg qr ql qq qh qb
theorem Zb.eq (qa : Nat) (qj qs qH qe qf qG qg qr ql qq : Int) (qh qb : LR) : (denF qh1 loopN qa Tryz.f64 [.dat (.sl (.int .u8)) false, .raw] [.agg [.d tQi qj, .d tQi qs, .d tQi qH, .d tQi qe, .d tQi qf, .d tQi qG, .d tQi qg, .d tQi qr, .d tQi ql, .d tQi qq, .d (.sl tQr) qh], .d (.sl tQr) qb] [] Zb.k) = Zb.f qa qj qs qH qe qf qG qg qr ql qq qh qb := by
 kernel_rfl
def Zt : Den.Sum := ⟨[.dat (.pair tQi (.pair tQi (.pair tQi (.pair (.pair tQi tQi) (.pair tQi (.pair tQi (.pair tQi (.pair tQi (.pair tQi (.sl tQr)))))))))) true, .dat (.sl tQr) false], fun qK qm κ => match qK, qm with
 | [.agg [.d (.int .i64) qj, .d (.int .i64) qs, .d (.int .i64) qH, .d (.int .i64) qe, .d (.int .i64) qf, .d (.int .i64) qG, .d (.int .i64) qg, .d (.int .i64) qr, .d (.int .i64) ql, .d (.int .i64) qq, .d (.sl (.pair (.int .i64) (.pair (.int .i64) (.pair (.int .i64) (.pair (.pair (.int .i64) (.int .i64)) (.pair .bool (.sl (.pair (.int .i64) (.sl (.int .u8)))))))))) qh], .d (.sl (.pair (.int .i64) (.pair (.int .i64) (.pair (.int .i64) (.pair (.pair (.int .i64) (.int .i64)) (.pair .bool (.sl (.pair (.int .i64) (.sl (.int .u8)))))))))) qb], [] => (match veil (Zb.f BIG qj qs qH qe qf qG qg qr ql qq qh qb) with | none => none | some y => κ [.d (.sl (.int .u8)) y.1, .d (.int .i64) y.2] [])
 | _, _ => none⟩
theorem qdq : SumDet Zt := zj fun _ _ _ _ => by
 unfold Zt
 simp only [veil_eq]
 split
 ·split <;> rfl
 ·rfl
theorem qdO : SumOk Tryz.prog 64 Zt := by
 have hE : EnvOk Tryz.prog qh1 := env_ok (l := [(76, QJ), (96, qaE), (97, qbf)]) th_ok qZ ⟨⟨qas, qad⟩, ⟨qeX, qee⟩, ⟨qhT, qgX⟩, trivial⟩ _
 refine sum_ok hE Tryz.func64 rfl (by kernel_rfl) Zt [.dat (.sl (.int .u8)) false, .raw] Zb.k ?_
 intro R avs qm κ r h
 unfold Zt at h
 simp only [veil_eq] at h
 split at h
 ·rename_i qj qs qH qe qf qG qg qr ql qq qh qb
  split at h
  ·cases h
  ·rename_i y hy
   refine ⟨BIG, _, _, _, (Zb.eq BIG qj qs qH qe qf qG qg qr ql qq qh qb).trans hy, ?_, h⟩
   intro rs ros hk
   unfold Zb.k at hk
   split at hk
   ·rw [← sj hk]; exact ⟨rfl, rfl⟩
   ·cases hk
 ·cases h
def qjt : Env := ⟨th, gam [(76, QJ), (96, qaE), (97, qbf)], fun i => ⟨[], [], []⟩⟩
def Z8.k (rs : List AV) (os : List Den.Obj) : Option Int :=
 match rs, os with
 | [.d (.int .i64) r0], [] => some r0
 | _, _ => none
def Z8.b (qj qs qH qe qf qG qg qr ql qq : Int) (qh qb : LR) : Option Int :=
 (if (q0 qh) then (if (!(zb qj qs qH qe qf qG qg qr ql qq qh)) then some ((0 : Int)) else (if (q0 qb) then (if (!(Qo qb)) then some ((0 : Int)) else (match (veil (zJ.f BIG qj qs qH qe qf qG qg qr ql qq qh qb)) with | none => none | some y0 => some (((((List.length y0)) : Nat) : Int)))) else none)) else none)
def Z8.f (qa : Nat) (qj qs qH qe qf qG qg qr ql qq : Int) (qh qb : LR) : Option Int := Z8.b qj qs qH qe qf qG qg qr ql qq qh qb
theorem Z8.eq (qa : Nat) (qj qs qH qe qf qG qg qr ql qq : Int) (qh qb : LR) : (denF qjt loopN qa Tryz.f126 [.raw] [.agg [.d tQi qj, .d tQi qs, .d tQi qH, .d tQi qe, .d tQi qf, .d tQi qG, .d tQi qg, .d tQi qr, .d tQi ql, .d tQi qq, .d (.sl tQr) qh], .d (.sl tQr) qb] [] Z8.k) = Z8.f qa qj qs qH qe qf qG qg qr ql qq qh qb := by
 kernel_rfl
def qb2 : Den.Sum := ⟨[.dat (.pair tQi (.pair tQi (.pair tQi (.pair (.pair tQi tQi) (.pair tQi (.pair tQi (.pair tQi (.pair tQi (.pair tQi (.sl tQr)))))))))) true, .dat (.sl tQr) false], fun qK qm κ => match qK, qm with
 | [.agg [.d (.int .i64) qj, .d (.int .i64) qs, .d (.int .i64) qH, .d (.int .i64) qe, .d (.int .i64) qf, .d (.int .i64) qG, .d (.int .i64) qg, .d (.int .i64) qr, .d (.int .i64) ql, .d (.int .i64) qq, .d (.sl (.pair (.int .i64) (.pair (.int .i64) (.pair (.int .i64) (.pair (.pair (.int .i64) (.int .i64)) (.pair .bool (.sl (.pair (.int .i64) (.sl (.int .u8)))))))))) qh], .d (.sl (.pair (.int .i64) (.pair (.int .i64) (.pair (.int .i64) (.pair (.pair (.int .i64) (.int .i64)) (.pair .bool (.sl (.pair (.int .i64) (.sl (.int .u8)))))))))) qb], [] => (match veil (Z8.f BIG qj qs qH qe qf qG qg qr ql qq qh qb) with | none => none | some y => κ [.d (.int .i64) y] [])
 | _, _ => none⟩
theorem qky : SumDet qb2 := zj fun _ _ _ _ => by
 unfold qb2
 simp only [veil_eq]
 split
 ·split <;> rfl
 ·rfl
theorem qly : SumOk Tryz.prog 126 qb2 := by
 have hE : EnvOk Tryz.prog qjt := env_ok (l := [(76, QJ), (96, qaE), (97, qbf)]) th_ok qZ ⟨⟨qas, qad⟩, ⟨qeX, qee⟩, ⟨qhT, qgX⟩, trivial⟩ _
 refine sum_ok hE Tryz.func126 rfl (by kernel_rfl) qb2 [.raw] Z8.k ?_
 intro R avs qm κ r h
 unfold qb2 at h
 simp only [veil_eq] at h
 split at h
 ·rename_i qj qs qH qe qf qG qg qr ql qq qh qb
  split at h
  ·cases h
  ·rename_i y hy
   refine ⟨BIG, _, _, _, (Z8.eq BIG qj qs qH qe qf qG qg qr ql qq qh qb).trans hy, ?_, h⟩
   intro rs ros hk
   unfold Z8.k at hk
   split at hk
   ·rw [← sj hk]; exact ⟨rfl, rfl⟩
   ·cases hk
 ·cases h
def qjv : Env := ⟨th, gam [(114, qdb), (102, qau), (126, qb2)], fun i => ⟨[], [], []⟩⟩
def QI.k (rs : List AV) (os : List Den.Obj) : Option Int :=
 match rs, os with
 | [.d (.int .i64) r0], [] => some r0
 | _, _ => none
def QI.b (qj qs qH qe qf qG qg qr ql qq : Int) (qh : LR) (gen : Int) : Option Int :=
 (match (veil (Zm.f BIG qj qs qH qe qf qG qg qr ql qq qh gen)) with | none => none | some y0 => (if (!y0) then some ((0 : Int)) else (if (gen == (1 : Int)) then some ((IntKind.wrap .i64 ((15 : Int) + (IntKind.wrap .i64 ((5 : Int) * ((((List.length qh)) : Nat) : Int)))))) else (if (gen == (2 : Int)) then (if (q0 qh) then some ((qd9 qj qs qH qe qf qG qg qr ql qq qh)) else none) else (match (veil (Z8.f BIG qj qs qH qe qf qG qg qr ql qq qh ([] : LR))) with | none => none | some y1 => some (y1))))))
def QI.f (qa : Nat) (qj qs qH qe qf qG qg qr ql qq : Int) (qh : LR) (gen : Int) : Option Int := QI.b qj qs qH qe qf qG qg qr ql qq qh gen
theorem QI.eq (qa : Nat) (qj qs qH qe qf qG qg qr ql qq : Int) (qh : LR) (gen : Int) : (denF qjv loopN qa Tryz.f105 [.raw] [.agg [.d tQi qj, .d tQi qs, .d tQi qH, .d tQi qe, .d tQi qf, .d tQi qG, .d tQi qg, .d tQi qr, .d tQi ql, .d tQi qq, .d (.sl tQr) qh], .d tQi gen] [] QI.k) = QI.f qa qj qs qH qe qf qG qg qr ql qq qh gen := by
 kernel_rfl
def qb4 : Den.Sum := ⟨[.dat (.pair tQi (.pair tQi (.pair tQi (.pair (.pair tQi tQi) (.pair tQi (.pair tQi (.pair tQi (.pair tQi (.pair tQi (.sl tQr)))))))))) true, .raw], fun qK qm κ => match qK, qm with
 | [.agg [.d (.int .i64) qj, .d (.int .i64) qs, .d (.int .i64) qH, .d (.int .i64) qe, .d (.int .i64) qf, .d (.int .i64) qG, .d (.int .i64) qg, .d (.int .i64) qr, .d (.int .i64) ql, .d (.int .i64) qq, .d (.sl (.pair (.int .i64) (.pair (.int .i64) (.pair (.int .i64) (.pair (.pair (.int .i64) (.int .i64)) (.pair .bool (.sl (.pair (.int .i64) (.sl (.int .u8)))))))))) qh], .d (.int .i64) gen], [] => (match veil (QI.f BIG qj qs qH qe qf qG qg qr ql qq qh gen) with | none => none | some y => κ [.d (.int .i64) y] [])
 | _, _ => none⟩
theorem qkF : SumDet qb4 := zj fun _ _ _ _ => by
 unfold qb4
 simp only [veil_eq]
 split
 ·split <;> rfl
 ·rfl
theorem qlB : SumOk Tryz.prog 105 qb4 := by
 have hE : EnvOk Tryz.prog qjv := env_ok (l := [(114, qdb), (102, qau), (126, qb2)]) th_ok qZ ⟨⟨qkq, qjf⟩, ⟨qgc, qfO⟩, ⟨qly, qky⟩, trivial⟩ _
 refine sum_ok hE Tryz.func105 rfl (by kernel_rfl) qb4 [.raw] QI.k ?_
 intro R avs qm κ r h
 unfold qb4 at h
 simp only [veil_eq] at h
 split at h
 ·rename_i qj qs qH qe qf qG qg qr ql qq qh gen
  split at h
  ·cases h
  ·rename_i y hy
   refine ⟨BIG, _, _, _, (QI.eq BIG qj qs qH qe qf qG qg qr ql qq qh gen).trans hy, ?_, h⟩
   intro rs ros hk
   unfold QI.k at hk
   split at hk
   ·rw [← sj hk]; exact ⟨rfl, rfl⟩
   ·cases hk
 ·cases h
def qiD : Env := ⟨th, gam [(102, qau), (103, qcp), (104, qby), (105, qb4)], fun i => if i = 5 then ⟨[1, 2, 5, 6, 17, 18, 19], [], []⟩ else ⟨[], [], []⟩⟩
def zY.k (rs : List AV) (os : List Den.Obj) : Option (List Int) :=
 match rs, os with
 | [.row 0], [.row 155 (.int .i64) r0 false] => some r0
 | _, _ => none
def zY.s5 (qj qs qH qe qf qG qg qr ql qq : Int) (qh : LR) (gen : Int) (x1 x2 : Bool) (x3 x4 : Int) : St := ⟨[.dead, .d tQi (gen), .ptr 64 0, .dead, .dead, .d .bool x1, .d .bool x2, dD, dD, dD, dD, dD, dD, dD, dD, dD, dD, .d (.sl tQr) (qh), .d tQi x3, .d tQi x4, dD, dD, dD, dD, dD, dD, dD, dD, dD, dD, dD, dD, dD, dD, dD, dD, dD, dD, dD, dD, dD, dD, dD, dD, dD, dD, dD, dD, dD, dD, dD, dD, dD, dD, dD, dD, dD, dD, dD, dD, dD, dD, dD, dD, dD, dD, dD, dD, dD, dD, dD, dD, dD, dD, .dead], ofL [(64, .box [.d tQi (qj), .d tQi (qs), .d tQi (qH), .d tQi (qe), .d tQi (qf), .d tQi (qG), .d tQi (qg), .d tQi (qr), .d tQi (ql), .d tQi (qq), .d (.sl tQr) (qh)])], 0⟩
def zY.p5 (qa : Nat) (qj qs qH qe qf qG qg qr ql qq : Int) (qh : LR) (gen : Int) (k : Nat) := fun x1 x2 x3 x4 => lp qiD qa Tryz.f70 [.own 155 tQi] 0 zY.k 5 [] k (zY.s5 qj qs qH qe qf qG qg qr ql qq qh gen x1 x2 x3 x4)
def zY.b5 (qj qs qH qe qf qG qg qr ql qq : Int) (qh : LR) (gen : Int) (A5 : Bool → Bool → Int → Int → Option (List Int)) (x1 : Bool) (x2 : Bool) (x3 : Int) (x4 : Int) : Option (List Int) :=
 (if (decide (x4 < x3)) then (match (idx qh x4) with | none => none | some y5 => (if x1 then (if x2 then A5 true true x3 (IntKind.wrap .i64 (x4 + (1 : Int))) else (match (veil (qan.f BIG gen)) with | none => none | some y6 => A5 true (decide (y5.2.1 > y6)) x3 (IntKind.wrap .i64 (x4 + (1 : Int))))) else (if x2 then A5 (decide (((((List.length y5.2.2.2.2.2)) : Nat) : Int) > (0 : Int))) true x3 (IntKind.wrap .i64 (x4 + (1 : Int))) else (match (veil (qan.f BIG gen)) with | none => none | some y7 => A5 (decide (((((List.length y5.2.2.2.2.2)) : Nat) : Int) > (0 : Int))) (decide (y5.2.1 > y7)) x3 (IntKind.wrap .i64 (x4 + (1 : Int))))))) else (if (decide (gen < (3 : Int))) then (match (veil (zn.f BIG (qj == (9 : Int)) (1 : Int) ([] : List Int))) with | none => none | some y8 => (if (decide (gen < (3 : Int))) then (match (veil (zn.f BIG (ql != (0 : Int)) (2 : Int) y8)) with | none => none | some y9 => (if (gen == (1 : Int)) then (match (veil (zn.f BIG x1 (3 : Int) y9)) with | none => none | some y10 => (match (veil (zn.f BIG x2 (4 : Int) y10)) with | none => none | some y11 => (match (veil (QI.f BIG qj qs qH qe qf qG qg qr ql qq qh gen)) with | none => none | some y12 => (match (veil (zn.f BIG (decide (y12 > (65499 : Int))) (5 : Int) y11)) with | none => none | some y13 => some (y13))))) else (match (veil (zn.f BIG false (3 : Int) y9)) with | none => none | some y14 => (match (veil (zn.f BIG x2 (4 : Int) y14)) with | none => none | some y15 => (match (veil (QI.f BIG qj qs qH qe qf qG qg qr ql qq qh gen)) with | none => none | some y16 => (match (veil (zn.f BIG (decide (y16 > (65499 : Int))) (5 : Int) y15)) with | none => none | some y17 => some (y17))))))) else (match (veil (zn.f BIG false (2 : Int) y8)) with | none => none | some y18 => (if (gen == (1 : Int)) then (match (veil (zn.f BIG x1 (3 : Int) y18)) with | none => none | some y19 => (match (veil (zn.f BIG x2 (4 : Int) y19)) with | none => none | some y20 => (match (veil (QI.f BIG qj qs qH qe qf qG qg qr ql qq qh gen)) with | none => none | some y21 => (match (veil (zn.f BIG (decide (y21 > (65499 : Int))) (5 : Int) y20)) with | none => none | some y22 => some (y22))))) else (match (veil (zn.f BIG false (3 : Int) y18)) with | none => none | some y23 => (match (veil (zn.f BIG x2 (4 : Int) y23)) with | none => none | some y24 => (match (veil (QI.f BIG qj qs qH qe qf qG qg qr ql qq qh gen)) with | none => none | some y25 => (match (veil (zn.f BIG (decide (y25 > (65499 : Int))) (5 : Int) y24)) with | none => none | some y26 => some (y26))))))))) else (match (veil (zn.f BIG false (1 : Int) ([] : List Int))) with | none => none | some y27 => (if (decide (gen < (3 : Int))) then (match (veil (zn.f BIG (ql != (0 : Int)) (2 : Int) y27)) with | none => none | some y28 => (if (gen == (1 : Int)) then (match (veil (zn.f BIG x1 (3 : Int) y28)) with | none => none | some y29 => (match (veil (zn.f BIG x2 (4 : Int) y29)) with | none => none | some y30 => (match (veil (QI.f BIG qj qs qH qe qf qG qg qr ql qq qh gen)) with | none => none | some y31 => (match (veil (zn.f BIG (decide (y31 > (65499 : Int))) (5 : Int) y30)) with | none => none | some y32 => some (y32))))) else (match (veil (zn.f BIG false (3 : Int) y28)) with | none => none | some y33 => (match (veil (zn.f BIG x2 (4 : Int) y33)) with | none => none | some y34 => (match (veil (QI.f BIG qj qs qH qe qf qG qg qr ql qq qh gen)) with | none => none | some y35 => (match (veil (zn.f BIG (decide (y35 > (65499 : Int))) (5 : Int) y34)) with | none => none | some y36 => some (y36))))))) else (match (veil (zn.f BIG false (2 : Int) y27)) with | none => none | some y37 => (if (gen == (1 : Int)) then (match (veil (zn.f BIG x1 (3 : Int) y37)) with | none => none | some y38 => (match (veil (zn.f BIG x2 (4 : Int) y38)) with | none => none | some y39 => (match (veil (QI.f BIG qj qs qH qe qf qG qg qr ql qq qh gen)) with | none => none | some y40 => (match (veil (zn.f BIG (decide (y40 > (65499 : Int))) (5 : Int) y39)) with | none => none | some y41 => some (y41))))) else (match (veil (zn.f BIG false (3 : Int) y37)) with | none => none | some y42 => (match (veil (zn.f BIG x2 (4 : Int) y42)) with | none => none | some y43 => (match (veil (QI.f BIG qj qs qH qe qf qG qg qr ql qq qh gen)) with | none => none | some y44 => (match (veil (zn.f BIG (decide (y44 > (65499 : Int))) (5 : Int) y43)) with | none => none | some y45 => some (y45)))))))))))
def zY.l5 (qa : Nat) (qj qs qH qe qf qG qg qr ql qq : Int) (qh : LR) (gen : Int) : Nat → Bool → Bool → Int → Int → Option (List Int)
 | 0, _, _, _, _ => none
 | k + 1, x1, x2, x3, x4 => zY.b5 qj qs qH qe qf qG qg qr ql qq qh gen (zY.l5 qa qj qs qH qe qf qG qg qr ql qq qh gen k) x1 x2 x3 x4
def zY.b (qj qs qH qe qf qG qg qr ql qq : Int) (qh : LR) (gen : Int) (E5 : Bool → Bool → Int → Int → Option (List Int)) : Option (List Int) :=
 (match (veil (Zm.f BIG qj qs qH qe qf qG qg qr ql qq qh gen)) with | none => none | some y0 => (if (!y0) then some (((0 : Int) :: ([] : List Int))) else E5 false false ((((List.length qh)) : Nat) : Int) (0 : Int)))
def zY.f (qa : Nat) (qj qs qH qe qf qG qg qr ql qq : Int) (qh : LR) (gen : Int) : Option (List Int) := zY.b qj qs qH qe qf qG qg qr ql qq qh gen (zY.l5 qa qj qs qH qe qf qG qg qr ql qq qh gen qa)
theorem zY.l5_eq (qa : Nat) (qj qs qH qe qf qG qg qr ql qq : Int) (qh : LR) (gen : Int) : ∀ k : Nat, zY.p5 qa qj qs qH qe qf qG qg qr ql qq qh gen k = zY.l5 qa qj qs qH qe qf qG qg qr ql qq qh gen k
 | 0 => by kernel_rfl
 | k + 1 => by
  refine Eq.trans (b := zY.b5 qj qs qH qe qf qG qg qr ql qq qh gen (zY.p5 qa qj qs qH qe qf qG qg qr ql qq qh gen k)) (by kernel_rfl) ?_
  rw [zY.l5_eq qa qj qs qH qe qf qG qg qr ql qq qh gen k]
  kernel_rfl
theorem zY.eq (qa : Nat) (qj qs qH qe qf qG qg qr ql qq : Int) (qh : LR) (gen : Int) : (denF qiD loopN qa Tryz.f70 [.own 155 tQi] [.agg [.d tQi qj, .d tQi qs, .d tQi qH, .d tQi qe, .d tQi qf, .d tQi qG, .d tQi qg, .d tQi qr, .d tQi ql, .d tQi qq, .d (.sl tQr) qh], .d tQi gen] [] zY.k) = zY.f qa qj qs qH qe qf qG qg qr ql qq qh gen := by
 refine Eq.trans (b := zY.b qj qs qH qe qf qG qg qr ql qq qh gen (zY.p5 qa qj qs qH qe qf qG qg qr ql qq qh gen qa)) (by kernel_rfl) ?_
 rw [zY.l5_eq qa qj qs qH qe qf qG qg qr ql qq qh gen qa]
 kernel_rfl
def qcX : Den.Sum := ⟨[.dat (.pair tQi (.pair tQi (.pair tQi (.pair (.pair tQi tQi) (.pair tQi (.pair tQi (.pair tQi (.pair tQi (.pair tQi (.sl tQr)))))))))) true, .raw], fun qK qm κ => match qK, qm with
 | [.agg [.d (.int .i64) qj, .d (.int .i64) qs, .d (.int .i64) qH, .d (.int .i64) qe, .d (.int .i64) qf, .d (.int .i64) qG, .d (.int .i64) qg, .d (.int .i64) qr, .d (.int .i64) ql, .d (.int .i64) qq, .d (.sl (.pair (.int .i64) (.pair (.int .i64) (.pair (.int .i64) (.pair (.pair (.int .i64) (.int .i64)) (.pair .bool (.sl (.pair (.int .i64) (.sl (.int .u8)))))))))) qh], .d (.int .i64) gen], [] => (match veil (zY.f BIG qj qs qH qe qf qG qg qr ql qq qh gen) with | none => none | some y => κ [.row 0] [.row 155 (.int .i64) y false])
 | _, _ => none⟩
theorem qmz : SumDet qcX := zj fun _ _ _ _ => by
 unfold qcX
 simp only [veil_eq]
 split
 ·split <;> rfl
 ·rfl
theorem qm0 : SumOk Tryz.prog 70 qcX := by
 have hE : EnvOk Tryz.prog qiD := env_ok (l := [(102, qau), (103, qcp), (104, qby), (105, qb4)]) th_ok qZ ⟨⟨qgc, qfO⟩, ⟨qmy, qlA⟩, ⟨qkE, qjP⟩, ⟨qlB, qkF⟩, trivial⟩ _
 refine sum_ok hE Tryz.func70 rfl (by kernel_rfl) qcX [.own 155 tQi] zY.k ?_
 intro R avs qm κ r h
 unfold qcX at h
 simp only [veil_eq] at h
 split at h
 ·rename_i qj qs qH qe qf qG qg qr ql qq qh gen
  split at h
  ·cases h
  ·rename_i y hy
   refine ⟨BIG, _, _, _, (zY.eq BIG qj qs qH qe qf qG qg qr ql qq qh gen).trans hy, ?_, h⟩
   intro rs ros hk
   unfold zY.k at hk
   split at hk
   ·rw [← sj hk]; exact ⟨rfl, rfl⟩
   ·cases hk
 ·cases h
def qe6 : Env := ⟨th, gam [(52, Zf), (83, qdw)], fun i => ⟨[], [], []⟩⟩
def zp.k (rs : List AV) (os : List Den.Obj) : Option (Int × Int × Bool × (List Int) × Int × Bool) :=
 match rs, os with
 | [.agg [.d (.int .i64) r0, .d (.int .i64) r1]], [.box [.ptr 1 0, .d .bool r2], .box [.d (.sl (.int .u8)) r3, .d (.int .i64) r4, .d .bool r5]] => some (r0, r1, r2, r3, r4, r5)
 | _, _ => none
def zp.b (bs : List Int) (at0 : Int) (bad q9 : Bool) : Option (Int × Int × Bool × (List Int) × Int × Bool) :=
 (if (zt bs at0) then (match (veil (Option.some (qz bs (1 : Int) at0 bad))) with | none => none | some y0 => (match (veil (Option.some (zW Qv y0.1))) with | none => none | some y1 => (if q9 then some (y1.1, y1.2.1, true, bs, y0.2.1, y0.2.2) else some (y1.1, y1.2.1, (!y1.2.2), bs, y0.2.1, y0.2.2)))) else none)
def zp.f (qa : Nat) (bs : List Int) (at0 : Int) (bad q9 : Bool) : Option (Int × Int × Bool × (List Int) × Int × Bool) := zp.b bs at0 bad q9
theorem zp.eq (qa : Nat) (bs : List Int) (at0 : Int) (bad q9 : Bool) : (denF qe6 loopN qa Tryz.f107 [.dat (.pair tQi tQi) true] [.ptr 0 0] [.box [.ptr 1 0, .d .bool q9], .box [.d (.sl (.int .u8)) bs, .d tQi at0, .d .bool bad]] zp.k) = zp.f qa bs at0 bad q9 := by
 kernel_rfl
def Qx : Den.Sum := ⟨[.pb [.frz none [0] 0 (.int .u8)]], fun qK qm κ => match qK, qm with
 | [.ptr 0 0], [.box [.ptr 1 0, .d .bool q9], .box [.d (.sl (.int .u8)) bs, .d (.int .i64) at0, .d .bool bad]] => (match veil (zp.f BIG bs at0 bad q9) with | none => none | some y => κ [.agg [.d (.int .i64) y.1, .d (.int .i64) y.2.1]] [.box [.ptr 1 0, .d .bool y.2.2.1], .box [.d (.sl (.int .u8)) y.2.2.2.1, .d (.int .i64) y.2.2.2.2.1, .d .bool y.2.2.2.2.2]])
 | _, _ => none⟩
theorem qb1 : SumDet Qx := zj fun _ _ _ _ => by
 unfold Qx
 simp only [veil_eq]
 split
 ·split <;> rfl
 ·rfl
theorem qcd : SumOk Tryz.prog 107 Qx := by
 have hE : EnvOk Tryz.prog qe6 := env_ok (l := [(52, Zf), (83, qdw)]) th_ok qZ ⟨⟨qbc, qaK⟩, ⟨qik, qhe⟩, trivial⟩ _
 refine sum_ok hE Tryz.func107 rfl (by kernel_rfl) Qx [.dat (.pair tQi tQi) true] zp.k ?_
 intro R avs qm κ r h
 unfold Qx at h
 simp only [veil_eq] at h
 split at h
 ·rename_i q9 bs at0 bad
  split at h
  ·cases h
  ·rename_i y hy
   refine ⟨BIG, _, _, _, (zp.eq BIG bs at0 bad q9).trans hy, ?_, h⟩
   intro rs ros hk
   unfold zp.k at hk
   split at hk
   ·rw [← sj hk]; exact ⟨rfl, rfl⟩
   ·cases hk
 ·cases h
def qfC : Env := ⟨th, gam [], fun i => if i = 4 then ⟨[0, 5, 6, 7, 10], [], []⟩ else ⟨[], [], []⟩⟩
def zq.k (rs : List AV) (os : List Den.Obj) : Option (Int × Int × Int) :=
 match rs, os with
 | [.d (.int .u64) r0, .d (.int .i64) r1, .d (.int .i64) r2], [] => some (r0, r1, r2)
 | _, _ => none
def zq.s4 (b : List Int) (x0 x1 : Int) : St := ⟨[.d (.sl (.int .u8)) (b), dD, dD, dD, dD, .d (.int .u64) x0, .d tQi ((0 : Int)), .d tQi ((2 : Int)), .dead, .dead, .d tQi x1, dD, dD, dD, dD, dD, dD, dD, dD, dD, dD, dD, dD, dD, dD, dD, dD, dD, dD, dD, dD, dD, dD, dD, dD, dD, dD, dD, dD, dD, dD, dD, dD, dD, dD, dD, dD, dD, dD, dD, .dead], ofL [], 0⟩
def zq.p4 (qa : Nat) (b : List Int) (k : Nat) := fun x0 x1 => lp qfC qa Tryz.f133 [.raw, .raw, .raw] 0 zq.k 4 [] k (zq.s4 b x0 x1)
def zq.b4 (b : List Int) (A4 : Int → Int → Option (Int × Int × Int)) (x0 : Int) (x1 : Int) : Option (Int × Int × Int) :=
 (if (decide (x1 < (10 : Int))) then (if (decide (x1 ≥ ((((List.length b)) : Nat) : Int))) then some ((0 : Int), (0 : Int), (2 : Int)) else (match (idx b x1) with | none => none | some y2 => (if (x1 == (9 : Int)) then (if (decide (y2 > (1 : Int))) then some ((0 : Int), (0 : Int), (4 : Int)) else (if ((IntKind.wrap .i64 ((7 : Int) * x1)) < (0 : Int)) then none else (if (decide (y2 < (128 : Int))) then (if (y2 == (0 : Int)) then (if (decide (x1 > (0 : Int))) then some ((0 : Int), (0 : Int), (4 : Int)) else some ((bits BinOp.or .u64 x0 (IntKind.wrap .u64 ((IntKind.wrap .u64 (bits BinOp.and .u8 y2 (127 : Int))) * ((2 : Int) ^ (Min.min (Int.toNat (IntKind.wrap .i64 ((7 : Int) * x1))) (IntKind.bits .u64)))))), (IntKind.wrap .i64 (x1 + (1 : Int))), (0 : Int))) else some ((bits BinOp.or .u64 x0 (IntKind.wrap .u64 ((IntKind.wrap .u64 (bits BinOp.and .u8 y2 (127 : Int))) * ((2 : Int) ^ (Min.min (Int.toNat (IntKind.wrap .i64 ((7 : Int) * x1))) (IntKind.bits .u64)))))), (IntKind.wrap .i64 (x1 + (1 : Int))), (0 : Int))) else A4 (bits BinOp.or .u64 x0 (IntKind.wrap .u64 ((IntKind.wrap .u64 (bits BinOp.and .u8 y2 (127 : Int))) * ((2 : Int) ^ (Min.min (Int.toNat (IntKind.wrap .i64 ((7 : Int) * x1))) (IntKind.bits .u64)))))) (IntKind.wrap .i64 (x1 + (1 : Int)))))) else (if ((IntKind.wrap .i64 ((7 : Int) * x1)) < (0 : Int)) then none else (if (decide (y2 < (128 : Int))) then (if (y2 == (0 : Int)) then (if (decide (x1 > (0 : Int))) then some ((0 : Int), (0 : Int), (4 : Int)) else some ((bits BinOp.or .u64 x0 (IntKind.wrap .u64 ((IntKind.wrap .u64 (bits BinOp.and .u8 y2 (127 : Int))) * ((2 : Int) ^ (Min.min (Int.toNat (IntKind.wrap .i64 ((7 : Int) * x1))) (IntKind.bits .u64)))))), (IntKind.wrap .i64 (x1 + (1 : Int))), (0 : Int))) else some ((bits BinOp.or .u64 x0 (IntKind.wrap .u64 ((IntKind.wrap .u64 (bits BinOp.and .u8 y2 (127 : Int))) * ((2 : Int) ^ (Min.min (Int.toNat (IntKind.wrap .i64 ((7 : Int) * x1))) (IntKind.bits .u64)))))), (IntKind.wrap .i64 (x1 + (1 : Int))), (0 : Int))) else A4 (bits BinOp.or .u64 x0 (IntKind.wrap .u64 ((IntKind.wrap .u64 (bits BinOp.and .u8 y2 (127 : Int))) * ((2 : Int) ^ (Min.min (Int.toNat (IntKind.wrap .i64 ((7 : Int) * x1))) (IntKind.bits .u64)))))) (IntKind.wrap .i64 (x1 + (1 : Int)))))))) else some ((0 : Int), (0 : Int), (2 : Int)))
def zq.l4 (qa : Nat) (b : List Int) : Nat → Int → Int → Option (Int × Int × Int)
 | 0, _, _ => none
 | k + 1, x0, x1 => zq.b4 b (zq.l4 qa b k) x0 x1
def zq.b (b : List Int) (E4 : Int → Int → Option (Int × Int × Int)) : Option (Int × Int × Int) :=
 E4 (0 : Int) (0 : Int)
def zq.f (qa : Nat) (b : List Int) : Option (Int × Int × Int) := zq.b b (zq.l4 qa b qa)
theorem zq.l4_eq (qa : Nat) (b : List Int) : ∀ k : Nat, zq.p4 qa b k = zq.l4 qa b k
 | 0 => by kernel_rfl
 | k + 1 => by
  refine Eq.trans (b := zq.b4 b (zq.p4 qa b k)) (by kernel_rfl) ?_
  rw [zq.l4_eq qa b k]
  kernel_rfl
theorem zq.eq (qa : Nat) (b : List Int) : (denF qfC loopN qa Tryz.f133 [.raw, .raw, .raw] [.d (.sl (.int .u8)) b] [] zq.k) = zq.f qa b := by
 refine Eq.trans (b := zq.b b (zq.p4 qa b qa)) (by kernel_rfl) ?_
 rw [zq.l4_eq qa b qa]
 kernel_rfl
def qbu : Den.Sum := ⟨[.dat (.sl (.int .u8)) false], fun qK qm κ => match qK, qm with
 | [.d (.sl (.int .u8)) b], [] => (match veil (zq.f BIG b) with | none => none | some y => κ [.d (.int .u64) y.1, .d (.int .i64) y.2.1, .d (.int .i64) y.2.2] [])
 | _, _ => none⟩
theorem qjF : SumDet qbu := zj fun _ _ _ _ => by
 unfold qbu
 simp only [veil_eq]
 split
 ·split <;> rfl
 ·rfl
theorem qkm : SumOk Tryz.prog 133 qbu := by
 have hE : EnvOk Tryz.prog qfC := env_ok (l := []) th_ok qZ trivial _
 refine sum_ok hE Tryz.func133 rfl (by kernel_rfl) qbu [.raw, .raw, .raw] zq.k ?_
 intro R avs qm κ r h
 unfold qbu at h
 simp only [veil_eq] at h
 split at h
 ·rename_i b
  split at h
  ·cases h
  ·rename_i y hy
   refine ⟨BIG, _, _, _, (zq.eq BIG b).trans hy, ?_, h⟩
   intro rs ros hk
   unfold zq.k at hk
   split at hk
   ·rw [← sj hk]; exact ⟨rfl, rfl⟩
   ·cases hk
 ·cases h
def qhO : Env := ⟨th, gam [(57, qhi)], fun i => ⟨[], [], []⟩⟩
def ZB.k (rs : List AV) (os : List Den.Obj) : Option ((List Int) × Int) :=
 match rs, os with
 | [.d (.sl (.int .u8)) r0, .d (.int .i64) r1], [] => some (r0, r1)
 | _, _ => none
def ZB.b (qj qs qH qe qf qG qg qr ql qq : Int) (qh qb : LR) : Option ((List Int) × Int) :=
 (if (q0 qh) then some ((qeq qj qs qH qe qf qG qg qr ql qq qh).1, (qeq qj qs qH qe qf qG qg qr ql qq qh).2) else none)
def ZB.f (qa : Nat) (qj qs qH qe qf qG qg qr ql qq : Int) (qh qb : LR) : Option ((List Int) × Int) := ZB.b qj qs qH qe qf qG qg qr ql qq qh qb
theorem ZB.eq (qa : Nat) (qj qs qH qe qf qG qg qr ql qq : Int) (qh qb : LR) : (denF qhO loopN qa Tryz.f56 [.own 5 (.int .u8), .raw] [.agg [.d tQi qj, .d tQi qs, .d tQi qH, .d tQi qe, .d tQi qf, .d tQi qG, .d tQi qg, .d tQi qr, .d tQi ql, .d tQi qq, .d (.sl tQr) qh], .d (.sl tQr) qb] [] ZB.k) = ZB.f qa qj qs qH qe qf qG qg qr ql qq qh qb := by
 kernel_rfl
def Zr : Den.Sum := ⟨[.dat (.pair tQi (.pair tQi (.pair tQi (.pair (.pair tQi tQi) (.pair tQi (.pair tQi (.pair tQi (.pair tQi (.pair tQi (.sl tQr)))))))))) true, .dat (.sl tQr) false], fun qK qm κ => match qK, qm with
 | [.agg [.d (.int .i64) qj, .d (.int .i64) qs, .d (.int .i64) qH, .d (.int .i64) qe, .d (.int .i64) qf, .d (.int .i64) qG, .d (.int .i64) qg, .d (.int .i64) qr, .d (.int .i64) ql, .d (.int .i64) qq, .d (.sl (.pair (.int .i64) (.pair (.int .i64) (.pair (.int .i64) (.pair (.pair (.int .i64) (.int .i64)) (.pair .bool (.sl (.pair (.int .i64) (.sl (.int .u8)))))))))) qh], .d (.sl (.pair (.int .i64) (.pair (.int .i64) (.pair (.int .i64) (.pair (.pair (.int .i64) (.int .i64)) (.pair .bool (.sl (.pair (.int .i64) (.sl (.int .u8)))))))))) qb], [] => (match veil (ZB.f BIG qj qs qH qe qf qG qg qr ql qq qh qb) with | none => none | some y => κ [.d (.sl (.int .u8)) y.1, .d (.int .i64) y.2] [])
 | _, _ => none⟩
theorem qdo : SumDet Zr := zj fun _ _ _ _ => by
 unfold Zr
 simp only [veil_eq]
 split
 ·split <;> rfl
 ·rfl
theorem qdK : SumOk Tryz.prog 56 Zr := by
 have hE : EnvOk Tryz.prog qhO := env_ok (l := [(57, qhi)]) th_ok qZ ⟨⟨qq7, qp5⟩, trivial⟩ _
 refine sum_ok hE Tryz.func56 rfl (by kernel_rfl) Zr [.own 5 (.int .u8), .raw] ZB.k ?_
 intro R avs qm κ r h
 unfold Zr at h
 simp only [veil_eq] at h
 split at h
 ·rename_i qj qs qH qe qf qG qg qr ql qq qh qb
  split at h
  ·cases h
  ·rename_i y hy
   refine ⟨BIG, _, _, _, (ZB.eq BIG qj qs qH qe qf qG qg qr ql qq qh qb).trans hy, ?_, h⟩
   intro rs ros hk
   unfold ZB.k at hk
   split at hk
   ·rw [← sj hk]; exact ⟨rfl, rfl⟩
   ·cases hk
 ·cases h
def qhN : Env := ⟨th, gam [(59, qgZ)], fun i => ⟨[], [], []⟩⟩
def ZA.k (rs : List AV) (os : List Den.Obj) : Option (Int × Int × Int × Int × Int × Int × Int × Int × Int × Int × LR × Int) :=
 match rs, os with
 | [.agg [.d (.int .i64) r0, .d (.int .i64) r1, .d (.int .i64) r2, .d (.int .i64) r3, .d (.int .i64) r4, .d (.int .i64) r5, .d (.int .i64) r6, .d (.int .i64) r7, .d (.int .i64) r8, .d (.int .i64) r9, .d (.sl (.pair (.int .i64) (.pair (.int .i64) (.pair (.int .i64) (.pair (.pair (.int .i64) (.int .i64)) (.pair .bool (.sl (.pair (.int .i64) (.sl (.int .u8)))))))))) r10], .d (.int .i64) r11], [] => some (r0, r1, r2, r3, r4, r5, r6, r7, r8, r9, r10, r11)
 | _, _ => none
def ZA.b (b : List Int) (qb : LR) : Option (Int × Int × Int × Int × Int × Int × Int × Int × Int × Int × LR × Int) :=
 (if (inB b) then (match (veil (Option.some (Qr b))) with | none => none | some y0 => some (y0.1, y0.2.1, y0.2.2.1, y0.2.2.2.1, y0.2.2.2.2.1, y0.2.2.2.2.2.1, y0.2.2.2.2.2.2.1, 0, 0, 0, y0.2.2.2.2.2.2.2.1, y0.2.2.2.2.2.2.2.2)) else none)
def ZA.f (qa : Nat) (b : List Int) (qb : LR) : Option (Int × Int × Int × Int × Int × Int × Int × Int × Int × Int × LR × Int) := ZA.b b qb
theorem ZA.eq (qa : Nat) (b : List Int) (qb : LR) : (denF qhN loopN qa Tryz.f58 [.dat (.pair tQi (.pair tQi (.pair tQi (.pair (.pair tQi tQi) (.pair tQi (.pair tQi (.pair tQi (.pair tQi (.pair tQi (.sl tQr)))))))))) true, .raw] [.d (.sl (.int .u8)) b, .d (.sl tQr) qb] [] ZA.k) = ZA.f qa b qb := by
 kernel_rfl
def Zq : Den.Sum := ⟨[.dat (.sl (.int .u8)) false, .dat (.sl tQr) false], fun qK qm κ => match qK, qm with
 | [.d (.sl (.int .u8)) b, .d (.sl (.pair (.int .i64) (.pair (.int .i64) (.pair (.int .i64) (.pair (.pair (.int .i64) (.int .i64)) (.pair .bool (.sl (.pair (.int .i64) (.sl (.int .u8)))))))))) qb], [] => (match veil (ZA.f BIG b qb) with | none => none | some y => κ [.agg [.d (.int .i64) y.1, .d (.int .i64) y.2.1, .d (.int .i64) y.2.2.1, .d (.int .i64) y.2.2.2.1, .d (.int .i64) y.2.2.2.2.1, .d (.int .i64) y.2.2.2.2.2.1, .d (.int .i64) y.2.2.2.2.2.2.1, .d (.int .i64) y.2.2.2.2.2.2.2.1, .d (.int .i64) y.2.2.2.2.2.2.2.2.1, .d (.int .i64) y.2.2.2.2.2.2.2.2.2.1, .d (.sl (.pair (.int .i64) (.pair (.int .i64) (.pair (.int .i64) (.pair (.pair (.int .i64) (.int .i64)) (.pair .bool (.sl (.pair (.int .i64) (.sl (.int .u8)))))))))) y.2.2.2.2.2.2.2.2.2.2.1], .d (.int .i64) y.2.2.2.2.2.2.2.2.2.2.2] [])
 | _, _ => none⟩
theorem qdn : SumDet Zq := zj fun _ _ _ _ => by
 unfold Zq
 simp only [veil_eq]
 split
 ·split <;> rfl
 ·rfl
theorem qdJ : SumOk Tryz.prog 58 Zq := by
 have hE : EnvOk Tryz.prog qhN := env_ok (l := [(59, qgZ)]) th_ok qZ ⟨⟨qp7, qo7⟩, trivial⟩ _
 refine sum_ok hE Tryz.func58 rfl (by kernel_rfl) Zq [.dat (.pair tQi (.pair tQi (.pair tQi (.pair (.pair tQi tQi) (.pair tQi (.pair tQi (.pair tQi (.pair tQi (.pair tQi (.sl tQr)))))))))) true, .raw] ZA.k ?_
 intro R avs qm κ r h
 unfold Zq at h
 simp only [veil_eq] at h
 split at h
 ·rename_i b qb
  split at h
  ·cases h
  ·rename_i y hy
   refine ⟨BIG, _, _, _, (ZA.eq BIG b qb).trans hy, ?_, h⟩
   intro rs ros hk
   unfold ZA.k at hk
   split at hk
   ·rw [← sj hk]; exact ⟨rfl, rfl⟩
   ·cases hk
 ·cases h
def qhM : Env := ⟨th, gam [(61, qfP)], fun i => ⟨[], [], []⟩⟩
def Zz.k (rs : List AV) (os : List Den.Obj) : Option ((List Int) × Int) :=
 match rs, os with
 | [.d (.sl (.int .u8)) r0, .d (.int .i64) r1], [] => some (r0, r1)
 | _, _ => none
def Zz.b (qj qs qH qe qf qG qg qr ql qq : Int) (qh qb : LR) : Option ((List Int) × Int) :=
 (if (q0 qh) then some ((qer qj qs qH qe qf qG qg qr ql qq qh).1, (qer qj qs qH qe qf qG qg qr ql qq qh).2) else none)
def Zz.f (qa : Nat) (qj qs qH qe qf qG qg qr ql qq : Int) (qh qb : LR) : Option ((List Int) × Int) := Zz.b qj qs qH qe qf qG qg qr ql qq qh qb
theorem Zz.eq (qa : Nat) (qj qs qH qe qf qG qg qr ql qq : Int) (qh qb : LR) : (denF qhM loopN qa Tryz.f60 [.own 5 (.int .u8), .raw] [.agg [.d tQi qj, .d tQi qs, .d tQi qH, .d tQi qe, .d tQi qf, .d tQi qG, .d tQi qg, .d tQi qr, .d tQi ql, .d tQi qq, .d (.sl tQr) qh], .d (.sl tQr) qb] [] Zz.k) = Zz.f qa qj qs qH qe qf qG qg qr ql qq qh qb := by
 kernel_rfl
def Zp : Den.Sum := ⟨[.dat (.pair tQi (.pair tQi (.pair tQi (.pair (.pair tQi tQi) (.pair tQi (.pair tQi (.pair tQi (.pair tQi (.pair tQi (.sl tQr)))))))))) true, .dat (.sl tQr) false], fun qK qm κ => match qK, qm with
 | [.agg [.d (.int .i64) qj, .d (.int .i64) qs, .d (.int .i64) qH, .d (.int .i64) qe, .d (.int .i64) qf, .d (.int .i64) qG, .d (.int .i64) qg, .d (.int .i64) qr, .d (.int .i64) ql, .d (.int .i64) qq, .d (.sl (.pair (.int .i64) (.pair (.int .i64) (.pair (.int .i64) (.pair (.pair (.int .i64) (.int .i64)) (.pair .bool (.sl (.pair (.int .i64) (.sl (.int .u8)))))))))) qh], .d (.sl (.pair (.int .i64) (.pair (.int .i64) (.pair (.int .i64) (.pair (.pair (.int .i64) (.int .i64)) (.pair .bool (.sl (.pair (.int .i64) (.sl (.int .u8)))))))))) qb], [] => (match veil (Zz.f BIG qj qs qH qe qf qG qg qr ql qq qh qb) with | none => none | some y => κ [.d (.sl (.int .u8)) y.1, .d (.int .i64) y.2] [])
 | _, _ => none⟩
theorem qdm : SumDet Zp := zj fun _ _ _ _ => by
 unfold Zp
 simp only [veil_eq]
 split
 ·split <;> rfl
 ·rfl
theorem qdI : SumOk Tryz.prog 60 Zp := by
 have hE : EnvOk Tryz.prog qhM := env_ok (l := [(61, qfP)]) th_ok qZ ⟨⟨qp6, qo6⟩, trivial⟩ _
 refine sum_ok hE Tryz.func60 rfl (by kernel_rfl) Zp [.own 5 (.int .u8), .raw] Zz.k ?_
 intro R avs qm κ r h
 unfold Zp at h
 simp only [veil_eq] at h
 split at h
 ·rename_i qj qs qH qe qf qG qg qr ql qq qh qb
  split at h
  ·cases h
  ·rename_i y hy
   refine ⟨BIG, _, _, _, (Zz.eq BIG qj qs qH qe qf qG qg qr ql qq qh qb).trans hy, ?_, h⟩
   intro rs ros hk
   unfold Zz.k at hk
   split at hk
   ·rw [← sj hk]; exact ⟨rfl, rfl⟩
   ·cases hk
 ·cases h
def qhL : Env := ⟨th, gam [(63, qfz)], fun i => ⟨[], [], []⟩⟩
def Zy.k (rs : List AV) (os : List Den.Obj) : Option (Int × Int × Int × Int × Int × Int × Int × Int × Int × Int × LR × Int) :=
 match rs, os with
 | [.agg [.d (.int .i64) r0, .d (.int .i64) r1, .d (.int .i64) r2, .d (.int .i64) r3, .d (.int .i64) r4, .d (.int .i64) r5, .d (.int .i64) r6, .d (.int .i64) r7, .d (.int .i64) r8, .d (.int .i64) r9, .d (.sl (.pair (.int .i64) (.pair (.int .i64) (.pair (.int .i64) (.pair (.pair (.int .i64) (.int .i64)) (.pair .bool (.sl (.pair (.int .i64) (.sl (.int .u8)))))))))) r10], .d (.int .i64) r11], [] => some (r0, r1, r2, r3, r4, r5, r6, r7, r8, r9, r10, r11)
 | _, _ => none
def Zy.b (b : List Int) (qb : LR) : Option (Int × Int × Int × Int × Int × Int × Int × Int × Int × Int × LR × Int) :=
 (if (inS b) then (match (veil (Option.some (zT b))) with | none => none | some y0 => some (y0.1, y0.2.1, y0.2.2.1, y0.2.2.2.1, y0.2.2.2.2.1, y0.2.2.2.2.2.1, y0.2.2.2.2.2.2.1, 0, 0, 0, y0.2.2.2.2.2.2.2.1, y0.2.2.2.2.2.2.2.2)) else none)
def Zy.f (qa : Nat) (b : List Int) (qb : LR) : Option (Int × Int × Int × Int × Int × Int × Int × Int × Int × Int × LR × Int) := Zy.b b qb
theorem Zy.eq (qa : Nat) (b : List Int) (qb : LR) : (denF qhL loopN qa Tryz.f62 [.dat (.pair tQi (.pair tQi (.pair tQi (.pair (.pair tQi tQi) (.pair tQi (.pair tQi (.pair tQi (.pair tQi (.pair tQi (.sl tQr)))))))))) true, .raw] [.d (.sl (.int .u8)) b, .d (.sl tQr) qb] [] Zy.k) = Zy.f qa b qb := by
 kernel_rfl
def Zo : Den.Sum := ⟨[.dat (.sl (.int .u8)) false, .dat (.sl tQr) false], fun qK qm κ => match qK, qm with
 | [.d (.sl (.int .u8)) b, .d (.sl (.pair (.int .i64) (.pair (.int .i64) (.pair (.int .i64) (.pair (.pair (.int .i64) (.int .i64)) (.pair .bool (.sl (.pair (.int .i64) (.sl (.int .u8)))))))))) qb], [] => (match veil (Zy.f BIG b qb) with | none => none | some y => κ [.agg [.d (.int .i64) y.1, .d (.int .i64) y.2.1, .d (.int .i64) y.2.2.1, .d (.int .i64) y.2.2.2.1, .d (.int .i64) y.2.2.2.2.1, .d (.int .i64) y.2.2.2.2.2.1, .d (.int .i64) y.2.2.2.2.2.2.1, .d (.int .i64) y.2.2.2.2.2.2.2.1, .d (.int .i64) y.2.2.2.2.2.2.2.2.1, .d (.int .i64) y.2.2.2.2.2.2.2.2.2.1, .d (.sl (.pair (.int .i64) (.pair (.int .i64) (.pair (.int .i64) (.pair (.pair (.int .i64) (.int .i64)) (.pair .bool (.sl (.pair (.int .i64) (.sl (.int .u8)))))))))) y.2.2.2.2.2.2.2.2.2.2.1], .d (.int .i64) y.2.2.2.2.2.2.2.2.2.2.2] [])
 | _, _ => none⟩
theorem qdl : SumDet Zo := zj fun _ _ _ _ => by
 unfold Zo
 simp only [veil_eq]
 split
 ·split <;> rfl
 ·rfl
theorem qdH : SumOk Tryz.prog 62 Zo := by
 have hE : EnvOk Tryz.prog qhL := env_ok (l := [(63, qfz)]) th_ok qZ ⟨⟨qo8, qnT⟩, trivial⟩ _
 refine sum_ok hE Tryz.func62 rfl (by kernel_rfl) Zo [.dat (.pair tQi (.pair tQi (.pair tQi (.pair (.pair tQi tQi) (.pair tQi (.pair tQi (.pair tQi (.pair tQi (.pair tQi (.sl tQr)))))))))) true, .raw] Zy.k ?_
 intro R avs qm κ r h
 unfold Zo at h
 simp only [veil_eq] at h
 split at h
 ·rename_i b qb
  split at h
  ·cases h
  ·rename_i y hy
   refine ⟨BIG, _, _, _, (Zy.eq BIG b qb).trans hy, ?_, h⟩
   intro rs ros hk
   unfold Zy.k at hk
   split at hk
   ·rw [← sj hk]; exact ⟨rfl, rfl⟩
   ·cases hk
 ·cases h
def qk8 : Env := ⟨th, gam [(70, qcX)], fun i => ⟨[], [], []⟩⟩
def qao.k (rs : List AV) (os : List Den.Obj) : Option Bool :=
 match rs, os with
 | [.d .bool r0], [] => some r0
 | _, _ => none
def qao.b (qj qs qH qe qf qG qg qr ql qq : Int) (qh : LR) (gen : Int) : Option Bool :=
 (match (veil (zY.f BIG qj qs qH qe qf qG qg qr ql qq qh gen)) with | none => none | some y0 => some ((((((List.length y0)) : Nat) : Int) == (0 : Int))))
def qao.f (qa : Nat) (qj qs qH qe qf qG qg qr ql qq : Int) (qh : LR) (gen : Int) : Option Bool := qao.b qj qs qH qe qf qG qg qr ql qq qh gen
theorem qao.eq (qa : Nat) (qj qs qH qe qf qG qg qr ql qq : Int) (qh : LR) (gen : Int) : (denF qk8 loopN qa Tryz.f46 [.raw] [.agg [.d tQi qj, .d tQi qs, .d tQi qH, .d tQi qe, .d tQi qf, .d tQi qG, .d tQi qg, .d tQi qr, .d tQi ql, .d tQi qq, .d (.sl tQr) qh], .d tQi gen] [] qao.k) = qao.f qa qj qs qH qe qf qG qg qr ql qq qh gen := by
 kernel_rfl
def qbg : Den.Sum := ⟨[.dat (.pair tQi (.pair tQi (.pair tQi (.pair (.pair tQi tQi) (.pair tQi (.pair tQi (.pair tQi (.pair tQi (.pair tQi (.sl tQr)))))))))) true, .raw], fun qK qm κ => match qK, qm with
 | [.agg [.d (.int .i64) qj, .d (.int .i64) qs, .d (.int .i64) qH, .d (.int .i64) qe, .d (.int .i64) qf, .d (.int .i64) qG, .d (.int .i64) qg, .d (.int .i64) qr, .d (.int .i64) ql, .d (.int .i64) qq, .d (.sl (.pair (.int .i64) (.pair (.int .i64) (.pair (.int .i64) (.pair (.pair (.int .i64) (.int .i64)) (.pair .bool (.sl (.pair (.int .i64) (.sl (.int .u8)))))))))) qh], .d (.int .i64) gen], [] => (match veil (qao.f BIG qj qs qH qe qf qG qg qr ql qq qh gen) with | none => none | some y => κ [.d .bool y] [])
 | _, _ => none⟩
theorem qgY : SumDet qbg := zj fun _ _ _ _ => by
 unfold qbg
 simp only [veil_eq]
 split
 ·split <;> rfl
 ·rfl
theorem qhU : SumOk Tryz.prog 46 qbg := by
 have hE : EnvOk Tryz.prog qk8 := env_ok (l := [(70, qcX)]) th_ok qZ ⟨⟨qm0, qmz⟩, trivial⟩ _
 refine sum_ok hE Tryz.func46 rfl (by kernel_rfl) qbg [.raw] qao.k ?_
 intro R avs qm κ r h
 unfold qbg at h
 simp only [veil_eq] at h
 split at h
 ·rename_i qj qs qH qe qf qG qg qr ql qq qh gen
  split at h
  ·cases h
  ·rename_i y hy
   refine ⟨BIG, _, _, _, (qao.eq BIG qj qs qH qe qf qG qg qr ql qq qh gen).trans hy, ?_, h⟩
   intro rs ros hk
   unfold qao.k at hk
   split at hk
   ·rw [← sj hk]; exact ⟨rfl, rfl⟩
   ·cases hk
 ·cases h
def qfc : Env := ⟨th, gam [(52, Zf), (84, qaO), (133, qbu)], fun i => if i = 2 then ⟨[0, 1, 6], [(6, 5, (.int .u8))], []⟩ else ⟨[], [], []⟩⟩
def zk.k (rs : List AV) (os : List Den.Obj) : Option (Int × Bool × (List Int) × Int × Bool) :=
 match rs, os with
 | [.d (.int .i64) r0, .d .bool r1], [.box [.d (.sl (.int .u8)) r2, .d (.int .i64) r3, .d .bool r4]] => some (r0, r1, r2, r3, r4)
 | _, _ => none
def zk.s2 (bs : List Int) (at0 : Int) (bad : Bool) (zm x0 : Int) (x1 : Bool) (x2 : (List Int)) : St := ⟨[.ptr 0 0, .d tQi (zm), dD, dD, dD, dD, .row 64, dD, dD, dD, dD, dD, dD, dD, dD, dD, dD, dD, dD, dD, dD, dD, dD, dD, dD, dD, dD, dD, dD, dD, dD, dD, dD, dD, dD, dD, dD, dD, dD, dD, dD, dD, dD, dD, .dead], ofL [(0, .box [.d (.sl (.int .u8)) (bs), .d tQi x0, .d .bool x1]), (64, .row 5 (.int .u8) x2 false)], 1⟩
def zk.p2 (qa : Nat) (bs : List Int) (at0 : Int) (bad : Bool) (zm : Int) (k : Nat) := fun x0 x1 x2 => lp qfc qa Tryz.f121 [.raw, .raw] 1 zk.k 2 [] k (zk.s2 bs at0 bad zm x0 x1 x2)
def zk.b2 (bs : List Int) (at0 : Int) (bad : Bool) (zm : Int) (A2 : Int → Bool → (List Int) → Option (Int × Bool × (List Int) × Int × Bool)) (x0 : Int) (x1 : Bool) (x2 : (List Int)) : Option (Int × Bool × (List Int) × Int × Bool) :=
 (if (decide (((((List.length x2)) : Nat) : Int) < (10 : Int))) then (if (zt bs x0) then (match (veil (Option.some (qz bs (1 : Int) x0 x1))) with | none => none | some y3 => (if y3.2.2 then some ((0 : Int), false, bs, y3.2.1, y3.2.2) else (if ((((List.length x2) + (List.length ((IntKind.wrap .u8 y3.1) :: ([] : List Int)))) * (1 : Nat)) ≤ lim) then (if (decide (y3.1 < (128 : Int))) then (match (veil (zq.f BIG (x2 ++ ((IntKind.wrap .u8 y3.1) :: ([] : List Int))))) with | none => none | some y4 => (if (y4.2.2 != (0 : Int)) then some ((0 : Int), false, bs, y3.2.1, y3.2.2) else (if (decide (zm < (0 : Int))) then some ((0 : Int), false, bs, y3.2.1, y3.2.2) else (if (decide (y4.1 > (IntKind.wrap .u64 zm))) then some ((0 : Int), false, bs, y3.2.1, y3.2.2) else some ((IntKind.wrap .i64 y4.1), true, bs, y3.2.1, y3.2.2))))) else A2 y3.2.1 y3.2.2 (x2 ++ ((IntKind.wrap .u8 y3.1) :: ([] : List Int)))) else none))) else none) else (match (veil (zq.f BIG x2)) with | none => none | some y5 => (if (y5.2.2 != (0 : Int)) then some ((0 : Int), false, bs, x0, x1) else (if (decide (zm < (0 : Int))) then some ((0 : Int), false, bs, x0, x1) else (if (decide (y5.1 > (IntKind.wrap .u64 zm))) then some ((0 : Int), false, bs, x0, x1) else some ((IntKind.wrap .i64 y5.1), true, bs, x0, x1))))))
def zk.l2 (qa : Nat) (bs : List Int) (at0 : Int) (bad : Bool) (zm : Int) : Nat → Int → Bool → (List Int) → Option (Int × Bool × (List Int) × Int × Bool)
 | 0, _, _, _ => none
 | k + 1, x0, x1, x2 => zk.b2 bs at0 bad zm (zk.l2 qa bs at0 bad zm k) x0 x1 x2
def zk.b (bs : List Int) (at0 : Int) (bad : Bool) (zm : Int) (E2 : Int → Bool → (List Int) → Option (Int × Bool × (List Int) × Int × Bool)) : Option (Int × Bool × (List Int) × Int × Bool) :=
 E2 at0 bad ([] : List Int)
def zk.f (qa : Nat) (bs : List Int) (at0 : Int) (bad : Bool) (zm : Int) : Option (Int × Bool × (List Int) × Int × Bool) := zk.b bs at0 bad zm (zk.l2 qa bs at0 bad zm qa)
theorem zk.l2_eq (qa : Nat) (bs : List Int) (at0 : Int) (bad : Bool) (zm : Int) : ∀ k : Nat, zk.p2 qa bs at0 bad zm k = zk.l2 qa bs at0 bad zm k
 | 0 => by kernel_rfl
 | k + 1 => by
  refine Eq.trans (b := zk.b2 bs at0 bad zm (zk.p2 qa bs at0 bad zm k)) (by kernel_rfl) ?_
  rw [zk.l2_eq qa bs at0 bad zm k]
  kernel_rfl
theorem zk.eq (qa : Nat) (bs : List Int) (at0 : Int) (bad : Bool) (zm : Int) : (denF qfc loopN qa Tryz.f121 [.raw, .raw] [.ptr 0 0, .d tQi zm] [.box [.d (.sl (.int .u8)) bs, .d tQi at0, .d .bool bad]] zk.k) = zk.f qa bs at0 bad zm := by
 refine Eq.trans (b := zk.b bs at0 bad zm (zk.p2 qa bs at0 bad zm qa)) (by kernel_rfl) ?_
 rw [zk.l2_eq qa bs at0 bad zm qa]
 kernel_rfl
def qa3 : Den.Sum := ⟨[.pb [.frz none [] 0 (.int .u8)], .raw], fun qK qm κ => match qK, qm with
 | [.ptr 0 0, .d (.int .i64) zm], [.box [.d (.sl (.int .u8)) bs, .d (.int .i64) at0, .d .bool bad]] => (match veil (zk.f BIG bs at0 bad zm) with | none => none | some y => κ [.d (.int .i64) y.1, .d .bool y.2.1] [.box [.d (.sl (.int .u8)) y.2.2.1, .d (.int .i64) y.2.2.2.1, .d .bool y.2.2.2.2]])
 | _, _ => none⟩
theorem qi0 : SumDet qa3 := zj fun _ _ _ _ => by
 unfold qa3
 simp only [veil_eq]
 split
 ·split <;> rfl
 ·rfl
theorem qjG : SumOk Tryz.prog 121 qa3 := by
 have hE : EnvOk Tryz.prog qfc := env_ok (l := [(52, Zf), (84, qaO), (133, qbu)]) th_ok qZ ⟨⟨qbc, qaK⟩, ⟨qc1, qci⟩, ⟨qkm, qjF⟩, trivial⟩ _
 refine sum_ok hE Tryz.func121 rfl (by kernel_rfl) qa3 [.raw, .raw] zk.k ?_
 intro R avs qm κ r h
 unfold qa3 at h
 simp only [veil_eq] at h
 split at h
 ·rename_i zm bs at0 bad
  split at h
  ·cases h
  ·rename_i y hy
   refine ⟨BIG, _, _, _, (zk.eq BIG bs at0 bad zm).trans hy, ?_, h⟩
   intro rs ros hk
   unfold zk.k at hk
   split at hk
   ·rw [← sj hk]; exact ⟨rfl, rfl⟩
   ·cases hk
 ·cases h
def qe8 : Env := ⟨th, gam [(121, qa3)], fun i => ⟨[], [], []⟩⟩
def qI.k (rs : List AV) (os : List Den.Obj) : Option (Int × Bool × (List Int) × Int × Bool) :=
 match rs, os with
 | [.d (.int .i64) r0], [.box [.ptr 1 0, .d .bool r1], .box [.d (.sl (.int .u8)) r2, .d (.int .i64) r3, .d .bool r4]] => some (r0, r1, r2, r3, r4)
 | _, _ => none
def qI.b (bs : List Int) (at0 : Int) (bad q9 : Bool) (limit : Int) : Option (Int × Bool × (List Int) × Int × Bool) :=
 (if q9 then some ((0 : Int), q9, bs, at0, bad) else (match (veil (zk.f BIG bs at0 bad limit)) with | none => none | some y0 => some (y0.1, (!y0.2.1), y0.2.2.1, y0.2.2.2.1, y0.2.2.2.2)))
def qI.f (qa : Nat) (bs : List Int) (at0 : Int) (bad q9 : Bool) (limit : Int) : Option (Int × Bool × (List Int) × Int × Bool) := qI.b bs at0 bad q9 limit
theorem qI.eq (qa : Nat) (bs : List Int) (at0 : Int) (bad q9 : Bool) (limit : Int) : (denF qe8 loopN qa Tryz.f98 [.raw] [.ptr 0 0, .d tQi limit] [.box [.ptr 1 0, .d .bool q9], .box [.d (.sl (.int .u8)) bs, .d tQi at0, .d .bool bad]] qI.k) = qI.f qa bs at0 bad q9 limit := by
 kernel_rfl
def zQ : Den.Sum := ⟨[.pb [.frz none [0] 0 (.int .u8)], .raw], fun qK qm κ => match qK, qm with
 | [.ptr 0 0, .d (.int .i64) limit], [.box [.ptr 1 0, .d .bool q9], .box [.d (.sl (.int .u8)) bs, .d (.int .i64) at0, .d .bool bad]] => (match veil (qI.f BIG bs at0 bad q9 limit) with | none => none | some y => κ [.d (.int .i64) y.1] [.box [.ptr 1 0, .d .bool y.2.1], .box [.d (.sl (.int .u8)) y.2.2.1, .d (.int .i64) y.2.2.2.1, .d .bool y.2.2.2.2]])
 | _, _ => none⟩
theorem qae : SumDet zQ := zj fun _ _ _ _ => by
 unfold zQ
 simp only [veil_eq]
 split
 ·split <;> rfl
 ·rfl
theorem qap : SumOk Tryz.prog 98 zQ := by
 have hE : EnvOk Tryz.prog qe8 := env_ok (l := [(121, qa3)]) th_ok qZ ⟨⟨qjG, qi0⟩, trivial⟩ _
 refine sum_ok hE Tryz.func98 rfl (by kernel_rfl) zQ [.raw] qI.k ?_
 intro R avs qm κ r h
 unfold zQ at h
 simp only [veil_eq] at h
 split at h
 ·rename_i limit q9 bs at0 bad
  split at h
  ·cases h
  ·rename_i y hy
   refine ⟨BIG, _, _, _, (qI.eq BIG bs at0 bad q9 limit).trans hy, ?_, h⟩
   intro rs ros hk
   unfold qI.k at hk
   split at hk
   ·rw [← sj hk]; exact ⟨rfl, rfl⟩
   ·cases hk
 ·cases h
def qeE : Env := ⟨th, gam [(76, QJ), (41, qah), (98, zQ), (52, Zf), (107, Qx), (84, qaO)], fun i => ⟨[], [], []⟩⟩
def zO.k (rs : List AV) (os : List Den.Obj) : Option (Int × Int × Int × Int × Int × Int × Int × Int × Int × Int × Bool × (List Int) × Int × Bool) :=
 match rs, os with
 | [.agg [.d (.int .i64) r0, .d (.int .i64) r1, .d (.int .i64) r2, .d (.int .i64) r3, .d (.int .i64) r4, .d (.int .i64) r5, .d (.int .i64) r6, .d (.int .i64) r7, .d (.int .i64) r8, .d (.int .i64) r9, .nilsl]], [.box [.ptr 1 0, .d .bool r10], .box [.d (.sl (.int .u8)) r11, .d (.int .i64) r12, .d .bool r13]] => some (r0, r1, r2, r3, r4, r5, r6, r7, r8, r9, r10, r11, r12, r13)
 | _, _ => none
end
end Go.Proofs.YtneiiplppcjjlaaGreatDoor
