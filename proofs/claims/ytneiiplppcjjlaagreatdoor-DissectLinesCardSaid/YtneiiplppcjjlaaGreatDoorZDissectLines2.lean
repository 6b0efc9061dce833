/- DissectLines, part 2: what the row leans on. -/
import Derived.Test.YtneiiplppcjjlaaGreatDoorZDissectLines1
set_option linter.unusedVariables false
set_option linter.unusedSimpArgs false
set_option maxRecDepth 100000
namespace Go.Proofs.YtneiiplppcjjlaaGreatDoor
open Go.Den
noncomputable section
theorem qpO : SumOk Tryz.prog 89 qfJ := by
 have hE : EnvOk Tryz.prog qle := env_ok (l := []) th_ok qZ trivial _
 refine sum_ok hE Tryz.func89 rfl (by kernel_rfl) qfJ [.dat (.sl (.int .u8)) false, .raw] Qa.k ?_
 intro R avs qn κ r h
 unfold qfJ at h
 simp only at h
 split at h
 ·rename_i l
  split at h
  case isFalse => cases h
  rename_i hl
  refine ⟨l.length + 3, _, _, _, (Qa.eq (l.length + 3) l).trans (Qa.pure l hl), ?_, h⟩
  intro rs ros hk
  unfold Qa.k at hk
  split at hk
  ·first | (cases hk; exact ⟨rfl, rfl⟩) | (rw [← Option.some.inj hk]; exact ⟨rfl, rfl⟩)
  ·cases hk
 ·cases h
theorem qoS : SumDet qfM := zj fun _ _ _ _ => by
 unfold qfM
 simp only
 split
 ·first | rfl | (split <;> rfl)
 ·rfl
theorem qpQ : SumOk Tryz.prog 61 qfM := by
 have hE : EnvOk Tryz.prog qiH := env_ok (l := [(76, QK), (87, qde), (88, qd8), (80, qaT), (41, qah), (90, qcS), (89, qfJ)]) th_ok qZ ⟨⟨qat, qad⟩, ⟨qkw, qjd⟩, ⟨qlX, qkh⟩, ⟨qdU, qdg⟩, ⟨qb0, qbl⟩, ⟨qmN, qmn⟩, ⟨qpO, qoQ⟩, trivial⟩ _
 refine sum_ok hE Tryz.func61 rfl (by kernel_rfl) qfM [.dat (.sl (.int .u8)) false, .raw] Qf.k ?_
 intro R avs qn κ r h
 unfold qfM at h
 simp only at h
 split at h
 ·rename_i qL qA qT mlo mhi qW qt qN qC qM qB
  split at h
  case isFalse => cases h
  rename_i hl
  refine ⟨qB.length + 1, _, _, _, (Qf.eq (qB.length + 1) qL qA qT mlo mhi qW qt qN qC qM qB).trans (Qf.pure qL qA qT mlo mhi qW qt qN qC qM qB hl), ?_, h⟩
  intro rs ros hk
  unfold Qf.k at hk
  split at hk
  ·first | (cases hk; exact ⟨rfl, rfl⟩) | (rw [← Option.some.inj hk]; exact ⟨rfl, rfl⟩)
  ·cases hk
 ·cases h
theorem qmc : ∀ (l : LR), (((l.flatMap qee).length : Nat) : Int) = qbJ l
 | [] => rfl
 | r :: l => by
  have h1 := qmc l
  have h2 := qpY r
  rw [List.flatMap_cons, List.length_append, qbJ]
  omega
theorem qlW {qk qx inc lo hi seq qo qP qD qb : Int} {qc : LR} (hv : q0 qk qx inc lo hi seq qo qP qD qb qc = true) :
  qd6 qk qx inc lo hi seq qo qP qD qb qc = ((qaj qk qx inc lo hi seq qo qc).length : Int) := by
 have h := qmc qc
 unfold qd6 qaj
 rw [hv, if_neg (by simp)]
 generalize qc.flatMap qee = L at h ⊢
 simp only [List.length_append, qlE]
 cases qy qk 0 <;> cases qy qk 1 <;> simp [qlE] <;> omega
theorem qpl (qk qx inc lo hi seq qo qP qD qb : Int) (qc : LR) : qbG qk qx inc lo hi seq qo qP qD qb qc = qk0 qk qx inc lo hi seq qo qP qD qb qc := by
 unfold qbG qk0
 cases hv : q0 qk qx inc lo hi seq qo qP qD qb qc
 ·rfl
 ·rw [qlW hv]
  generalize hn : ((qaj qk qx inc lo hi seq qo qc).length : Int) = n
  by_cases he : qD = 0
  ·subst he
   obtain ⟨_, _, _, _, _, _, _, _, _, _, _, hl, _⟩ := Ql hv
   obtain ⟨rfl, rfl⟩ := qkP hl
   by_cases h9 : qk = 9
   ·simp [h9]
   ·by_cases hs : n > 65499
    ·simp [h9, hs]
    ·simp [h9, hs]
     omega
  ·by_cases h9 : qk = 9
   ·simp [h9]
   ·simp [he, h9]
def inS (l : List Int) : Bool := inB l && decide (l.length < 1000000000)
def n7 (n : Int) : Bool := decide (1 ≤ n) && decide (n ≤ 7)
def Qc (l : LF) : Bool := decide (l.length < 1099511600) && l.all fun x => inS x.2
def qeF (x : (Int × List Int)) (n : Int) : Int × Bool := if ((x.2.length : Int) == n) = true then (Q6 x.2, true) else (0, false)
def zC (l : LF) (bad : Bool) (t n : Int) : Int × LF × Bool :=
 match l with
 | [] => (0, [], true)
 | x :: m => if bad || x.1 != t then (0, x :: m, true) else ((qeF x n).1, m, !(qeF x n).2)
def Zy (l : LF) (bad : Bool) (t : Int) : Int × Int × LF × Bool :=
 ((zW Qw (zC l bad t 1).1).1, (zW Qw (zC l bad t 1).1).2.1, (zC l bad t 1).2.1, (zC l bad t 1).2.2)
def Zf : Nat → List Int → Option LF
 | _, [] => some []
 | k + 1, t :: h :: w :: m => if (h * 256 + w) > (m.length : Int) then none else (Zf k (m.drop (h * 256 + w).toNat)).map fun r => (t, m.take (h * 256 + w).toNat) :: r
 | _, _ => none
def Qi (l : List Int) : LF × Int := match Zf l.length l with | some r => (r, 0) | none => ([], 2)
def qmO : Den.Sum := ⟨[.raw, .raw], fun qK qn κ => match qK, qn with
 | [.ptr 0 0, .d (.int .i64) n], [.box [.d (.sl (.int .u8)) l, .d (.int .i64) a, .d .bool bad]] => if zt l a = true then κ [.d (.sl (.int .u8)) (zf l n a bad).1] [.box [.d (.sl (.int .u8)) l, .d (.int .i64) (zf l n a bad).2.2.1, .d .bool (zf l n a bad).2.2.2]] else none
 | _, _ => none⟩
def qcB : Den.Sum := ⟨[.raw, .raw], fun qK qn κ => match qK, qn with
 | [.ptr 0 0, .d (.int .i64) n], [.box [.d (.sl (.int .u8)) l, .d (.int .i64) a, .d .bool bad]] => if zt l a = true then (match veil (some (zf l n a bad)) with | none => none | some y => κ [.d (.sl (.int .u8)) y.1] [.box [.d (.sl (.int .u8)) l, .d (.int .i64) y.2.2.1, .d .bool y.2.2.2]]) else none
 | _, _ => none⟩
def qlj : Den.Sum := ⟨[.dat (.sl (.int .u8)) false], fun qK qn κ => match qK, qn with
 | [.d (.sl (.int .u8)) l], [] => if inS l = true then κ [.d (.sl (.pair (.int .i64) (.sl (.int .u8)))) (Qi l).1, .d (.int .i64) (Qi l).2] [] else none
 | _, _ => none⟩
def qcT : Den.Sum := ⟨[.dat (.sl (.int .u8)) false], fun qK qn κ => match qK, qn with
 | [.d (.sl (.int .u8)) l], [] => if inS l = true then (match veil (some (Qi l)) with | none => none | some y => κ [.d (.sl (.pair (.int .i64) (.sl (.int .u8)))) y.1, .d (.int .i64) y.2] []) else none
 | _, _ => none⟩
def qeG : Den.Sum := ⟨[.dat (.pair tQi (.sl (.int .u8))) true, .raw], fun qK qn κ => match qK, qn with
 | [.agg [.d (.int .i64) t, .d (.sl (.int .u8)) d], .d (.int .i64) n], [] => if (inB d && n7 n) = true then κ [.d (.int .i64) (qeF (t, d) n).1, .d .bool (qeF (t, d) n).2] [] else none
 | _, _ => none⟩
def qmS : Den.Sum := ⟨[.raw, .raw, .raw], fun qK qn κ => match qK, qn with
 | [.ptr 0 0, .d (.int .i64) t, .d (.int .i64) n], [.box [.d (.sl (.pair (.int .i64) (.sl (.int .u8)))) l, .d .bool bad]] => if (Qc l && n7 n) = true then κ [.d (.int .i64) (zC l bad t n).1] [.box [.d (.sl (.pair (.int .i64) (.sl (.int .u8)))) (zC l bad t n).2.1, .d .bool (zC l bad t n).2.2]] else none
 | _, _ => none⟩
def qbI : Den.Sum := ⟨[.raw, .raw, .raw], fun qK qn κ => match qK, qn with
 | [.ptr 0 0, .d (.int .i64) t, .d (.int .i64) n], [.box [.d (.sl (.pair (.int .i64) (.sl (.int .u8)))) l, .d .bool bad]] => if (Qc l && n7 n) = true then (match veil (some (zC l bad t n)) with | none => none | some y => κ [.d (.int .i64) y.1] [.box [.d (.sl (.pair (.int .i64) (.sl (.int .u8)))) y.2.1, .d .bool y.2.2]]) else none
 | _, _ => none⟩
def qlr : Den.Sum := ⟨[.raw, .raw], fun qK qn κ => match qK, qn with
 | [.ptr 0 0, .d (.int .i64) t], [.box [.d (.sl (.pair (.int .i64) (.sl (.int .u8)))) l, .d .bool bad]] => if Qc l = true then κ [.agg [.d (.int .i64) (Zy l bad t).1, .d (.int .i64) (Zy l bad t).2.1]] [.box [.d (.sl (.pair (.int .i64) (.sl (.int .u8)))) (Zy l bad t).2.2.1, .d .bool (Zy l bad t).2.2.2]] else none
 | _, _ => none⟩
def qcV : Den.Sum := ⟨[.raw, .raw], fun qK qn κ => match qK, qn with
 | [.ptr 0 0, .d (.int .i64) t], [.box [.d (.sl (.pair (.int .i64) (.sl (.int .u8)))) l, .d .bool bad]] => if Qc l = true then (match veil (some (Zy l bad t)) with | none => none | some y => κ [.agg [.d (.int .i64) y.1, .d (.int .i64) y.2.1]] [.box [.d (.sl (.pair (.int .i64) (.sl (.int .u8)))) y.2.2.1, .d .bool y.2.2.2]]) else none
 | _, _ => none⟩
def qoh : Env := ⟨th, gam [(73, qea)], fun i => ⟨[], [], []⟩⟩
def qcI.k (rs : List AV) (os : List Den.Obj) : Option ((List Int) × (List Int) × Int × Bool) :=
 match rs, os with
 | [.d (.sl (.int .u8)) r0], [.box [.d (.sl (.int .u8)) r1, .d (.int .i64) r2, .d .bool r3]] => some (r0, r1, r2, r3)
 | _, _ => none
def qcI.b (n : Int) (l : List Int) (a : Int) (bad : Bool) : Option ((List Int) × (List Int) × Int × Bool) :=
 (if (zt l a) then (if (!(zf l n a bad).2.1) then some (([] : List Int), l, (zf l n a bad).2.2.1, (zf l n a bad).2.2.2) else (if (((0 : Int) ≤ ((((List.length (zf l n a bad).1)) : Nat) : Int)) ∧ ((((((List.length (zf l n a bad).1)) : Nat) : Int) ≤ ((((List.length (zf l n a bad).1)) : Nat) : Int)) ∧ (((((((List.length (zf l n a bad).1)) : Nat) : Int) * ((((1 : Nat)) : Nat) : Int)) ≤ (1099511627776 : Int)) ∧ (((((List.length (zf l n a bad).1)) : Nat) : Int) ≤ (1099511627776 : Int))))) then (if ((false = false) ∧ ((List.length (zf l n a bad).1) ≤ (List.length (List.replicate (Int.toNat ((((List.length (zf l n a bad).1)) : Nat) : Int)) (zeroI (Go.Den.Ty.int .u8)))))) then some (((zf l n a bad).1 ++ (List.drop (List.length (zf l n a bad).1) (List.replicate (Int.toNat ((((List.length (zf l n a bad).1)) : Nat) : Int)) (zeroI (Go.Den.Ty.int .u8))))), l, (zf l n a bad).2.2.1, (zf l n a bad).2.2.2) else none) else none)) else none)
def qcI.f (qa : Nat) (n : Int) (l : List Int) (a : Int) (bad : Bool) : Option ((List Int) × (List Int) × Int × Bool) := qcI.b n l a bad
theorem qcI.eq (qa : Nat) (n : Int) (l : List Int) (a : Int) (bad : Bool) : (denF qoh loopN qa Tryz.f53 [.dat (.sl (.int .u8)) false] [.ptr 0 0, .d tQi n] [.box [.d (.sl (.int .u8)) l, .d tQi a, .d .bool bad]] qcI.k) = qcI.f qa n l a bad := by
 kernel_rfl
def qlK : Env := ⟨th, gam [(51, qaS), (113, qed), (52, Zg), (53, qcB), (84, qaP)], fun i => if i = 3 then ⟨[4, 5], [(4, 86, (.pair tQi (.sl (.int .u8))))], []⟩ else ⟨[], [], []⟩⟩
def QO.k (rs : List AV) (os : List Den.Obj) : Option (LF × Int) :=
 match rs, os with
 | [.d (.sl (.pair (.int .i64) (.sl (.int .u8)))) r0, .d (.int .i64) r1], [] => some (r0, r1)
 | _, _ => none
def QO.s3 (l : List Int) (x0 : LF) (x1 : Int) (x2 : Bool) : St := ⟨[dD, dD, dD, dD, .row 64, .ptr 65 0, dD, dD, dD, dD, dD, dD, dD, dD, dD, dD, dD, dD, dD, dD, dD, dD, dD, dD, dD, dD, .dead], ofL [(64, .row 86 (.pair tQi (.sl (.int .u8))) x0 false), (65, .box [.d (.sl (.int .u8)) (l), .d tQi x1, .d .bool x2])], 0⟩
def QO.p3 (qa : Nat) (l : List Int) (k : Nat) := fun x0 x1 x2 => lp qlK qa Tryz.f91 [.dat (.sl (.pair tQi (.sl (.int .u8)))) false, .raw] 0 QO.k 3 [] k (QO.s3 l x0 x1 x2)
def QO.b3 (l : List Int) (A3 : LF → Int → Bool → Option (LF × Int)) (x0 : LF) (x1 : Int) (x2 : Bool) : Option (LF × Int) :=
 (if (zt l x1) then (if (decide ((ZZ l x1 x2) > (0 : Int))) then (if (zt l x1) then (match (veil (Option.some (qz l (1 : Int) x1 x2))) with | none => none | some y3 => (if (zt l y3.2.1) then (match (veil (Option.some (qz l (2 : Int) y3.2.1 y3.2.2))) with | none => none | some y4 => (if (zt l y4.2.1) then (match (veil (Option.some (zf l y4.1 y4.2.1 y4.2.2))) with | none => none | some y5 => (if y5.2.2.2 then some (([] : LF), (2 : Int)) else (if ((((List.length x0) + (List.length ((y3.1, y5.1) :: ([] : LF)))) * (32 : Nat)) ≤ lim) then A3 (x0 ++ ((y3.1, y5.1) :: ([] : LF))) y5.2.2.1 y5.2.2.2 else none))) else none)) else none)) else none) else some (x0, (0 : Int))) else none)
def QO.l3 (qa : Nat) (l : List Int) : Nat → LF → Int → Bool → Option (LF × Int)
 | 0, _, _, _ => none
 | k + 1, x0, x1, x2 => QO.b3 l (QO.l3 qa l k) x0 x1 x2
def QO.b (l : List Int) (E3 : LF → Int → Bool → Option (LF × Int)) : Option (LF × Int) :=
 (if (inB l) then E3 ([] : LF) 0 false else none)
def QO.f (qa : Nat) (l : List Int) : Option (LF × Int) := QO.b l (QO.l3 qa l qa)
theorem QO.l3_eq (qa : Nat) (l : List Int) : ∀ k : Nat, QO.p3 qa l k = QO.l3 qa l k
 | 0 => by kernel_rfl
 | k + 1 => by
  refine Eq.trans (b := QO.b3 l (QO.p3 qa l k)) (by kernel_rfl) ?_
  rw [QO.l3_eq qa l k]
  kernel_rfl
theorem QO.eq (qa : Nat) (l : List Int) : (denF qlK loopN qa Tryz.f91 [.dat (.sl (.pair tQi (.sl (.int .u8)))) false, .raw] [.d (.sl (.int .u8)) l] [] QO.k) = QO.f qa l := by
 refine Eq.trans (b := QO.b l (QO.p3 qa l qa)) (by kernel_rfl) ?_
 rw [QO.l3_eq qa l qa]
 kernel_rfl
def qof : Env := ⟨th, gam [(51, qaS), (52, qec), (86, qcX)], fun i => ⟨[], [], []⟩⟩
def Value.k (rs : List AV) (os : List Den.Obj) : Option (Int × Bool) :=
 match rs, os with
 | [.d (.int .i64) r0, .d .bool r1], [] => some (r0, r1)
 | _, _ => none
def Value.b (t : Int) (d : List Int) (n : Int) : Option (Int × Bool) :=
 (if (inB d) then (if (zt d 0) then (if (zt d (qz d n 0 false).2.1) then (if (!((!(qz d n 0 false).2.2) && ((ZZ d (qz d n 0 false).2.1 (qz d n 0 false).2.2) == (0 : Int)))) then some ((0 : Int), false) else some ((qz d n 0 false).1, true)) else none) else none) else none)
def Value.f (qa : Nat) (t : Int) (d : List Int) (n : Int) : Option (Int × Bool) := Value.b t d n
theorem Value.eq (qa : Nat) (t : Int) (d : List Int) (n : Int) : (denF qof loopN qa Tryz.f115 [.raw, .raw] [.agg [.d tQi t, .d (.sl (.int .u8)) d], .d tQi n] [] Value.k) = Value.f qa t d n := by
 kernel_rfl
def qqC : Env := ⟨th, gam [(115, qeG)], fun i => ⟨[], [], []⟩⟩
def qey.k (rs : List AV) (os : List Den.Obj) : Option (Int × LF × Bool) :=
 match rs, os with
 | [.d (.int .i64) r0], [.box [.d (.sl (.pair (.int .i64) (.sl (.int .u8)))) r1, .d .bool r2]] => some (r0, r1, r2)
 | _, _ => none
def qey.b (t n : Int) (l : LF) (bad : Bool) : Option (Int × LF × Bool) :=
 (if bad then some ((0 : Int), l, true) else (if (((((List.length l)) : Nat) : Int) == (0 : Int)) then some ((0 : Int), l, true) else (match (idx l (0 : Int)) with | none => none | some y0 => (if (y0.1 != t) then some ((0 : Int), l, true) else (match (idx l (0 : Int)) with | none => none | some y1 => (if ((inB y1.2) && (n7 n)) then (if (((0 : Int) ≤ (1 : Int)) ∧ ((1 : Int) ≤ ((((List.length l)) : Nat) : Int))) then some ((qeF (y1.1, y1.2) n).1, (List.drop (Int.toNat (1 : Int)) (List.take (List.length l) l)), (!(qeF (y1.1, y1.2) n).2)) else none) else none))))))
def qey.f (qa : Nat) (t n : Int) (l : LF) (bad : Bool) : Option (Int × LF × Bool) := qey.b t n l bad
theorem qey.eq (qa : Nat) (t n : Int) (l : LF) (bad : Bool) : (denF qqC loopN qa Tryz.f92 [.raw] [.ptr 0 0, .d tQi t, .d tQi n] [.box [.d (.sl (.pair tQi (.sl (.int .u8)))) l, .d .bool bad]] qey.k) = qey.f qa t n l bad := by
 kernel_rfl
def qoo : Env := ⟨th, gam [(92, qbI), (83, qdv)], fun i => ⟨[], [], []⟩⟩
def qcP.k (rs : List AV) (os : List Den.Obj) : Option (Int × Int × LF × Bool) :=
 match rs, os with
 | [.agg [.d (.int .i64) r0, .d (.int .i64) r1]], [.box [.d (.sl (.pair (.int .i64) (.sl (.int .u8)))) r2, .d .bool r3]] => some (r0, r1, r2, r3)
 | _, _ => none
def qcP.b (t : Int) (l : LF) (bad : Bool) : Option (Int × Int × LF × Bool) :=
 (if ((Qc l) && (n7 (1 : Int))) then (match (veil (Option.some (zC l bad t (1 : Int)))) with | none => none | some y0 => (match (veil (Option.some (zW Qw y0.1))) with | none => none | some y1 => some (y1.1, y1.2.1, y0.2.1, y0.2.2))) else none)
def qcP.f (qa : Nat) (t : Int) (l : LF) (bad : Bool) : Option (Int × Int × LF × Bool) := qcP.b t l bad
theorem qcP.eq (qa : Nat) (t : Int) (l : LF) (bad : Bool) : (denF qoo loopN qa Tryz.f94 [.dat (.pair tQi tQi) true] [.ptr 0 0, .d tQi t] [.box [.d (.sl (.pair tQi (.sl (.int .u8)))) l, .d .bool bad]] qcP.k) = qcP.f qa t l bad := by
 kernel_rfl
theorem qbL (l : List Int) : inS l = true ↔ inB l = true ∧ l.length < 1000000000 := by unfold inS; simp
theorem qsd (n : Int) : n7 n = true ↔ 1 ≤ n ∧ n ≤ 7 := by unfold n7; simp
theorem qaQ (l : LF) : Qc l = true ↔ l.length < 1099511600 ∧ ∀ x ∈ l, inS x.2 = true := by unfold Qc; simp [List.all_eq_true]
theorem qqK (l : List Int) (n a : Int) (bad : Bool) : (zf l n a bad).1.length ≤ l.length := by
 unfold zf
 split
 ·simp
 ·split
  ·simp
  ·unfold seg; simp; omega
theorem qpB (l : List Int) (n a : Int) (bad : Bool) (h : (zf l n a bad).2.1 = false) : (zf l n a bad).1 = [] := by
 unfold zf at h ⊢
 split
 ·rfl
 ·rename_i c
  rw [if_neg c] at h
  split
  ·rfl
  ·rename_i c2
   rw [if_neg c2] at h
   cases h
theorem qcI.pure (n : Int) (l : List Int) (a : Int) (bad : Bool) (hl : zt l a = true) : qcI.f 0 n l a bad = some ((zf l n a bad).1, l, (zf l n a bad).2.2.1, (zf l n a bad).2.2.2) := by
 unfold qcI.f qcI.b
 rw [if_pos hl]
 have h1 := qqK l n a bad
 obtain ⟨k1, k2, k3⟩ := (zN l a).1 hl
 have h2 := ((QY l).1 k1).1
 cases hs : (zf l n a bad).2.1
 ·rw [if_pos (by simp), qpB l n a bad hs]
 ·rw [if_neg (by simp), if_pos (by refine ⟨by omega, by omega, by omega, by omega⟩), if_pos (by simp)]
  simp
theorem Value.pure (t n : Int) (d : List Int) (hl : (inB d && n7 n) = true) : Value.f 0 t d n = some ((qeF (t, d) n).1, (qeF (t, d) n).2) := by
 rw [Bool.and_eq_true] at hl
 obtain ⟨hb, hn⟩ := hl
 obtain ⟨n1, n7⟩ := (qsd n).1 hn
 have h0 : zt d 0 = true := (zN d 0).2 ⟨hb, by omega, by omega⟩
 have h1 := QE d n 0 false h0
 unfold Value.f Value.b
 rw [if_pos hb, if_pos h0, if_pos h1]
 have hn' : (if (decide (n < 1) || decide (n > 7)) = true then (-1 : Int) else n) = n := if_neg (by simp; omega)
 unfold qeF
 by_cases c : n ≤ (d.length : Int)
 ·have hst : zf d n 0 false = (seg d 0 n, true, 0 + n, false) := by
   unfold zf
   rw [if_neg (by simp), if_neg (by simp; omega)]
  have hr : qz d n 0 false = (Q6 (seg d 0 n), 0 + n, false) := by
   unfold qz
   dsimp only
   rw [hn', hst]
   rfl
  rw [hr]
  by_cases c2 : (d.length : Int) = n
  ·have hseg : seg d 0 n = d := by
    unfold seg
    rw [show (0 : Int).toNat = 0 from rfl, List.drop_zero, List.take_of_length_le (by omega)]
   rw [hseg]
   simp [ZZ, c2]
  ·have c3 : ¬ ((d.length : Int) - (0 + n) = 0) := by omega
   simp [ZZ, c2]
   omega
 ·have hst : zf d n 0 false = ([], false, 0, true) := by
   unfold zf
   rw [if_neg (by simp), if_pos (by simp; omega)]
  have hr : qz d n 0 false = (0, 0, true) := by
   unfold qz
   dsimp only
   rw [hn', hst]
   rfl
  rw [hr]
  have c2 : ¬ ((d.length : Int) = n) := by omega
  simp [c2]
theorem qmy {α : Type} (x : α) (m : List α) : idx (x :: m) (0 : Int) = some x := rfl
theorem qey.pure (t n : Int) (l : LF) (bad : Bool) (hl : (Qc l && n7 n) = true) : qey.f 0 t n l bad = some ((zC l bad t n).1, (zC l bad t n).2.1, (zC l bad t n).2.2) := by
 rw [Bool.and_eq_true] at hl
 obtain ⟨hf, hn⟩ := hl
 obtain ⟨f1, f2⟩ := (qaQ l).1 hf
 unfold qey.f qey.b zC
 cases bad
 ·cases l with
  | nil => rfl
  | cons x m =>
   have hx : inB x.2 = true := ((qbL _).1 (f2 x (by simp))).1
   rw [if_neg (by simp), if_neg (by simp; omega), qmy]
   dsimp only
   by_cases c : x.1 = t
   ·rw [if_neg (by simpa using c), if_pos (by rw [hx, hn]; rfl), if_pos (by simp; omega), if_neg (by simp [c])]
    simp
   ·rw [if_pos (by simpa using c), if_pos (by simp [c])]
 ·rw [if_pos rfl]
  cases l <;> simp
theorem qcP.pure (t : Int) (l : LF) (bad : Bool) (hl : Qc l = true) : qcP.f 0 t l bad = some ((Zy l bad t).1, (Zy l bad t).2.1, (Zy l bad t).2.2.1, (Zy l bad t).2.2.2) := by
 unfold qcP.f qcP.b Zy
 simp only [veil_eq]
 rw [hl, if_pos (by rfl)]
theorem qkI (l : List Int) (n a : Int) (rest : List Int) (h1 : 1 ≤ n) (h7 : n ≤ 7) (h0 : 0 ≤ a) (hd : l.drop a.toNat = rest) (ha : a ≤ (l.length : Int)) (hr : (rest.length : Int) < n) : qz l n a false = (0, a, true) := by
 have hn' : (if (decide (n < 1) || decide (n > 7)) = true then (-1 : Int) else n) = n := if_neg (by simp; omega)
 have hlen : rest.length = l.length - a.toNat := by rw [← hd]; simp
 have hst : zf l n a false = ([], false, a, true) := by
  unfold zf
  rw [if_neg (by simp), if_pos (by simp; omega)]
 unfold qz
 dsimp only
 rw [hn', hst]
 rfl
theorem be2 (h w : Int) (h0 : 0 ≤ h) (h1 : h < 256) (w0 : 0 ≤ w) (w1 : w < 256) : be 2 (h * 256 + w) = [h, w] := by
 show be 1 ((h * 256 + w) / 256) ++ [(h * 256 + w) % 256] = [h, w]
 rw [show (h * 256 + w) / 256 = h from by omega, show (h * 256 + w) % 256 = w from by omega, be1 h h0 h1]
 rfl
theorem QO.loop (qa : Nat) (l : List Int) (hl : inS l = true) : ∀ (k m : Nat) (a : Int) (acc : LF), zt l a = true → l.length - a.toNat < k → l.length - a.toNat ≤ m → acc.length ≤ a.toNat →
  QO.l3 qa l k acc a false = (match Zf m (l.drop a.toNat) with | some r => some (acc ++ r, 0) | none => some ([], 2)) := by
 obtain ⟨hb, hlen⟩ := (qbL l).1 hl
 intro k
 induction k with
 | zero => intro m a acc h1 h2; omega
 | succ k ih =>
  intro m a acc h1 h2 h3 h4
  obtain ⟨k1, k2, k3⟩ := (zN l a).1 h1
  rw [QO.l3]
  unfold QO.b3
  simp only [veil_eq]
  rw [if_pos h1]
  generalize hd : l.drop a.toNat = rest
  have hrl : rest.length = l.length - a.toNat := by rw [← hd]; simp
  have hmem : ∀ c ∈ rest, 0 ≤ c ∧ c ≤ 255 := fun c hc => ((QY l).1 hb).2 c (List.mem_of_mem_drop (hd ▸ hc))
  cases rest with
  | nil =>
   simp at hrl
   rw [if_neg (by simp [ZZ]; omega)]
   cases m <;> simp [Zf]
  | cons t rest =>
   simp at hrl
   obtain ⟨m, rfl⟩ : ∃ m', m = m' + 1 := ⟨m - 1, by omega⟩
   have ht := hmem t (by simp)
   rw [if_pos (by simp [ZZ]; omega), if_pos h1]
   have hr1 := qbK l 1 a t rest h1 (by omega) (by omega) ht.1 (by simp; omega) (by rw [hd, n1, be1 t ht.1 (by omega)]; rfl)
   obtain ⟨r1, r2, r3⟩ := hr1
   rw [r1]
   dsimp only
   rw [if_pos r3]
   match rest, hrl, hmem, hd, r2 with
   | [], hrl, hmem, hd, r2 =>
    rw [qkI l 2 (a + 1) [] (by omega) (by omega) (by omega) r2 (by simp at hrl; omega) (by simp)]
    dsimp only
    rw [if_pos r3]
    simp [zf, Zf]
   | [h], hrl, hmem, hd, r2 =>
    rw [qkI l 2 (a + 1) [h] (by omega) (by omega) (by omega) r2 (by simp at hrl; omega) (by simp)]
    dsimp only
    rw [if_pos r3]
    simp [zf, Zf]
   | h :: w :: rest, hrl, hmem, hd, r2 =>
    have hh := hmem h (by simp)
    have hw := hmem w (by simp)
    simp at hrl
    obtain ⟨q1, q2, q3⟩ := qbK l 2 (a + 1) (h * 256 + w) rest r3 (by omega) (by omega) (by omega) (by simp; omega) (by rw [r2, n2, be2 h w hh.1 (by omega) hw.1 (by omega)]; rfl)
    rw [q1]
    dsimp only
    rw [if_pos q3]
    rw [Zf]
    have e3 : a + 1 + 2 = a + 3 := by omega
    rw [e3] at q2 q3 ⊢
    by_cases c : h * 256 + w > (rest.length : Int)
    ·have hst : zf l (h * 256 + w) (a + 3) false = ([], false, a + 3, true) := by
      unfold zf
      rw [if_neg (by simp), if_pos (by simp; omega)]
     rw [hst, if_pos c]
     rfl
    ·have hst : zf l (h * 256 + w) (a + 3) false = (seg l (a + 3) (h * 256 + w), true, a + 3 + (h * 256 + w), false) := by
      unfold zf
      rw [if_neg (by simp), if_neg (by simp; omega)]
     have hseg : seg l (a + 3) (h * 256 + w) = rest.take (h * 256 + w).toNat := by
      unfold seg
      rw [List.drop_take, show (a + 3 + (h * 256 + w)).toNat = (a + 3).toNat + (h * 256 + w).toNat from by omega, Nat.add_sub_cancel_left, q2]
     have hdr : l.drop (a + 3 + (h * 256 + w)).toNat = rest.drop (h * 256 + w).toNat := by
      rw [show (a + 3 + (h * 256 + w)).toNat = (a + 3).toNat + (h * 256 + w).toNat from by omega, ← List.drop_drop, q2]
     rw [hst, if_neg c]
     dsimp only
     rw [if_neg (by simp), if_pos (by simp [lim]; omega)]
     rw [ih m (a + 3 + (h * 256 + w)) _ ((zN _ _).2 ⟨hb, by omega, by omega⟩) (by omega) (by omega) (by simp; omega), hdr, hseg]
     cases Zf m (rest.drop (h * 256 + w).toNat) <;> simp
theorem QO.pure (l : List Int) (hl : inS l = true) : QO.f (l.length + 1) l = some ((Qi l).1, (Qi l).2) := by
 obtain ⟨hb, hlen⟩ := (qbL l).1 hl
 unfold QO.f QO.b
 rw [if_pos hb, QO.loop (l.length + 1) l hl (l.length + 1) l.length 0 [] ((zN _ _).2 ⟨hb, by omega, by omega⟩) (by simp) (by simp) (by simp)]
 unfold Qi
 rw [show (0 : Int).toNat = 0 from rfl, List.drop_zero]
 cases Zf l.length l <;> rfl
theorem qlY : SumOk Tryz.prog 53 qmO := by
 have hE : EnvOk Tryz.prog qoh := env_ok (l := [(73, qea)]) th_ok qZ ⟨⟨qlZ, qki⟩, trivial⟩ _
 refine sum_ok hE Tryz.func53 rfl (by kernel_rfl) qmO [.dat (.sl (.int .u8)) false] qcI.k ?_
 intro R avs qn κ r h
 unfold qmO at h
 simp only at h
 split at h
 ·rename_i n l a bad
  split at h
  case isFalse => cases h
  rename_i hl
  refine ⟨0, _, _, _, (qcI.eq (0) n l a bad).trans (qcI.pure n l a bad hl), ?_, h⟩
  intro rs ros hk
  unfold qcI.k at hk
  split at hk
  ·first | (cases hk; exact ⟨rfl, rfl⟩) | (rw [← Option.some.inj hk]; exact ⟨rfl, rfl⟩)
  ·cases hk
 ·cases h
theorem qgi : SumDet qcB := zj fun _ _ _ _ => by
 unfold qcB
 simp only [veil_eq]
 split
 ·first | rfl | (split <;> rfl)
 ·rfl
theorem qg9 : SumOk Tryz.prog 53 qcB := ⟨qlY.1, fun avs qn κ r hr => qlY.2 avs qn κ r (by
 unfold qcB at hr
 simp only [veil_eq] at hr
 split at hr
 ·exact hr
 ·cases hr)⟩
theorem qkj : SumOk Tryz.prog 91 qlj := by
 have hE : EnvOk Tryz.prog qlK := env_ok (l := [(51, qaS), (113, qed), (52, Zg), (53, qcB), (84, qaP)]) th_ok qZ ⟨⟨qdR, qdb⟩, ⟨ql1, qkp⟩, ⟨qbd, qaL⟩, ⟨qg9, qgi⟩, ⟨qcZ, qcj⟩, trivial⟩ _
 refine sum_ok hE Tryz.func91 rfl (by kernel_rfl) qlj [.dat (.sl (.pair tQi (.sl (.int .u8)))) false, .raw] QO.k ?_
 intro R avs qn κ r h
 unfold qlj at h
 simp only at h
 split at h
 ·rename_i l
  split at h
  case isFalse => cases h
  rename_i hl
  refine ⟨l.length + 1, _, _, _, (QO.eq (l.length + 1) l).trans (QO.pure l hl), ?_, h⟩
  intro rs ros hk
  unfold QO.k at hk
  split at hk
  ·first | (cases hk; exact ⟨rfl, rfl⟩) | (rw [← Option.some.inj hk]; exact ⟨rfl, rfl⟩)
  ·cases hk
 ·cases h
theorem qie : SumDet qcT := zj fun _ _ _ _ => by
 unfold qcT
 simp only [veil_eq]
 split
 ·first | rfl | (split <;> rfl)
 ·rfl
theorem qi8 : SumOk Tryz.prog 91 qcT := ⟨qkj.1, fun avs qn κ r hr => qkj.2 avs qn κ r (by
 unfold qcT at hr
 simp only [veil_eq] at hr
 split at hr
 ·exact hr
 ·cases hr)⟩
theorem qnA : SumDet qeG := zj fun _ _ _ _ => by
 unfold qeG
 simp only
 split
 ·first | rfl | (split <;> rfl)
 ·rfl
theorem qoD : SumOk Tryz.prog 115 qeG := by
 have hE : EnvOk Tryz.prog qof := env_ok (l := [(51, qaS), (52, qec), (86, qcX)]) th_ok qZ ⟨⟨qdR, qdb⟩, ⟨qf3, qkl⟩, ⟨qih, qhf⟩, trivial⟩ _
 refine sum_ok hE Tryz.func115 rfl (by kernel_rfl) qeG [.raw, .raw] Value.k ?_
 intro R avs qn κ r h
 unfold qeG at h
 simp only at h
 split at h
 ·rename_i t d n
  split at h
  case isFalse => cases h
  rename_i hl
  refine ⟨0, _, _, _, (Value.eq (0) t d n).trans (Value.pure t n d hl), ?_, h⟩
  intro rs ros hk
  unfold Value.k at hk
  split at hk
  ·first | (cases hk; exact ⟨rfl, rfl⟩) | (rw [← Option.some.inj hk]; exact ⟨rfl, rfl⟩)
  ·cases hk
 ·cases h
theorem ql2 : SumOk Tryz.prog 92 qmS := by
 have hE : EnvOk Tryz.prog qqC := env_ok (l := [(115, qeG)]) th_ok qZ ⟨⟨qoD, qnA⟩, trivial⟩ _
 refine sum_ok hE Tryz.func92 rfl (by kernel_rfl) qmS [.raw] qey.k ?_
 intro R avs qn κ r h
 unfold qmS at h
 simp only at h
 split at h
 ·rename_i t n l bad
  split at h
  case isFalse => cases h
  rename_i hl
  refine ⟨0, _, _, _, (qey.eq (0) t n l bad).trans (qey.pure t n l bad hl), ?_, h⟩
  intro rs ros hk
  unfold qey.k at hk
  split at hk
  ·first | (cases hk; exact ⟨rfl, rfl⟩) | (rw [← Option.some.inj hk]; exact ⟨rfl, rfl⟩)
  ·cases hk
 ·cases h
theorem qeV : SumDet qbI := zj fun _ _ _ _ => by
 unfold qbI
 simp only [veil_eq]
 split
 ·first | rfl | (split <;> rfl)
 ·rfl
theorem qfn : SumOk Tryz.prog 92 qbI := ⟨ql2.1, fun avs qn κ r hr => ql2.2 avs qn κ r (by
 unfold qbI at hr
 simp only [veil_eq] at hr
 split at hr
 ·exact hr
 ·cases hr)⟩
theorem qkr : SumOk Tryz.prog 94 qlr := by
 have hE : EnvOk Tryz.prog qoo := env_ok (l := [(92, qbI), (83, qdv)]) th_ok qZ ⟨⟨qfn, qeV⟩, ⟨qif, qha⟩, trivial⟩ _
 refine sum_ok hE Tryz.func94 rfl (by kernel_rfl) qlr [.dat (.pair tQi tQi) true] qcP.k ?_
 intro R avs qn κ r h
 unfold qlr at h
 simp only at h
 split at h
 ·rename_i t l bad
  split at h
  case isFalse => cases h
  rename_i hl
  refine ⟨0, _, _, _, (qcP.eq (0) t l bad).trans (qcP.pure t l bad hl), ?_, h⟩
  intro rs ros hk
  unfold qcP.k at hk
  split at hk
  ·first | (cases hk; exact ⟨rfl, rfl⟩) | (rw [← Option.some.inj hk]; exact ⟨rfl, rfl⟩)
  ·cases hk
 ·cases h
theorem qig : SumDet qcV := zj fun _ _ _ _ => by
 unfold qcV
 simp only [veil_eq]
 split
 ·first | rfl | (split <;> rfl)
 ·rfl
theorem qjc : SumOk Tryz.prog 94 qcV := ⟨qkr.1, fun avs qn κ r hr => qkr.2 avs qn κ r (by
 unfold qcV at hr
 simp only [veil_eq] at hr
 split at hr
 ·exact hr
 ·cases hr)⟩
def Q5 (b : List Int) : (Int × Int × Int × (Int × Int) × Bool × LF) × Bool :=
 let y := Qi b
 let y1 := zC y.1 (y.2 != 0) 1 2
 let y2 := zC y1.2.1 y1.2.2 2 4
 let y3 := zC y2.2.1 y2.2.2 3 1
 let y4 := Zy y3.2.1 y3.2.2 4
 ((y1.1, y2.1, y3.1 % 128, (y4.1, y4.2.1), decide (y3.1 ≥ 128), y4.2.2.1), !y4.2.2.2)
def Qz (qk p : Int) (l : LF) (bad : Bool) (t : Int) : Int × LF × Bool := if qy qk p then zC l bad t 2 else (0, l, bad)
def qmQ : Den.Sum := ⟨[.dat (.sl (.int .u8)) false], fun qK qn κ => match qK, qn with
 | [.d (.sl (.int .u8)) b], [] => if inS b = true then κ [.agg [.d (.int .i64) (Q5 b).1.1, .d (.int .i64) (Q5 b).1.2.1, .d (.int .i64) (Q5 b).1.2.2.1, .d (.int .i64) (Q5 b).1.2.2.2.1.1, .d (.int .i64) (Q5 b).1.2.2.2.1.2, .d .bool (Q5 b).1.2.2.2.2.1, .d (.sl (.pair (.int .i64) (.sl (.int .u8)))) (Q5 b).1.2.2.2.2.2], .d .bool (Q5 b).2] [] else none
 | _, _ => none⟩
def qfu : Den.Sum := ⟨[.dat (.sl (.int .u8)) false], fun qK qn κ => match qK, qn with
 | [.d (.sl (.int .u8)) b], [] => if inS b = true then (match veil (some (Q5 b)) with | none => none | some y => κ [.agg [.d (.int .i64) y.1.1, .d (.int .i64) y.1.2.1, .d (.int .i64) y.1.2.2.1, .d (.int .i64) y.1.2.2.2.1.1, .d (.int .i64) y.1.2.2.2.1.2, .d .bool y.1.2.2.2.2.1, .d (.sl (.pair (.int .i64) (.sl (.int .u8)))) y.1.2.2.2.2.2], .d .bool y.2] []) else none
 | _, _ => none⟩
def qqQ : Den.Sum := ⟨[.raw, .raw, .raw, .raw], fun qK qn κ => match qK, qn with
 | [.d (.int .i64) p, .d (.int .i64) t, .ptr 0 0, .ptr 1 0], [.box [.d (.int .i64) qk, .d (.int .i64) qx, .d (.int .i64) inc, .d (.int .i64) lo, .d (.int .i64) hi, .d (.int .i64) seq, .d (.int .i64) qo, .d (.int .i64) qP, .d (.int .i64) qD, .d (.int .i64) qb, .nilsl], .box [.ptr 2 0], .box [.d (.sl (.pair (.int .i64) (.sl (.int .u8)))) l, .d .bool bad]] => if Qc l = true then κ [.d (.int .i64) (Qz qk p l bad t).1] [.box [.d (.int .i64) qk, .d (.int .i64) qx, .d (.int .i64) inc, .d (.int .i64) lo, .d (.int .i64) hi, .d (.int .i64) seq, .d (.int .i64) qo, .d (.int .i64) qP, .d (.int .i64) qD, .d (.int .i64) qb, .nilsl], .box [.ptr 2 0], .box [.d (.sl (.pair (.int .i64) (.sl (.int .u8)))) (Qz qk p l bad t).2.1, .d .bool (Qz qk p l bad t).2.2]] else none
 | _, _ => none⟩
def qiO : Den.Sum := ⟨[.raw, .raw, .raw, .raw], fun qK qn κ => match qK, qn with
 | [.d (.int .i64) p, .d (.int .i64) t, .ptr 0 0, .ptr 1 0], [.box [.d (.int .i64) qk, .d (.int .i64) qx, .d (.int .i64) inc, .d (.int .i64) lo, .d (.int .i64) hi, .d (.int .i64) seq, .d (.int .i64) qo, .d (.int .i64) qP, .d (.int .i64) qD, .d (.int .i64) qb, .nilsl], .box [.ptr 2 0], .box [.d (.sl (.pair (.int .i64) (.sl (.int .u8)))) l, .d .bool bad]] => if Qc l = true then (match veil (some (Qz qk p l bad t)) with | none => none | some y => κ [.d (.int .i64) y.1] [.box [.d (.int .i64) qk, .d (.int .i64) qx, .d (.int .i64) inc, .d (.int .i64) lo, .d (.int .i64) hi, .d (.int .i64) seq, .d (.int .i64) qo, .d (.int .i64) qP, .d (.int .i64) qD, .d (.int .i64) qb, .nilsl], .box [.ptr 2 0], .box [.d (.sl (.pair (.int .i64) (.sl (.int .u8)))) y.2.1, .d .bool y.2.2]]) else none
 | _, _ => none⟩
def qqz : Env := ⟨th, gam [(91, qcT), (92, qbI), (94, qcV)], fun i => ⟨[], [], []⟩⟩
def qev.k (rs : List AV) (os : List Den.Obj) : Option (Int × Int × Int × Int × Int × Bool × LF × Bool) :=
 match rs, os with
 | [.agg [.d (.int .i64) r0, .d (.int .i64) r1, .d (.int .i64) r2, .d (.int .i64) r3, .d (.int .i64) r4, .d .bool r5, .d (.sl (.pair (.int .i64) (.sl (.int .u8)))) r6], .d .bool r7], [] => some (r0, r1, r2, r3, r4, r5, r6, r7)
 | _, _ => none
def qev.b (b : List Int) : Option (Int × Int × Int × Int × Int × Bool × LF × Bool) :=
 (if (inS b) then (match (veil (Option.some (Qi b))) with | none => none | some y0 => (if ((Qc y0.1) && (n7 (2 : Int))) then (match (veil (Option.some (zC y0.1 (y0.2 != (0 : Int)) (1 : Int) (2 : Int)))) with | none => none | some y1 => (if ((Qc y1.2.1) && (n7 (4 : Int))) then (match (veil (Option.some (zC y1.2.1 y1.2.2 (2 : Int) (4 : Int)))) with | none => none | some y2 => (if ((Qc y2.2.1) && (n7 (1 : Int))) then (match (veil (Option.some (zC y2.2.1 y2.2.2 (3 : Int) (1 : Int)))) with | none => none | some y3 => (if (Qc y3.2.1) then (match (veil (Option.some (Zy y3.2.1 y3.2.2 (4 : Int)))) with | none => none | some y4 => (if (((((List.length y4.2.2.1)) : Nat) : Int) == (0 : Int)) then some (y1.1, y2.1, (bits BinOp.andNot .i64 y3.1 (128 : Int)), y4.1, y4.2.1, (decide (y3.1 ≥ (128 : Int))), ([] : LF), (!y4.2.2.2)) else some (y1.1, y2.1, (bits BinOp.andNot .i64 y3.1 (128 : Int)), y4.1, y4.2.1, (decide (y3.1 ≥ (128 : Int))), y4.2.2.1, (!y4.2.2.2)))) else none)) else none)) else none)) else none)) else none)
def qev.f (qa : Nat) (b : List Int) : Option (Int × Int × Int × Int × Int × Bool × LF × Bool) := qev.b b
theorem qev.eq (qa : Nat) (b : List Int) : (denF qqz loopN qa Tryz.f95 [.dat tQr true, .raw] [.d (.sl (.int .u8)) b] [] qev.k) = qev.f qa b := by
 kernel_rfl
def qsj : Env := ⟨th, gam [(41, qah), (92, qbI)], fun i => ⟨[], [], []⟩⟩
def Tk.k (rs : List AV) (os : List Den.Obj) : Option (Int × Int × Int × Int × Int × Int × Int × Int × Int × Int × Int × LF × Bool) :=
 match rs, os with
 | [.d (.int .i64) r0], [.box [.d (.int .i64) r1, .d (.int .i64) r2, .d (.int .i64) r3, .d (.int .i64) r4, .d (.int .i64) r5, .d (.int .i64) r6, .d (.int .i64) r7, .d (.int .i64) r8, .d (.int .i64) r9, .d (.int .i64) r10, .nilsl], .box [.ptr 2 0], .box [.d (.sl (.pair (.int .i64) (.sl (.int .u8)))) r11, .d .bool r12]] => some (r0, r1, r2, r3, r4, r5, r6, r7, r8, r9, r10, r11, r12)
 | _, _ => none
def Tk.b (p t qk qx inc lo hi seq qo qP qD qb : Int) (l : LF) (bad : Bool) : Option (Int × Int × Int × Int × Int × Int × Int × Int × Int × Int × Int × LF × Bool) :=
 (if (!(qy qk p)) then some ((0 : Int), qk, qx, inc, lo, hi, seq, qo, qP, qD, qb, l, bad) else (if ((Qc l) && (n7 (2 : Int))) then (match (veil (Option.some (zC l bad t (2 : Int)))) with | none => none | some y0 => some (y0.1, qk, qx, inc, lo, hi, seq, qo, qP, qD, qb, y0.2.1, y0.2.2)) else none))
def Tk.f (qa : Nat) (p t qk qx inc lo hi seq qo qP qD qb : Int) (l : LF) (bad : Bool) : Option (Int × Int × Int × Int × Int × Int × Int × Int × Int × Int × Int × LF × Bool) := Tk.b p t qk qx inc lo hi seq qo qP qD qb l bad
theorem Tk.eq (qa : Nat) (p t qk qx inc lo hi seq qo qP qD qb : Int) (l : LF) (bad : Bool) : (denF qsj loopN qa Tryz.f93 [.raw] [.d tQi p, .d tQi t, .ptr 0 0, .ptr 1 0] [.box [.d tQi qk, .d tQi qx, .d tQi inc, .d tQi lo, .d tQi hi, .d tQi seq, .d tQi qo, .d tQi qP, .d tQi qD, .d tQi qb, .nilsl], .box [.ptr 2 0], .box [.d (.sl (.pair tQi (.sl (.int .u8)))) l, .d .bool bad]] Tk.k) = Tk.f qa p t qk qx inc lo hi seq qo qP qD qb l bad := by
 kernel_rfl
theorem qd5 : ∀ (k : Nat) (l : List Int) (r : LF), (∀ c ∈ l, 0 ≤ c ∧ c ≤ 255) → Zf k l = some r →
  r.flatMap Qj = l ∧ 3 * r.length ≤ l.length ∧ ∀ x ∈ r, (0 ≤ x.1 ∧ x.1 ≤ 255) ∧ x.2.length ≤ 65535 ∧ x.2.length ≤ l.length ∧ ∀ c ∈ x.2, 0 ≤ c ∧ c ≤ 255
 | k, [], r, hl, h => by
  have : r = [] := by cases k <;> simp [Zf] at h <;> exact h.symm ▸ rfl
  subst this
  simp
 | 0, t :: l, r, hl, h => by simp [Zf] at h
 | k + 1, [t], r, hl, h => by simp [Zf] at h
 | k + 1, [t, a], r, hl, h => by simp [Zf] at h
 | k + 1, t :: a :: w :: m, r, hl, h => by
  rw [Zf] at h
  have ht := hl t (by simp)
  have ha := hl a (by simp)
  have hw := hl w (by simp)
  split at h
  ·cases h
  ·rename_i c
   generalize hn : (a * 256 + w).toNat = n at h
   have hnn : (n : Int) = a * 256 + w := by omega
   cases hs : Zf k (m.drop n) with
   | none => rw [hs] at h; cases h
   | some q =>
    rw [hs] at h
    simp at h
    subst h
    obtain ⟨i1, i2, i3⟩ := qd5 k (m.drop n) q (fun c hc => hl c (by simp [List.mem_of_mem_drop hc])) hs
    have hlen : (m.take n).length = n := by rw [List.length_take]; omega
    refine ⟨?_, ?_, ?_⟩
    ·rw [List.flatMap_cons, i1]
     unfold Qj
     rw [hlen]
     have e1 : ((n / 256 : Nat) : Int) = a := by omega
     have e2 : ((n % 256 : Nat) : Int) = w := by omega
     simp only [e1, e2]
     simp
    ·simp at i2 ⊢; omega
    ·intro x hx
     rcases List.mem_cons.1 hx with rfl | hx
     ·refine ⟨ht, by rw [hlen]; omega, by rw [hlen]; simp; omega, fun c hc => hl c (by simp [List.mem_of_mem_take hc])⟩
     ·obtain ⟨j1, j2, j3, j4⟩ := i3 x hx
      refine ⟨j1, j2, ?_, j4⟩
      simp at j3 ⊢
      omega
theorem qdY {l : List Int} (h : inB l = true) : ∀ c ∈ l, 0 ≤ c ∧ c ≤ 255 := ((QY l).1 h).2
theorem qm6 {l : List Int} (h : ∀ c ∈ l, 0 ≤ c ∧ c ≤ 255) (hl : l.length < 1000000000) : inS l = true := (qbL l).2 ⟨(QY l).2 ⟨by omega, h⟩, hl⟩
theorem qd4 (b : List Int) (h : inS b = true) : Qc (Qi b).1 = true := by
 obtain ⟨hb, hl⟩ := (qbL b).1 h
 unfold Qi
 cases hs : Zf b.length b with
 | none => rfl
 | some r =>
  obtain ⟨i1, i2, i3⟩ := qd5 b.length b r (qdY hb) hs
  refine (qaQ _).2 ⟨by show r.length < _; omega, fun x hx => ?_⟩
  obtain ⟨j1, j2, j3, j4⟩ := i3 x hx
  exact qm6 j4 (by omega)
theorem QI {l : LF} (h : Qc l = true) (bad : Bool) (t n : Int) : Qc (zC l bad t n).2.1 = true := by
 unfold zC
 cases l with
 | nil => rfl
 | cons x m =>
  dsimp only
  split
  ·exact h
  ·obtain ⟨h1, h2⟩ := (qaQ _).1 h
   refine (qaQ _).2 ⟨?_, fun y hy => h2 y (by simp [hy])⟩
   simp at h1
   show m.length < _
   omega
theorem qia {l : LF} (h : Qc l = true) (bad : Bool) (t : Int) : Qc (Zy l bad t).2.2.1 = true := QI h bad t 1
theorem qlS {l : LF} (h : Qc l = true) (bad : Bool) (t : Int) : 0 ≤ (zC l bad t 1).1 ∧ (zC l bad t 1).1 ≤ 255 := by
 unfold zC
 cases l with
 | nil => simp
 | cons x m =>
  dsimp only
  split
  ·simp
  ·unfold qeF
   split
   ·rename_i c
    have hx := ((qbL _).1 (((qaQ _).1 h).2 x (by simp))).1
    have hb := qdY hx
    obtain ⟨a, v⟩ := x
    simp at c
    match v, c with
    | [c0], _ =>
     have := hb c0 (by simp)
     simp [Q6]
     omega
   ·simp
theorem qqt (v : Int) (h0 : 0 ≤ v) (h1 : v ≤ 255) : bits BinOp.andNot .i64 v 128 = v % 128 := by
 have key : ∀ i : Fin 256, bits BinOp.andNot .i64 ((i.val : Nat) : Int) 128 = ((i.val : Nat) : Int) % 128 := by decide +kernel
 have := key ⟨v.toNat, by omega⟩
 simp only [Int.toNat_of_nonneg h0] at this
 exact this
theorem qev.pure (b : List Int) (hl : inS b = true) : qev.f 0 b = some ((Q5 b).1.1, (Q5 b).1.2.1, (Q5 b).1.2.2.1, (Q5 b).1.2.2.2.1.1, (Q5 b).1.2.2.2.1.2, (Q5 b).1.2.2.2.2.1, (Q5 b).1.2.2.2.2.2, (Q5 b).2) := by
 unfold qev.f qev.b
 simp only [veil_eq]
 have h0 := qd4 b hl
 have h1 := QI h0 ((Qi b).2 != 0) 1 2
 unfold Q5
 dsimp only
 generalize zC (Qi b).1 ((Qi b).2 != 0) 1 2 = y1 at h1 ⊢
 have h2 := QI h1 y1.2.2 2 4
 generalize zC y1.2.1 y1.2.2 2 4 = y2 at h2 ⊢
 have h3 := QI h2 y2.2.2 3 1
 have h3b := qlS h2 y2.2.2 3
 generalize zC y2.2.1 y2.2.2 3 1 = y3 at h3 h3b ⊢
 generalize Zy y3.2.1 y3.2.2 4 = y4
 rw [hl, h0, h1, h2, h3, qqt _ h3b.1 h3b.2]
 have k2 : n7 2 = true := rfl
 have k4 : n7 4 = true := rfl
 have k1 : n7 1 = true := rfl
 rw [k2, k4, k1]
 simp only [Bool.and_self, if_true]
 split
 ·rename_i c
  have : y4.2.2.1 = [] := by simpa using c
  rw [this]
 ·rfl
theorem Tk.pure (p t qk qx inc lo hi seq qo qP qD qb : Int) (l : LF) (bad : Bool) (hl : Qc l = true) :
  Tk.f 0 p t qk qx inc lo hi seq qo qP qD qb l bad = some ((Qz qk p l bad t).1, qk, qx, inc, lo, hi, seq, qo, qP, qD, qb, (Qz qk p l bad t).2.1, (Qz qk p l bad t).2.2) := by
 unfold Tk.f Tk.b Qz
 simp only [veil_eq]
 have k2 : n7 2 = true := rfl
 rw [hl, k2]
 cases qy qk p <;> rfl
theorem ql0 : SumOk Tryz.prog 95 qmQ := by
 have hE : EnvOk Tryz.prog qqz := env_ok (l := [(91, qcT), (92, qbI), (94, qcV)]) th_ok qZ ⟨⟨qi8, qie⟩, ⟨qfn, qeV⟩, ⟨qjc, qig⟩, trivial⟩ _
 refine sum_ok hE Tryz.func95 rfl (by kernel_rfl) qmQ [.dat tQr true, .raw] qev.k ?_
 intro R avs qn κ r h
 unfold qmQ at h
 simp only at h
 split at h
 ·rename_i b
  split at h
  case isFalse => cases h
  rename_i hl
  refine ⟨0, _, _, _, (qev.eq (0) b).trans (qev.pure b hl), ?_, h⟩
  intro rs ros hk
  unfold qev.k at hk
  split at hk
  ·first | (cases hk; exact ⟨rfl, rfl⟩) | (rw [← Option.some.inj hk]; exact ⟨rfl, rfl⟩)
  ·cases hk
 ·cases h
theorem qnE : SumDet qfu := zj fun _ _ _ _ => by
 unfold qfu
 simp only [veil_eq]
 split
 ·first | rfl | (split <;> rfl)
 ·rfl
theorem qoM : SumOk Tryz.prog 95 qfu := ⟨ql0.1, fun avs qn κ r hr => ql0.2 avs qn κ r (by
 unfold qfu at hr
 simp only [veil_eq] at hr
 split at hr
 ·exact hr
 ·cases hr)⟩
theorem qnY : SumOk Tryz.prog 93 qqQ := by
 have hE : EnvOk Tryz.prog qsj := env_ok (l := [(41, qah), (92, qbI)]) th_ok qZ ⟨⟨qb0, qbl⟩, ⟨qfn, qeV⟩, trivial⟩ _
 refine sum_ok hE Tryz.func93 rfl (by kernel_rfl) qqQ [.raw] Tk.k ?_
 intro R avs qn κ r h
 unfold qqQ at h
 simp only at h
 split at h
 ·rename_i p t qk qx inc lo hi seq qo qP qD qb l bad
  split at h
  case isFalse => cases h
  rename_i hl
  refine ⟨0, _, _, _, (Tk.eq (0) p t qk qx inc lo hi seq qo qP qD qb l bad).trans (Tk.pure p t qk qx inc lo hi seq qo qP qD qb l bad hl), ?_, h⟩
  intro rs ros hk
  unfold Tk.k at hk
  split at hk
  ·first | (cases hk; exact ⟨rfl, rfl⟩) | (rw [← Option.some.inj hk]; exact ⟨rfl, rfl⟩)
  ·cases hk
 ·cases h
theorem qpI : SumDet qiO := zj fun _ _ _ _ => by
 unfold qiO
 simp only [veil_eq]
 split
 ·first | rfl | (split <;> rfl)
 ·rfl
theorem qqP : SumOk Tryz.prog 93 qiO := ⟨qnY.1, fun avs qn κ r hr => qnY.2 avs qn κ r (by
 unfold qiO at hr
 simp only [veil_eq] at hr
 split at hr
 ·exact hr
 ·cases hr)⟩
def qcu : LF → Option LR
 | [] => some []
 | x :: m => if !(Q5 x.2).2 || x.1 != 7 then none else (qcu m).map fun r => (Q5 x.2).1 :: r
def qhA (bad : Bool) (qk qx inc lo hi seq qo : Int) (qc : Option LR) : Int × Int × Int × Int × Int × Int × Int × LR × Int :=
 match qc with
 | none => (0, 0, 0, 0, 0, 0, 0, [], 4)
 | some r => if !bad && qbG qk qx inc lo hi seq qo 0 0 0 r then (qk, qx, inc, lo, hi, seq, qo, r, 0) else (0, 0, 0, 0, 0, 0, 0, [], 4)
def zT (b : List Int) : Int × Int × Int × Int × Int × Int × Int × LR × Int :=
 let y := Qi b
 let y1 := zC y.1 (y.2 != 0 || decide ((b.length : Int) > 65499)) 1 1
 let y2 := zC y1.2.1 y1.2.2 2 2
 let y3 := zC y2.2.1 y2.2.2 3 6
 let y4 := Zy y3.2.1 y3.2.2 4
 let y5 := Qz y1.1 0 y4.2.2.1 y4.2.2.2 5
 let y6 := Qz y1.1 1 y5.2.1 y5.2.2 6
 qhA y6.2.2 y1.1 y2.1 y3.1 y4.1 y4.2.1 y5.1 y6.1 (qcu y6.2.1)
def qmV : Den.Sum := ⟨[.dat (.sl (.int .u8)) false], fun qK qn κ => match qK, qn with
 | [.d (.sl (.int .u8)) b], [] => if inS b = true then κ [.agg [.d (.int .i64) (zT b).1, .d (.int .i64) (zT b).2.1, .d (.int .i64) (zT b).2.2.1, .d (.int .i64) (zT b).2.2.2.1, .d (.int .i64) (zT b).2.2.2.2.1, .d (.int .i64) (zT b).2.2.2.2.2.1, .d (.int .i64) (zT b).2.2.2.2.2.2.1, .d (.int .i64) 0, .d (.int .i64) 0, .d (.int .i64) 0, .d (.sl (.pair (.int .i64) (.pair (.int .i64) (.pair (.int .i64) (.pair (.pair (.int .i64) (.int .i64)) (.pair .bool (.sl (.pair (.int .i64) (.sl (.int .u8)))))))))) ((zT b).2.2.2.2.2.2.2.1)], .d (.int .i64) ((zT b).2.2.2.2.2.2.2.2)] [] else none
 | _, _ => none⟩
def qfw : Den.Sum := ⟨[.dat (.sl (.int .u8)) false], fun qK qn κ => match qK, qn with
 | [.d (.sl (.int .u8)) b], [] => if inS b = true then (match veil (some (zT b)) with | none => none | some y => κ [.agg [.d (.int .i64) y.1, .d (.int .i64) y.2.1, .d (.int .i64) y.2.2.1, .d (.int .i64) y.2.2.2.1, .d (.int .i64) y.2.2.2.2.1, .d (.int .i64) y.2.2.2.2.2.1, .d (.int .i64) y.2.2.2.2.2.2.1, .d (.int .i64) 0, .d (.int .i64) 0, .d (.int .i64) 0, .d (.sl (.pair (.int .i64) (.pair (.int .i64) (.pair (.int .i64) (.pair (.pair (.int .i64) (.int .i64)) (.pair .bool (.sl (.pair (.int .i64) (.sl (.int .u8)))))))))) (y.2.2.2.2.2.2.2.1)], .d (.int .i64) (y.2.2.2.2.2.2.2.2)] []) else none
 | _, _ => none⟩
def qiJ : Env := ⟨th, gam [(91, qcT), (93, qiO), (95, qfu), (87, qde), (92, qbI), (94, qcV)], fun i => if i = 11 then ⟨[2, 6, 7, 50, 51, 52], [(1458, 54, tQr)], []⟩ else ⟨[], [], []⟩⟩
def z6.k (rs : List AV) (os : List Den.Obj) : Option (Int × Int × Int × Int × Int × Int × Int × Int × Int × Int × LR × Int) :=
 match rs, os with
 | [.agg [.d (.int .i64) r0, .d (.int .i64) r1, .d (.int .i64) r2, .d (.int .i64) r3, .d (.int .i64) r4, .d (.int .i64) r5, .d (.int .i64) r6, .d (.int .i64) r7, .d (.int .i64) r8, .d (.int .i64) r9, .d (.sl (.pair (.int .i64) (.pair (.int .i64) (.pair (.int .i64) (.pair (.pair (.int .i64) (.int .i64)) (.pair .bool (.sl (.pair (.int .i64) (.sl (.int .u8)))))))))) r10], .d (.int .i64) r11], [] => some (r0, r1, r2, r3, r4, r5, r6, r7, r8, r9, r10, r11)
 | _, _ => none
def z6.s11 (b : List Int) (x7 : LF) (x8 x9 : Int) (x10 : LF) (x11 : Bool) (x12 x13 x14 x15 x16 x17 x18 : Int) (x19 : LR) : St := ⟨[.dead, .dead, .ptr 64 0, dD, dD, dD, .ptr 65 0, .ptr 67 0, dD, dD, dD, dD, dD, dD, dD, dD, dD, dD, dD, dD, dD, dD, dD, dD, dD, dD, dD, dD, dD, dD, dD, dD, dD, dD, dD, dD, dD, dD, dD, dD, dD, dD, dD, dD, dD, dD, dD, dD, dD, dD, .d (.sl (.pair tQi (.sl (.int .u8)))) x7, .d tQi x8, .d tQi x9, dD, dD, dD, dD, dD, dD, dD, dD, dD, dD, dD, dD, dD, dD, dD, dD, dD, dD, dD, dD, dD, dD, dD, dD, dD, dD, dD, dD, dD, dD, dD, dD, dD, dD, .dead], ofL [(64, .box [.d tQi (0), .d tQi (0), .d tQi (0), .d tQi (0), .d tQi (0), .d tQi (0), .d tQi (0), .d tQi (0), .d tQi (0), .d tQi (0), .nilsl]), (65, .box [.ptr 66 0]), (66, .box [.d (.sl (.pair tQi (.sl (.int .u8)))) x10, .d .bool x11]), (67, .box [.d tQi x12, .d tQi x13, .d tQi x14, .d tQi x15, .d tQi x16, .d tQi x17, .d tQi x18, .d tQi (0), .d tQi (0), .d tQi (0), .row 68]), (68, .row 54 tQr x19 false)], 0⟩
def z6.p11 (qa : Nat) (b : List Int) (k : Nat) := fun x7 x8 x9 x10 x11 x12 x13 x14 x15 x16 x17 x18 x19 => lp qiJ qa Tryz.f63 [.dat (.pair tQi (.pair tQi (.pair tQi (.pair (.pair tQi tQi) (.pair tQi (.pair tQi (.pair tQi (.pair tQi (.pair tQi (.sl tQr)))))))))) true, .raw] 0 z6.k 11 [] k (z6.s11 b x7 x8 x9 x10 x11 x12 x13 x14 x15 x16 x17 x18 x19)
def z6.b11 (b : List Int) (A11 : LF → Int → Int → LF → Bool → Int → Int → Int → Int → Int → Int → Int → LR → Option (Int × Int × Int × Int × Int × Int × Int × Int × Int × Int × LR × Int)) (x7 : LF) (x8 : Int) (x9 : Int) (x10 : LF) (x11 : Bool) (x12 : Int) (x13 : Int) (x14 : Int) (x15 : Int) (x16 : Int) (x17 : Int) (x18 : Int) (x19 : LR) : Option (Int × Int × Int × Int × Int × Int × Int × Int × Int × Int × LR × Int) :=
 (if (decide (x9 < x8)) then (match (idx x7 x9) with | none => none | some y20 => (if (inS y20.2) then (match (veil (Option.some (Q5 y20.2))) with | none => none | some y21 => (if (!y21.2) then some (0, 0, 0, 0, 0, 0, 0, 0, 0, 0, ([] : LR), (4 : Int)) else (if (y20.1 != (7 : Int)) then some (0, 0, 0, 0, 0, 0, 0, 0, 0, 0, ([] : LR), (4 : Int)) else (if ((((List.length x19) + (List.length ((y21.1.1, (y21.1.2.1, (y21.1.2.2.1, ((y21.1.2.2.2.1.1, y21.1.2.2.2.1.2), (y21.1.2.2.2.2.1, y21.1.2.2.2.2.2))))) :: ([] : LR)))) * (72 : Nat)) ≤ lim) then A11 x7 x8 (IntKind.wrap .i64 (x9 + (1 : Int))) x10 x11 x12 x13 x14 x15 x16 x17 x18 (x19 ++ ((y21.1.1, (y21.1.2.1, (y21.1.2.2.1, ((y21.1.2.2.2.1.1, y21.1.2.2.2.1.2), (y21.1.2.2.2.2.1, y21.1.2.2.2.2.2))))) :: ([] : LR))) else none)))) else none)) else (if x11 then some (0, 0, 0, 0, 0, 0, 0, 0, 0, 0, ([] : LR), (4 : Int)) else (if (q9 x19) then (if (!(qbG x12 x13 x14 x15 x16 x17 x18 0 0 0 x19)) then some (0, 0, 0, 0, 0, 0, 0, 0, 0, 0, ([] : LR), (4 : Int)) else some (x12, x13, x14, x15, x16, x17, x18, 0, 0, 0, x19, (0 : Int))) else none)))
def z6.l11 (qa : Nat) (b : List Int) : Nat → LF → Int → Int → LF → Bool → Int → Int → Int → Int → Int → Int → Int → LR → Option (Int × Int × Int × Int × Int × Int × Int × Int × Int × Int × LR × Int)
 | 0, _, _, _, _, _, _, _, _, _, _, _, _, _ => none
 | k + 1, x7, x8, x9, x10, x11, x12, x13, x14, x15, x16, x17, x18, x19 => z6.b11 b (z6.l11 qa b k) x7 x8 x9 x10 x11 x12 x13 x14 x15 x16 x17 x18 x19
def z6.b (b : List Int) (E11 : LF → Int → Int → LF → Bool → Int → Int → Int → Int → Int → Int → Int → LR → Option (Int × Int × Int × Int × Int × Int × Int × Int × Int × Int × LR × Int)) : Option (Int × Int × Int × Int × Int × Int × Int × Int × Int × Int × LR × Int) :=
 (if (inS b) then (match (veil (Option.some (Qi b))) with | none => none | some y0 => (if (y0.2 != (0 : Int)) then (if ((Qc y0.1) && (n7 (1 : Int))) then (match (veil (Option.some (zC y0.1 true (1 : Int) (1 : Int)))) with | none => none | some y1 => (if ((Qc y1.2.1) && (n7 (2 : Int))) then (match (veil (Option.some (zC y1.2.1 y1.2.2 (2 : Int) (2 : Int)))) with | none => none | some y2 => (if ((Qc y2.2.1) && (n7 (6 : Int))) then (match (veil (Option.some (zC y2.2.1 y2.2.2 (3 : Int) (6 : Int)))) with | none => none | some y3 => (if (Qc y3.2.1) then (match (veil (Option.some (Zy y3.2.1 y3.2.2 (4 : Int)))) with | none => none | some y4 => (if (Qc y4.2.2.1) then (match (veil (Option.some (Qz y1.1 (0 : Int) y4.2.2.1 y4.2.2.2 (5 : Int)))) with | none => none | some y5 => (if (Qc y5.2.1) then (match (veil (Option.some (Qz y1.1 (1 : Int) y5.2.1 y5.2.2 (6 : Int)))) with | none => none | some y6 => E11 y6.2.1 ((((List.length y6.2.1)) : Nat) : Int) (0 : Int) y6.2.1 y6.2.2 y1.1 y2.1 y3.1 y4.1 y4.2.1 y5.1 y6.1 ([] : LR)) else none)) else none)) else none)) else none)) else none)) else none) else (if ((Qc y0.1) && (n7 (1 : Int))) then (match (veil (Option.some (zC y0.1 (decide (((((List.length b)) : Nat) : Int) > (65499 : Int))) (1 : Int) (1 : Int)))) with | none => none | some y22 => (if ((Qc y22.2.1) && (n7 (2 : Int))) then (match (veil (Option.some (zC y22.2.1 y22.2.2 (2 : Int) (2 : Int)))) with | none => none | some y23 => (if ((Qc y23.2.1) && (n7 (6 : Int))) then (match (veil (Option.some (zC y23.2.1 y23.2.2 (3 : Int) (6 : Int)))) with | none => none | some y24 => (if (Qc y24.2.1) then (match (veil (Option.some (Zy y24.2.1 y24.2.2 (4 : Int)))) with | none => none | some y25 => (if (Qc y25.2.2.1) then (match (veil (Option.some (Qz y22.1 (0 : Int) y25.2.2.1 y25.2.2.2 (5 : Int)))) with | none => none | some y26 => (if (Qc y26.2.1) then (match (veil (Option.some (Qz y22.1 (1 : Int) y26.2.1 y26.2.2 (6 : Int)))) with | none => none | some y27 => E11 y27.2.1 ((((List.length y27.2.1)) : Nat) : Int) (0 : Int) y27.2.1 y27.2.2 y22.1 y23.1 y24.1 y25.1 y25.2.1 y26.1 y27.1 ([] : LR)) else none)) else none)) else none)) else none)) else none)) else none))) else none)
def z6.f (qa : Nat) (b : List Int) : Option (Int × Int × Int × Int × Int × Int × Int × Int × Int × Int × LR × Int) := z6.b b (z6.l11 qa b qa)
theorem z6.l11_eq (qa : Nat) (b : List Int) : ∀ k : Nat, z6.p11 qa b k = z6.l11 qa b k
 | 0 => by kernel_rfl
 | k + 1 => by
  refine Eq.trans (b := z6.b11 b (z6.p11 qa b k)) (by kernel_rfl) ?_
  rw [z6.l11_eq qa b k]
  kernel_rfl
theorem z6.eq (qa : Nat) (b : List Int) : (denF qiJ loopN qa Tryz.f63 [.dat (.pair tQi (.pair tQi (.pair tQi (.pair (.pair tQi tQi) (.pair tQi (.pair tQi (.pair tQi (.pair tQi (.pair tQi (.sl tQr)))))))))) true, .raw] [.d (.sl (.int .u8)) b] [] z6.k) = z6.f qa b := by
 refine Eq.trans (b := z6.b b (z6.p11 qa b qa)) (by kernel_rfl) ?_
 rw [z6.l11_eq qa b qa]
 kernel_rfl
def qsa (e : Int × Int × Int × Int × Int × Int × Int × LR × Int) : Int × Int × Int × Int × Int × Int × Int × Int × Int × Int × LR × Int :=
 (e.1, e.2.1, e.2.2.1, e.2.2.2.1, e.2.2.2.2.1, e.2.2.2.2.2.1, e.2.2.2.2.2.2.1, 0, 0, 0, e.2.2.2.2.2.2.2.1, e.2.2.2.2.2.2.2.2)
theorem qkX {l : LF} (h : Qc l = true) : zx l = true := by
 obtain ⟨h1, h2⟩ := (qaQ l).1 h
 refine (qaR l).2 ⟨by omega, fun x hx => ?_⟩
 have := ((qbL _).1 (h2 x hx)).2
 omega
theorem ql7 (b : List Int) (hl : inS b = true) : Qc (Q5 b).1.2.2.2.2.2 = true := by
 unfold Q5
 dsimp only
 exact qia (QI (QI (QI (qd4 b hl) _ _ _) _ _ _) _ _ _) _ _
theorem z6.loop (qa : Nat) (b : List Int) (fs fs' : LF) (bad : Bool) (qk qx inc lo hi seq qo : Int) (hf : Qc fs = true) : ∀ (k i : Nat) (acc : LR), i ≤ fs.length → fs.length - i < k → acc.length + (fs.length - i) < 2000000000 → (∀ r ∈ acc, zx r.2.2.2.2.2 = true) →
  z6.l11 qa b k fs (fs.length : Int) (i : Int) fs' bad qk qx inc lo hi seq qo acc = some (qsa (qhA bad qk qx inc lo hi seq qo ((qcu (fs.drop i)).map fun r => acc ++ r))) := by
 obtain ⟨hf1, hf2⟩ := (qaQ fs).1 hf
 intro k
 induction k with
 | zero => intro i acc h1 h2; omega
 | succ k ih =>
  intro i acc h1 h2 h3 h4
  rw [z6.l11]
  unfold z6.b11
  simp only [veil_eq]
  by_cases hi' : i < fs.length
  ·rw [if_pos (by simp; omega), Qn, List.getElem?_eq_getElem hi']
   dsimp only
   have hx := hf2 fs[i] (List.getElem_mem hi')
   rw [List.drop_eq_getElem_cons hi', qcu]
   generalize fs[i] = x at hx ⊢
   rw [if_pos hx]
   have hsm := qkX (ql7 x.2 hx)
   cases c1 : (Q5 x.2).2
   ·rw [if_pos (by simp), if_pos (by simp)]
    rfl
   ·by_cases c2 : x.1 = 7
    ·rw [if_neg (by simp), if_neg (by simpa using c2), if_pos (by simp [lim]; omega), if_neg (by simp [c2]), qX ((i : Int) + 1) (by omega) (by omega)]
     simp only [qlz]
     have := ih (i + 1) (acc ++ [(Q5 x.2).1]) (by omega) (by omega) (by simp; omega) (by
      intro r hr
      rcases List.mem_append.1 hr with hr | hr
      ·exact h4 r hr
      ·simp at hr; subst hr; exact hsm)
     rw [show ((i + 1 : Nat) : Int) = (i : Int) + 1 from by omega] at this
     rw [this]
     cases qcu (fs.drop (i + 1)) <;> simp
    ·rw [if_neg (by simp), if_pos (by simpa using c2), if_pos (by simp [c2])]
     rfl
  ·rw [if_neg (by simp; omega), List.drop_of_length_le (by omega)]
   have hs : q9 acc = true := (Zo acc).2 ⟨by omega, h4⟩
   cases bad
   ·rw [if_neg (by simp), hs, if_pos rfl]
    simp only [qcu, Option.map_some, List.append_nil, qhA, Bool.not_false, Bool.true_and]
    cases qbG qk qx inc lo hi seq qo 0 0 0 acc <;> rfl
   ·rfl
theorem qcA {l : LF} (h : Qc l = true) (qk p : Int) (bad : Bool) (t : Int) : Qc (Qz qk p l bad t).2.1 = true := by
 unfold Qz
 split
 ·exact QI h bad t 2
 ·exact h
theorem qck {l : LF} (bad : Bool) (t n : Int) : (zC l bad t n).2.1.length ≤ l.length := by
 unfold zC
 cases l with
 | nil => simp
 | cons x m => dsimp only; split <;> simp
theorem qfk {l : LF} (qk p : Int) (bad : Bool) (t : Int) : (Qz qk p l bad t).2.1.length ≤ l.length := by
 unfold Qz
 split
 ·exact qck bad t 2
 ·simp
theorem qpD (b : List Int) (h : inS b = true) : (Qi b).1.length ≤ b.length := by
 obtain ⟨hb, hl⟩ := (qbL b).1 h
 unfold Qi
 cases hs : Zf b.length b with
 | none => simp
 | some r =>
  have := (qd5 b.length b r (qdY hb) hs).2.1
  show r.length ≤ _
  omega
theorem z6.pure (b : List Int) (hl : inS b = true) : z6.f (b.length + 1) b = some (qsa (zT b)) := by
 have hbl := ((qbL b).1 hl).2
 unfold z6.f z6.b
 simp only [veil_eq]
 have h0 := qd4 b hl
 have g0 := qpD b hl
 rw [hl, if_pos rfl, h0]
 have k2 : n7 2 = true := rfl
 have k6 : n7 6 = true := rfl
 have k1 : n7 1 = true := rfl
 rw [k2, k6, k1]
 unfold zT
 dsimp only
 cases hy : ((Qi b).2 != 0)
 ·rw [if_neg (by simp), Bool.false_or]
  generalize decide ((b.length : Int) > 65499) = bad0
  have h1 := QI h0 bad0 1 1
  have g1 := @qck (Qi b).1 bad0 1 1
  generalize zC (Qi b).1 bad0 1 1 = y1 at h1 g1 ⊢
  have h2 := QI h1 y1.2.2 2 2
  have g2 := @qck y1.2.1 y1.2.2 2 2
  generalize zC y1.2.1 y1.2.2 2 2 = y2 at h2 g2 ⊢
  have h3 := QI h2 y2.2.2 3 6
  have g3 := @qck y2.2.1 y2.2.2 3 6
  generalize zC y2.2.1 y2.2.2 3 6 = y3 at h3 g3 ⊢
  have h4 := qia h3 y3.2.2 4
  have g4 : (Zy y3.2.1 y3.2.2 4).2.2.1.length ≤ _ := @qck y3.2.1 y3.2.2 4 1
  generalize Zy y3.2.1 y3.2.2 4 = y4 at h4 g4 ⊢
  have h5 := qcA h4 y1.1 0 y4.2.2.2 5
  have g5 := @qfk y4.2.2.1 y1.1 0 y4.2.2.2 5
  generalize Qz y1.1 0 y4.2.2.1 y4.2.2.2 5 = y5 at h5 g5 ⊢
  have h6 := qcA h5 y1.1 1 y5.2.2 6
  have g6 := @qfk y5.2.1 y1.1 1 y5.2.2 6
  generalize Qz y1.1 1 y5.2.1 y5.2.2 6 = y6 at h6 g6 ⊢
  have hlp := z6.loop (b.length + 1) b y6.2.1 y6.2.1 y6.2.2 y1.1 y2.1 y3.1 y4.1 y4.2.1 y5.1 y6.1 h6 (b.length + 1) 0 [] (by omega) (by omega) (by simp; omega) (by simp)
  rw [show ((0 : Nat) : Int) = 0 from rfl, List.drop_zero] at hlp
  simp only [Bool.and_true, if_true, h1, h2, h3, h4, h5, h6]
  rw [hlp]
  simp
 ·rw [if_pos rfl, Bool.true_or]
  have h1 := QI h0 true 1 1
  have g1 := @qck (Qi b).1 true 1 1
  generalize zC (Qi b).1 true 1 1 = y1 at h1 g1 ⊢
  have h2 := QI h1 y1.2.2 2 2
  have g2 := @qck y1.2.1 y1.2.2 2 2
  generalize zC y1.2.1 y1.2.2 2 2 = y2 at h2 g2 ⊢
  have h3 := QI h2 y2.2.2 3 6
  have g3 := @qck y2.2.1 y2.2.2 3 6
  generalize zC y2.2.1 y2.2.2 3 6 = y3 at h3 g3 ⊢
  have h4 := qia h3 y3.2.2 4
  have g4 : (Zy y3.2.1 y3.2.2 4).2.2.1.length ≤ _ := @qck y3.2.1 y3.2.2 4 1
  generalize Zy y3.2.1 y3.2.2 4 = y4 at h4 g4 ⊢
  have h5 := qcA h4 y1.1 0 y4.2.2.2 5
  have g5 := @qfk y4.2.2.1 y1.1 0 y4.2.2.2 5
  generalize Qz y1.1 0 y4.2.2.1 y4.2.2.2 5 = y5 at h5 g5 ⊢
  have h6 := qcA h5 y1.1 1 y5.2.2 6
  have g6 := @qfk y5.2.1 y1.1 1 y5.2.2 6
  generalize Qz y1.1 1 y5.2.1 y5.2.2 6 = y6 at h6 g6 ⊢
  have hlp := z6.loop (b.length + 1) b y6.2.1 y6.2.1 y6.2.2 y1.1 y2.1 y3.1 y4.1 y4.2.1 y5.1 y6.1 h6 (b.length + 1) 0 [] (by omega) (by omega) (by simp; omega) (by simp)
  rw [show ((0 : Nat) : Int) = 0 from rfl, List.drop_zero] at hlp
  simp only [Bool.and_true, if_true, h1, h2, h3, h4, h5, h6]
  rw [hlp]
  simp
theorem ql3 : SumOk Tryz.prog 63 qmV := by
 have hE : EnvOk Tryz.prog qiJ := env_ok (l := [(91, qcT), (93, qiO), (95, qfu), (87, qde), (92, qbI), (94, qcV)]) th_ok qZ ⟨⟨qi8, qie⟩, ⟨qqP, qpI⟩, ⟨qoM, qnE⟩, ⟨qkw, qjd⟩, ⟨qfn, qeV⟩, ⟨qjc, qig⟩, trivial⟩ _
 refine sum_ok hE Tryz.func63 rfl (by kernel_rfl) qmV [.dat (.pair tQi (.pair tQi (.pair tQi (.pair (.pair tQi tQi) (.pair tQi (.pair tQi (.pair tQi (.pair tQi (.pair tQi (.sl tQr)))))))))) true, .raw] z6.k ?_
 intro R avs qn κ r h
 unfold qmV at h
 simp only at h
 split at h
 ·rename_i b
  split at h
  case isFalse => cases h
  rename_i hl
  refine ⟨b.length + 1, _, _, _, (z6.eq (b.length + 1) b).trans (z6.pure b hl), ?_, h⟩
  intro rs ros hk
  unfold z6.k at hk
  split at hk
  ·first | (cases hk; exact ⟨rfl, rfl⟩) | (rw [← Option.some.inj hk]; exact ⟨rfl, rfl⟩)
  ·cases hk
 ·cases h
theorem qnH : SumDet qfw := zj fun _ _ _ _ => by
 unfold qfw
 simp only [veil_eq]
 split
 ·first | rfl | (split <;> rfl)
 ·rfl
theorem qoU : SumOk Tryz.prog 63 qfw := ⟨ql3.1, fun avs qn κ r hr => ql3.2 avs qn κ r (by
 unfold qfw at hr
 simp only [veil_eq] at hr
 split at hr
 ·exact hr
 ·cases hr)⟩
theorem qc6 {l : LF} (hf : Qc l = true) (bad : Bool) (t n : Int) (n1 : 1 ≤ n) (n7 : n ≤ 7) (h : (zC l bad t n).2.2 = false) :
  bad = false ∧ l.flatMap Qj = itB t n (zC l bad t n).1 ++ (zC l bad t n).2.1.flatMap Qj := by
 unfold zC at h ⊢
 cases l with
 | nil => cases h
 | cons x m =>
  dsimp only at h ⊢
  split at h
  ·cases h
  ·rename_i c
   rw [if_neg c]
   simp at c
   unfold qeF at h ⊢
   split at h
   ·rename_i c2
    rw [if_pos c2]
    simp at c2
    refine ⟨c.1, ?_⟩
    have hx := qdY ((qbL _).1 (((qaQ _).1 hf).2 x (by simp))).1
    have hb := qoc x.2 hx
    rw [List.flatMap_cons]
    unfold Qj itB
    rw [show n.toNat = x.2.length from by omega, hb, c.2]
    have e1 : ((x.2.length / 256 : Nat) : Int) = 0 := by omega
    have e2 : ((x.2.length % 256 : Nat) : Int) = n := by omega
    rw [e1, e2]
    try rfl
   ·cases h
theorem qlC {c : Int} (h : okS (zW Qw c).1 (zW Qw c).2.1 = true) : (zW Qw c).1 * 16 + (zW Qw c).2.1 = c := by
 have h2 : (zW Qw c).2.2 = true := by
  unfold Qw zW zW zW zW zW zW zW at h ⊢
  split
  ·rfl
  rename_i c1
  rw [if_neg c1] at h
  split
  ·rfl
  rename_i c2
  rw [if_neg c2] at h
  split
  ·rfl
  rename_i c3
  rw [if_neg c3] at h
  split
  ·rfl
  rename_i c4
  rw [if_neg c4] at h
  split
  ·rfl
  rename_i c5
  rw [if_neg c5] at h
  split
  ·rfl
  rename_i c6
  rw [if_neg c6] at h
  cases h
 have := ql9 h2
 rw [qeQ h] at this
 exact this
theorem qrN (b : List Int) (hl : inS b = true) (h : (Q5 b).2 = true) (hr : zA (Q5 b).1 = true) : Za (Q5 b).1 = b := by
 have f7 := (zH hr).2.2.2.2.2.2.1
 unfold Q5 at h f7 ⊢
 dsimp only at h f7 ⊢
 have h0 := qd4 b hl
 have h1 := QI h0 ((Qi b).2 != 0) 1 2
 have t1 := qc6 h0 ((Qi b).2 != 0) 1 2 (by omega) (by omega)
 generalize zC (Qi b).1 ((Qi b).2 != 0) 1 2 = y1 at *
 have h2 := QI h1 y1.2.2 2 4
 have t2 := qc6 h1 y1.2.2 2 4 (by omega) (by omega)
 generalize zC y1.2.1 y1.2.2 2 4 = y2 at *
 have h3 := QI h2 y2.2.2 3 1
 have h3b := qlS h2 y2.2.2 3
 have t3 := qc6 h2 y2.2.2 3 1 (by omega) (by omega)
 generalize zC y2.2.1 y2.2.2 3 1 = y3 at *
 have t4 := qc6 h3 y3.2.2 4 1 (by omega) (by omega)
 unfold Zy at h f7 ⊢
 dsimp only at h f7 ⊢
 have e4 := qlC f7
 generalize zC y3.2.1 y3.2.2 4 1 = y4 at *
 obtain ⟨q4, p4⟩ := t4 (by simpa using h)
 obtain ⟨q3, p3⟩ := t3 q4
 obtain ⟨q2, p2⟩ := t2 q3
 obtain ⟨q1, p1⟩ := t1 q2
 have hs : (Qi b).1.flatMap Qj = b := by
  unfold Qi at q1 ⊢
  cases hs : Zf b.length b with
  | none => rw [hs] at q1; simp at q1
  | some r => exact (qd5 b.length b r (qdY ((qbL b).1 hl).1) hs).1
 unfold Za qeq
 dsimp only
 rw [e4]
 have e3 : (if decide (y3.1 ≥ 128) = true then y3.1 % 128 + 128 else y3.1 % 128) = y3.1 := by
  split
  ·rename_i c; simp at c; omega
  ·rename_i c; simp at c; omega
 rw [e3]
 conv => rhs; rw [← hs, p1, p2, p3, p4]
theorem qmX : ∀ (fs : LF) (r : LR), Qc fs = true → qcu fs = some r → (∀ x ∈ r, zA x = true) → r.flatMap qee = fs.flatMap Qj ∧ ∀ x ∈ r, zx x.2.2.2.2.2 = true
 | [], r, hf, h, hr => by
  simp [qcu] at h
  subst h
  exact ⟨rfl, by simp⟩
 | x :: m, r, hf, h, hr => by
  rw [qcu] at h
  obtain ⟨f1, f2⟩ := (qaQ _).1 hf
  have hm : Qc m = true := (qaQ _).2 ⟨by simp at f1; omega, fun y hy => f2 y (by simp [hy])⟩
  split at h
  ·cases h
  ·rename_i c
   simp at c
   cases hs : qcu m with
   | none => rw [hs] at h; cases h
   | some q =>
    rw [hs] at h
    simp at h
    subst h
    obtain ⟨i1, i2⟩ := qmX m q hm hs (fun y hy => hr y (by simp [hy]))
    have hx := f2 x (by simp)
    have hrx := hr (Q5 x.2).1 (by simp)
    refine ⟨?_, ?_⟩
    ·rw [List.flatMap_cons, List.flatMap_cons, i1]
     unfold qee
     rw [qrN x.2 hx c.1 hrx, ← c.2]
    ·intro y hy
     rcases List.mem_cons.1 hy with rfl | hy
     ·exact qkX (ql7 x.2 hx)
     ·exact i2 y hy
theorem qlU {l : LF} (hf : Qc l = true) (qk p : Int) (bad : Bool) (t : Int) (h : (Qz qk p l bad t).2.2 = false) :
  bad = false ∧ l.flatMap Qj = (if qy qk p then itB t 2 (Qz qk p l bad t).1 else []) ++ (Qz qk p l bad t).2.1.flatMap Qj := by
 unfold Qz at h ⊢
 cases hc : qy qk p
 ·rw [hc] at h
  simp at h ⊢
  exact h
 ·rw [hc] at h
  simp at h ⊢
  exact qc6 hf bad t 2 (by omega) (by omega) h
theorem qse (l : List Int) (hl : inS l = true) (h : (zT l).2.2.2.2.2.2.2.2 = 0) :
  qbG (zT l).1 (zT l).2.1 (zT l).2.2.1 (zT l).2.2.2.1 (zT l).2.2.2.2.1 (zT l).2.2.2.2.2.1 (zT l).2.2.2.2.2.2.1 0 0 0 (zT l).2.2.2.2.2.2.2.1 = true ∧
  qaj (zT l).1 (zT l).2.1 (zT l).2.2.1 (zT l).2.2.2.1 (zT l).2.2.2.2.1 (zT l).2.2.2.2.2.1 (zT l).2.2.2.2.2.2.1 (zT l).2.2.2.2.2.2.2.1 = l ∧ q9 (zT l).2.2.2.2.2.2.2.1 = true := by
 unfold zT at h ⊢
 dsimp only at h ⊢
 have h0 := qd4 l hl
 generalize hb0 : ((Qi l).2 != 0 || decide ((l.length : Int) > 65499)) = bad0 at *
 have h1 := QI h0 bad0 1 1
 have t1 := qc6 h0 bad0 1 1 (by omega) (by omega)
 generalize zC (Qi l).1 bad0 1 1 = y1 at *
 have h2 := QI h1 y1.2.2 2 2
 have t2 := qc6 h1 y1.2.2 2 2 (by omega) (by omega)
 generalize zC y1.2.1 y1.2.2 2 2 = y2 at *
 have h3 := QI h2 y2.2.2 3 6
 have t3 := qc6 h2 y2.2.2 3 6 (by omega) (by omega)
 generalize zC y2.2.1 y2.2.2 3 6 = y3 at *
 have h4 := QI h3 y3.2.2 4 1
 have t4 := qc6 h3 y3.2.2 4 1 (by omega) (by omega)
 unfold Zy at h ⊢
 dsimp only at h ⊢
 generalize zC y3.2.1 y3.2.2 4 1 = y4 at *
 have h5 := qcA h4 y1.1 0 y4.2.2 5
 have t5 := qlU h4 y1.1 0 y4.2.2 5
 generalize Qz y1.1 0 y4.2.1 y4.2.2 5 = y5 at *
 have h6 := qcA h5 y1.1 1 y5.2.2 6
 have t6 := qlU h5 y1.1 1 y5.2.2 6
 generalize Qz y1.1 1 y5.2.1 y5.2.2 6 = y6 at *
 cases hr : qcu y6.2.1 with
 | none => rw [hr] at h; simp [qhA] at h
 | some r =>
  rw [hr] at h
  unfold qhA at h ⊢
  dsimp only at h ⊢
  split at h
  ·rename_i c
   rw [if_pos c]
   dsimp only
   simp at c
   obtain ⟨hv, w1, w2, w3, w4⟩ := qgu c.2
   obtain ⟨v1, v2, v3, v4, v5, v6, v7, v8, v9, v10, v11, _, v12, v13⟩ := Ql hv
   obtain ⟨i1, i2⟩ := qmX y6.2.1 r h6 hr v13
   obtain ⟨q6, p6⟩ := t6 c.1
   obtain ⟨q5, p5⟩ := t5 q6
   obtain ⟨q4, p4⟩ := t4 q5
   obtain ⟨q3, p3⟩ := t3 q4
   obtain ⟨q2, p2⟩ := t2 q3
   obtain ⟨q1, p1⟩ := t1 q2
   have hs : (Qi l).1.flatMap Qj = l := by
    rw [q1] at hb0
    unfold Qi at hb0 ⊢
    cases hs : Zf l.length l with
    | none => rw [hs] at hb0; simp at hb0
    | some r => exact (qd5 l.length l r (qdY ((qbL l).1 hl).1) hs).1
   refine ⟨c.2, ?_, (Zo r).2 ⟨by omega, i2⟩⟩
   unfold qaj
   rw [qlC v7, i1]
   conv => rhs; rw [← hs, p1, p2, p3, p4, p5, p6]
  ·cases h
def qiv : Env := ⟨th, gam [(76, QK)], fun i => ⟨[], [], []⟩⟩
def Zn.k (rs : List AV) (os : List Den.Obj) : Option Bool :=
 match rs, os with
 | [.d .bool r0], [] => some r0
 | _, _ => none
def Zn.b (qj qs qH qe qf qG qg qr ql qq : Int) (qh : LR) (gen : Int) : Option Bool :=
 (if (q9 qh) then (if (q0 qj qs qH qe qf qG qg qr ql qq qh) then (if (decide (gen ≥ (1 : Int))) then some ((decide (gen ≤ (3 : Int)))) else some (false)) else some (false)) else none)
def Zn.f (qa : Nat) (qj qs qH qe qf qG qg qr ql qq : Int) (qh : LR) (gen : Int) : Option Bool := Zn.b qj qs qH qe qf qG qg qr ql qq qh gen
theorem Zn.eq (qa : Nat) (qj qs qH qe qf qG qg qr ql qq : Int) (qh : LR) (gen : Int) : (denF qiv loopN qa Tryz.f102 [.raw] [.agg [.d tQi qj, .d tQi qs, .d tQi qH, .d tQi qe, .d tQi qf, .d tQi qG, .d tQi qg, .d tQi qr, .d tQi ql, .d tQi qq, .d (.sl tQr) qh], .d tQi gen] [] Zn.k) = Zn.f qa qj qs qH qe qf qG qg qr ql qq qh gen := by
 kernel_rfl
def qav : Den.Sum := ⟨[.dat (.pair tQi (.pair tQi (.pair tQi (.pair (.pair tQi tQi) (.pair tQi (.pair tQi (.pair tQi (.pair tQi (.pair tQi (.sl tQr)))))))))) true, .raw], fun qK qn κ => match qK, qn with
 | [.agg [.d (.int .i64) qj, .d (.int .i64) qs, .d (.int .i64) qH, .d (.int .i64) qe, .d (.int .i64) qf, .d (.int .i64) qG, .d (.int .i64) qg, .d (.int .i64) qr, .d (.int .i64) ql, .d (.int .i64) qq, .d (.sl (.pair (.int .i64) (.pair (.int .i64) (.pair (.int .i64) (.pair (.pair (.int .i64) (.int .i64)) (.pair .bool (.sl (.pair (.int .i64) (.sl (.int .u8)))))))))) qh], .d (.int .i64) gen], [] => (match veil (Zn.f BIG qj qs qH qe qf qG qg qr ql qq qh gen) with | none => none | some y => κ [.d .bool y] [])
 | _, _ => none⟩
theorem qfL : SumDet qav := zj fun _ _ _ _ => by
 unfold qav
 simp only [veil_eq]
 split
 ·split <;> rfl
 ·rfl
theorem qf9 : SumOk Tryz.prog 102 qav := by
 have hE : EnvOk Tryz.prog qiv := env_ok (l := [(76, QK)]) th_ok qZ ⟨⟨qat, qad⟩, trivial⟩ _
 refine sum_ok hE Tryz.func102 rfl (by kernel_rfl) qav [.raw] Zn.k ?_
 intro R avs qn κ r h
 unfold qav at h
 simp only [veil_eq] at h
 split at h
 ·rename_i qj qs qH qe qf qG qg qr ql qq qh gen
  split at h
  ·cases h
  ·rename_i y hy
   refine ⟨BIG, _, _, _, (Zn.eq BIG qj qs qH qe qf qG qg qr ql qq qh gen).trans hy, ?_, h⟩
   intro rs ros hk
   unfold Zn.k at hk
   split at hk
   ·rw [← sj hk]; exact ⟨rfl, rfl⟩
   ·cases hk
 ·cases h
def qk1 : Env := ⟨th, gam [], fun i => ⟨[], [], []⟩⟩
def qan.k (rs : List AV) (os : List Den.Obj) : Option Int :=
 match rs, os with
 | [.d (.int .i64) r0], [] => some r0
 | _, _ => none
def qan.b (gen : Int) : Option Int :=
 (if (gen == (1 : Int)) then some ((65535 : Int)) else (if (gen == (2 : Int)) then some ((veil (4294967295 : Int))) else some ((veil (281474976710655 : Int)))))
def qan.f (qa : Nat) (gen : Int) : Option Int := qan.b gen
theorem qan.eq (qa : Nat) (gen : Int) : (denF qk1 loopN qa Tryz.f103 [.raw] [.d tQi gen] [] qan.k) = qan.f qa gen := by
 kernel_rfl
def qcq : Den.Sum := ⟨[.raw], fun qK qn κ => match qK, qn with
 | [.d (.int .i64) gen], [] => (match veil (qan.f BIG gen) with | none => none | some y => κ [.d (.int .i64) y] [])
 | _, _ => none⟩
theorem qlu : SumDet qcq := zj fun _ _ _ _ => by
 unfold qcq
 simp only [veil_eq]
 split
 ·split <;> rfl
 ·rfl
theorem qms : SumOk Tryz.prog 103 qcq := by
 have hE : EnvOk Tryz.prog qk1 := env_ok (l := []) th_ok qZ trivial _
 refine sum_ok hE Tryz.func103 rfl (by kernel_rfl) qcq [.raw] qan.k ?_
 intro R avs qn κ r h
 unfold qcq at h
 simp only [veil_eq] at h
 split at h
 ·rename_i gen
  split at h
  ·cases h
  ·rename_i y hy
   refine ⟨BIG, _, _, _, (qan.eq BIG gen).trans hy, ?_, h⟩
   intro rs ros hk
   unfold qan.k at hk
   split at hk
   ·rw [← sj hk]; exact ⟨rfl, rfl⟩
   ·cases hk
 ·cases h
def qiw : Env := ⟨th, gam [], fun i => ⟨[], [], []⟩⟩
def zn.k (rs : List AV) (os : List Den.Obj) : Option (List Int) :=
 match rs, os with
 | [], [.box [.row 2], .gone, .row 155 (.int .i64) r0 false] => some r0
 | _, _ => none
def zn.b (is0 : Bool) (r0 : Int) (l : List Int) : Option (List Int) :=
 (if is0 then (if ((((List.length l) + (List.length (r0 :: ([] : List Int)))) * (8 : Nat)) ≤ lim) then some ((l ++ (r0 :: ([] : List Int)))) else none) else some (l))
def zn.f (qa : Nat) (is0 : Bool) (r0 : Int) (l : List Int) : Option (List Int) := zn.b is0 r0 l
theorem zn.eq (qa : Nat) (is0 : Bool) (r0 : Int) (l : List Int) : (denF qiw loopN qa Tryz.f104 [.pb [.own (some 0) [] 0 155 tQi true, .kill 1]] [.d .bool is0, .d tQi r0, .ptr 0 0] [.box [.row 1], .row 155 tQi l false] zn.k) = zn.f qa is0 r0 l := by
 kernel_rfl
def qbz : Den.Sum := ⟨[.raw, .raw, .pb [.own none [] 0 155 tQi false]], fun qK qn κ => match qK, qn with
 | [.d .bool is0, .d (.int .i64) r0, .ptr 0 0], [.box [.row 1], .row 155 (.int .i64) l false] => (match veil (zn.f BIG is0 r0 l) with | none => none | some y => κ [] [.box [.row 2], .gone, .row 155 (.int .i64) y false])
 | _, _ => none⟩
theorem qjJ : SumDet qbz := zj fun _ _ _ _ => by
 unfold qbz
 simp only [veil_eq]
 split
 ·split <;> rfl
 ·rfl
theorem qky : SumOk Tryz.prog 104 qbz := by
 have hE : EnvOk Tryz.prog qiw := env_ok (l := []) th_ok qZ trivial _
 refine sum_ok hE Tryz.func104 rfl (by kernel_rfl) qbz [.pb [.own (some 0) [] 0 155 tQi true, .kill 1]] zn.k ?_
 intro R avs qn κ r h
 unfold qbz at h
 simp only [veil_eq] at h
 split at h
 ·rename_i is0 r0 l
  split at h
  ·cases h
  ·rename_i y hy
   refine ⟨BIG, _, _, _, (zn.eq BIG is0 r0 l).trans hy, ?_, h⟩
   intro rs ros hk
   unfold zn.k at hk
   split at hk
   ·rw [← sj hk]; exact ⟨rfl, rfl⟩
   ·cases hk
 ·cases h
def qe3 : Env := ⟨th, gam [], fun i => ⟨[], [], []⟩⟩
def z7.k (rs : List AV) (os : List Den.Obj) : Option (List Int) :=
 match rs, os with
 | [.ptr 0 0], [.box [.row 2, .d .bool false], .gone, .row 5 (.int .u8) r0 false] => some r0
 | _, _ => none
def z7.b (l b : List Int) : Option (List Int) :=
 (if ((((List.length l) + (List.length b)) * (1 : Nat)) ≤ lim) then some ((l ++ b)) else none)
def z7.f (qa : Nat) (l b : List Int) : Option (List Int) := z7.b l b
theorem z7.eq (qa : Nat) (l b : List Int) : (denF qe3 loopN qa Tryz.f130 [.raw, .pb [.own (some 0) [] 0 5 (.int .u8) true, .kill 1]] [.ptr 0 0, .d (.sl (.int .u8)) b] [.box [.row 1, .d .bool false], .row 5 (.int .u8) l false] z7.k) = z7.f qa l b := by
 kernel_rfl
def QZ : Den.Sum := ⟨[.pb [.own none [] 0 5 (.int .u8) false], .dat (.sl (.int .u8)) false], fun qK qn κ => match qK, qn with
 | [.ptr 0 0, .d (.sl (.int .u8)) b], [.box [.row 1, .d .bool false], .row 5 (.int .u8) l false] => (match veil (z7.f BIG l b) with | none => none | some y => κ [.ptr 0 0] [.box [.row 2, .d .bool false], .gone, .row 5 (.int .u8) y false])
 | _, _ => none⟩
theorem qdw : SumDet QZ := zj fun _ _ _ _ => by
 unfold QZ
 simp only [veil_eq]
 split
 ·split <;> rfl
 ·rfl
theorem qdS : SumOk Tryz.prog 130 QZ := by
 have hE : EnvOk Tryz.prog qe3 := env_ok (l := []) th_ok qZ trivial _
 refine sum_ok hE Tryz.func130 rfl (by kernel_rfl) QZ [.raw, .pb [.own (some 0) [] 0 5 (.int .u8) true, .kill 1]] z7.k ?_
 intro R avs qn κ r h
 unfold QZ at h
 simp only [veil_eq] at h
 split at h
 ·rename_i b l
  split at h
  ·cases h
  ·rename_i y hy
   refine ⟨BIG, _, _, _, (z7.eq BIG l b).trans hy, ?_, h⟩
   intro rs ros hk
   unfold z7.k at hk
   split at hk
   ·rw [← sj hk]; exact ⟨rfl, rfl⟩
   ·cases hk
 ·cases h
def qgg : Env := ⟨th, gam [], fun i => if i = 2 then ⟨[0, 3], [(3, 5, (.int .u8))], []⟩ else ⟨[], [], []⟩⟩
def zB.k (rs : List AV) (os : List Den.Obj) : Option (List Int) :=
 match rs, os with
 | [.row 0], [.row 5 (.int .u8) r0 false] => some r0
 | _, _ => none
def zB.s2 (v x0 : Int) (x1 : (List Int)) : St := ⟨[.d (.int .u64) x0, .dead, .dead, .row 64, dD, dD, dD, dD, dD, dD, dD, dD, dD, dD, dD, dD, dD, dD, .dead], ofL [(64, .row 5 (.int .u8) x1 false)], 0⟩
def zB.p2 (qa : Nat) (v : Int) (k : Nat) := fun x0 x1 => lp qgg qa Tryz.f131 [.own 5 (.int .u8)] 0 zB.k 2 [] k (zB.s2 v x0 x1)
def zB.b2 (v : Int) (A2 : Int → (List Int) → Option (List Int)) (x0 : Int) (x1 : (List Int)) : Option (List Int) :=
 (if (decide (x0 ≥ (128 : Int))) then (if ((((List.length x1) + (List.length ((bits BinOp.or .u8 (IntKind.wrap .u8 x0) (128 : Int)) :: ([] : List Int)))) * (1 : Nat)) ≤ lim) then A2 (Int.fdiv x0 ((2 : Int) ^ (Min.min (Int.toNat (7 : Int)) (IntKind.bits .u64)))) (x1 ++ ((bits BinOp.or .u8 (IntKind.wrap .u8 x0) (128 : Int)) :: ([] : List Int))) else none) else (if ((((List.length x1) + (List.length ((IntKind.wrap .u8 x0) :: ([] : List Int)))) * (1 : Nat)) ≤ lim) then some ((x1 ++ ((IntKind.wrap .u8 x0) :: ([] : List Int)))) else none))
def zB.l2 (qa : Nat) (v : Int) : Nat → Int → (List Int) → Option (List Int)
 | 0, _, _ => none
 | k + 1, x0, x1 => zB.b2 v (zB.l2 qa v k) x0 x1
def zB.b (v : Int) (E2 : Int → (List Int) → Option (List Int)) : Option (List Int) :=
 E2 v ([] : List Int)
def zB.f (qa : Nat) (v : Int) : Option (List Int) := zB.b v (zB.l2 qa v qa)
theorem zB.l2_eq (qa : Nat) (v : Int) : ∀ k : Nat, zB.p2 qa v k = zB.l2 qa v k
 | 0 => by kernel_rfl
 | k + 1 => by
  refine Eq.trans (b := zB.b2 v (zB.p2 qa v k)) (by kernel_rfl) ?_
  rw [zB.l2_eq qa v k]
  kernel_rfl
theorem zB.eq (qa : Nat) (v : Int) : (denF qgg loopN qa Tryz.f131 [.own 5 (.int .u8)] [.d (.int .u64) v] [] zB.k) = zB.f qa v := by
 refine Eq.trans (b := zB.b v (zB.p2 qa v qa)) (by kernel_rfl) ?_
 rw [zB.l2_eq qa v qa]
 kernel_rfl
def qaJ : Den.Sum := ⟨[.raw], fun qK qn κ => match qK, qn with
 | [.d (.int .u64) v], [] => (match veil (zB.f BIG v) with | none => none | some y => κ [.row 0] [.row 5 (.int .u8) y false])
 | _, _ => none⟩
theorem qf1 : SumDet qaJ := zj fun _ _ _ _ => by
 unfold qaJ
 simp only [veil_eq]
 split
 ·split <;> rfl
 ·rfl
theorem qgH : SumOk Tryz.prog 131 qaJ := by
 have hE : EnvOk Tryz.prog qgg := env_ok (l := []) th_ok qZ trivial _
 refine sum_ok hE Tryz.func131 rfl (by kernel_rfl) qaJ [.own 5 (.int .u8)] zB.k ?_
 intro R avs qn κ r h
 unfold qaJ at h
 simp only [veil_eq] at h
 split at h
 ·rename_i v
  split at h
  ·cases h
  ·rename_i y hy
   refine ⟨BIG, _, _, _, (zB.eq BIG v).trans hy, ?_, h⟩
   intro rs ros hk
   unfold zB.k at hk
   split at hk
   ·rw [← sj hk]; exact ⟨rfl, rfl⟩
   ·cases hk
 ·cases h
def qh3 : Env := ⟨th, gam [], fun i => ⟨[], [], []⟩⟩
def ZK.k (rs : List AV) (os : List Den.Obj) : Option Int :=
 match rs, os with
 | [.d (.int .u64) r0], [] => some r0
 | _, _ => none
def ZK.b (n : Int) : Option Int :=
 some ((bits BinOp.xor .u64 (IntKind.wrap .u64 ((IntKind.wrap .u64 n) * ((2 : Int) ^ (Min.min (Int.toNat (1 : Int)) (IntKind.bits .u64))))) (IntKind.wrap .u64 (Int.fdiv n ((2 : Int) ^ (Min.min (Int.toNat (63 : Int)) (IntKind.bits .i64)))))))
def ZK.f (qa : Nat) (n : Int) : Option Int := ZK.b n
theorem ZK.eq (qa : Nat) (n : Int) : (denF qh3 loopN qa Tryz.f132 [.raw] [.d tQi n] [] ZK.k) = ZK.f qa n := by
 kernel_rfl
def qbt : Den.Sum := ⟨[.raw], fun qK qn κ => match qK, qn with
 | [.d (.int .i64) n], [] => (match veil (ZK.f BIG n) with | none => none | some y => κ [.d (.int .u64) y] [])
 | _, _ => none⟩
theorem qjx : SumDet qbt := zj fun _ _ _ _ => by
 unfold qbt
 simp only [veil_eq]
 split
 ·split <;> rfl
 ·rfl
theorem qke : SumOk Tryz.prog 132 qbt := by
 have hE : EnvOk Tryz.prog qh3 := env_ok (l := []) th_ok qZ trivial _
 refine sum_ok hE Tryz.func132 rfl (by kernel_rfl) qbt [.raw] ZK.k ?_
 intro R avs qn κ r h
 unfold qbt at h
 simp only [veil_eq] at h
 split at h
 ·rename_i n
  split at h
  ·cases h
  ·rename_i y hy
   refine ⟨BIG, _, _, _, (ZK.eq BIG n).trans hy, ?_, h⟩
   intro rs ros hk
   unfold ZK.k at hk
   split at hk
   ·rw [← sj hk]; exact ⟨rfl, rfl⟩
   ·cases hk
 ·cases h
def qhR : Env := ⟨th, gam [], fun i => ⟨[], [], []⟩⟩
def ZT.k (rs : List AV) (os : List Den.Obj) : Option (Bool × Int) :=
 match rs, os with
 | [.d .bool r0], [.box [.d (.int .i64) r1]] => some (r0, r1)
 | _, _ => none
def ZT.b (zb qR qw qu qv : Int) (qQ : Bool) (qO : LF) (id0 : Int) : Option (Bool × Int) :=
 some ((zb == id0), id0)
def ZT.f (qa : Nat) (zb qR qw qu qv : Int) (qQ : Bool) (qO : LF) (id0 : Int) : Option (Bool × Int) := ZT.b zb qR qw qu qv qQ qO id0
theorem ZT.eq (qa : Nat) (zb qR qw qu qv : Int) (qQ : Bool) (qO : LF) (id0 : Int) : (denF qhR loopN qa Tryz.f134 [.raw] [.agg [.d tQi zb, .d tQi qR, .d tQi qw, .d tQi qu, .d tQi qv, .d .bool qQ, .d (.sl (.pair tQi (.sl (.int .u8)))) qO], .ptr 0 0] [.box [.d tQi id0]] ZT.k) = ZT.f qa zb qR qw qu qv qQ qO id0 := by
 kernel_rfl
def qag : Den.Sum := ⟨[.dat tQr true, .raw], fun qK qn κ => match qK, qn with
 | [.agg [.d (.int .i64) zb, .d (.int .i64) qR, .d (.int .i64) qw, .d (.int .i64) qu, .d (.int .i64) qv, .d .bool qQ, .d (.sl (.pair (.int .i64) (.sl (.int .u8)))) qO], .ptr 0 0], [.box [.d (.int .i64) id0]] => (match veil (ZT.f BIG zb qR qw qu qv qQ qO id0) with | none => none | some y => κ [.d .bool y.1] [.box [.d (.int .i64) y.2]])
 | _, _ => none⟩
theorem qfh : SumDet qag := zj fun _ _ _ _ => by
 unfold qag
 simp only [veil_eq]
 split
 ·split <;> rfl
 ·rfl
theorem qfG : SumOk Tryz.prog 134 qag := by
 have hE : EnvOk Tryz.prog qhR := env_ok (l := []) th_ok qZ trivial _
 refine sum_ok hE Tryz.func134 rfl (by kernel_rfl) qag [.raw] ZT.k ?_
 intro R avs qn κ r h
 unfold qag at h
 simp only [veil_eq] at h
 split at h
 ·rename_i zb qR qw qu qv qQ qO id0
  split at h
  ·cases h
  ·rename_i y hy
   refine ⟨BIG, _, _, _, (ZT.eq BIG zb qR qw qu qv qQ qO id0).trans hy, ?_, h⟩
   intro rs ros hk
   unfold ZT.k at hk
   split at hk
   ·rw [← sj hk]; exact ⟨rfl, rfl⟩
   ·cases hk
 ·cases h
def qmi : Env := ⟨th, gam [], fun i => ⟨[], [], []⟩⟩
def qaZ.k (rs : List AV) (os : List Den.Obj) : Option (Int × (List Int)) :=
 match rs, os with
 | [.agg [.d (.int .i64) r0, .d (.sl (.int .u8)) r1]], [] => some (r0, r1)
 | _, _ => none
def qaZ.b (Zw : Int) (Qk : List Int) : Option (Int × (List Int)) :=
 (if (((0 : Int) ≤ ((((List.length Qk)) : Nat) : Int)) ∧ ((((((List.length Qk)) : Nat) : Int) ≤ ((((List.length Qk)) : Nat) : Int)) ∧ (((((((List.length Qk)) : Nat) : Int) * ((((1 : Nat)) : Nat) : Int)) ≤ (1099511627776 : Int)) ∧ (((((List.length Qk)) : Nat) : Int) ≤ (1099511627776 : Int))))) then (if ((false = false) ∧ ((List.length Qk) ≤ (List.length (List.replicate (Int.toNat ((((List.length Qk)) : Nat) : Int)) (zeroI (Go.Den.Ty.int .u8)))))) then some (Zw, (Qk ++ (List.drop (List.length Qk) (List.replicate (Int.toNat ((((List.length Qk)) : Nat) : Int)) (zeroI (Go.Den.Ty.int .u8)))))) else none) else none)
def qaZ.f (qa : Nat) (Zw : Int) (Qk : List Int) : Option (Int × (List Int)) := qaZ.b Zw Qk
theorem qaZ.eq (qa : Nat) (Zw : Int) (Qk : List Int) : (denF qmi loopN qa Tryz.f139 [.dat (.pair tQi (.sl (.int .u8))) true] [.agg [.d tQi Zw, .d (.sl (.int .u8)) Qk]] [] qaZ.k) = qaZ.f qa Zw Qk := by
 kernel_rfl
def qcY : Den.Sum := ⟨[.dat (.pair tQi (.sl (.int .u8))) true], fun qK qn κ => match qK, qn with
 | [.agg [.d (.int .i64) Zw, .d (.sl (.int .u8)) Qk]], [] => (match veil (qaZ.f BIG Zw Qk) with | none => none | some y => κ [.agg [.d (.int .i64) y.1, .d (.sl (.int .u8)) y.2]] [])
 | _, _ => none⟩
theorem qmw : SumDet qcY := zj fun _ _ _ _ => by
 unfold qcY
 simp only [veil_eq]
 split
 ·split <;> rfl
 ·rfl
theorem qmW : SumOk Tryz.prog 139 qcY := by
 have hE : EnvOk Tryz.prog qmi := env_ok (l := []) th_ok qZ trivial _
 refine sum_ok hE Tryz.func139 rfl (by kernel_rfl) qcY [.dat (.pair tQi (.sl (.int .u8))) true] qaZ.k ?_
 intro R avs qn κ r h
 unfold qcY at h
 simp only [veil_eq] at h
 split at h
 ·rename_i Zw Qk
  split at h
  ·cases h
  ·rename_i y hy
   refine ⟨BIG, _, _, _, (qaZ.eq BIG Zw Qk).trans hy, ?_, h⟩
   intro rs ros hk
   unfold qaZ.k at hk
   split at hk
   ·rw [← sj hk]; exact ⟨rfl, rfl⟩
   ·cases hk
 ·cases h
def qbB : Env := ⟨th, gam [(134, qag)], fun i => if i = 2 then ⟨[0, 1, 7, 8, 9], [], []⟩ else ⟨[], [], []⟩⟩
def qU.k (rs : List AV) (os : List Den.Obj) : Option (Int × Int) :=
 match rs, os with
 | [.d (.int .i64) r0], [.box [.d (.int .i64) r1]] => some (r0, r1)
 | _, _ => none
def qU.s2 (l : LR) (id0 x0 x1 x2 : Int) : St := ⟨[.d (.sl tQr) (l), .fn (.func 134) [] [.ptr 0 0], dD, dD, dD, dD, dD, .d (.sl tQr) (l), .d tQi x0, .d tQi x1, dD, dD, dD, dD, dD, dD, dD, dD, dD, dD, .dead], ofL [(0, .box [.d tQi x2])], 1⟩
def qU.p2 (qa : Nat) (l : LR) (id0 : Int) (k : Nat) := fun x0 x1 x2 => lp qbB qa Tryz.f116 [.raw] 1 qU.k 2 [] k (qU.s2 l id0 x0 x1 x2)
def qU.b2 (l : LR) (id0 : Int) (A2 : Int → Int → Int → Option (Int × Int)) (x0 : Int) (x1 : Int) (x2 : Int) : Option (Int × Int) :=
 (if (decide (x1 < x0)) then (match (idx l x1) with | none => none | some y3 => (match (veil (ZT.f BIG y3.1 y3.2.1 y3.2.2.1 y3.2.2.2.1.1 y3.2.2.2.1.2 y3.2.2.2.2.1 y3.2.2.2.2.2 x2)) with | none => none | some y4 => (if y4.1 then some (x1, y4.2) else A2 x0 (IntKind.wrap .i64 (x1 + (1 : Int))) y4.2))) else some (((((List.length l)) : Nat) : Int), x2))
def qU.l2 (qa : Nat) (l : LR) (id0 : Int) : Nat → Int → Int → Int → Option (Int × Int)
 | 0, _, _, _ => none
 | k + 1, x0, x1, x2 => qU.b2 l id0 (qU.l2 qa l id0 k) x0 x1 x2
def qU.b (l : LR) (id0 : Int) (E2 : Int → Int → Int → Option (Int × Int)) : Option (Int × Int) :=
 E2 ((((List.length l)) : Nat) : Int) (0 : Int) id0
def qU.f (qa : Nat) (l : LR) (id0 : Int) : Option (Int × Int) := qU.b l id0 (qU.l2 qa l id0 qa)
theorem qU.l2_eq (qa : Nat) (l : LR) (id0 : Int) : ∀ k : Nat, qU.p2 qa l id0 k = qU.l2 qa l id0 k
 | 0 => by kernel_rfl
 | k + 1 => by
  refine Eq.trans (b := qU.b2 l id0 (qU.p2 qa l id0 k)) (by kernel_rfl) ?_
  rw [qU.l2_eq qa l id0 k]
  kernel_rfl
theorem qU.eq (qa : Nat) (l : LR) (id0 : Int) : (denF qbB loopN qa Tryz.f116 [.raw] [.d (.sl tQr) l, .fn (.func 134) [] [.ptr 0 0]] [.box [.d tQi id0]] qU.k) = qU.f qa l id0 := by
 refine Eq.trans (b := qU.b l id0 (qU.p2 qa l id0 qa)) (by kernel_rfl) ?_
 rw [qU.l2_eq qa l id0 qa]
 kernel_rfl
def Q8 : Den.Sum := ⟨[.dat (.sl tQr) false, .raw], fun qK qn κ => match qK, qn with
 | [.d (.sl (.pair (.int .i64) (.pair (.int .i64) (.pair (.int .i64) (.pair (.pair (.int .i64) (.int .i64)) (.pair .bool (.sl (.pair (.int .i64) (.sl (.int .u8)))))))))) l, .fn (.func 134) [] [.ptr 0 0]], [.box [.d (.int .i64) id0]] => (match veil (qU.f BIG l id0) with | none => none | some y => κ [.d (.int .i64) y.1] [.box [.d (.int .i64) y.2]])
 | _, _ => none⟩
theorem qeK : SumDet Q8 := zj fun _ _ _ _ => by
 unfold Q8
 simp only [veil_eq]
 split
 ·split <;> rfl
 ·rfl
theorem qeZ : SumOk Tryz.prog 116 Q8 := by
 have hE : EnvOk Tryz.prog qbB := env_ok (l := [(134, qag)]) th_ok qZ ⟨⟨qfG, qfh⟩, trivial⟩ _
 refine sum_ok hE Tryz.func116 rfl (by kernel_rfl) Q8 [.raw] qU.k ?_
 intro R avs qn κ r h
 unfold Q8 at h
 simp only [veil_eq] at h
 split at h
 ·rename_i l id0
  split at h
  ·cases h
  ·rename_i y hy
   refine ⟨BIG, _, _, _, (qU.eq BIG l id0).trans hy, ?_, h⟩
   intro rs ros hk
   unfold qU.k at hk
   split at hk
   ·rw [← sj hk]; exact ⟨rfl, rfl⟩
   ·cases hk
 ·cases h
def qac : Den.Sum := ⟨[.dat (.sl tQr) false, .raw], fun qK qn κ => match qK, qn with
 | [.d (.sl (.pair (.int .i64) (.pair (.int .i64) (.pair (.int .i64) (.pair (.pair (.int .i64) (.int .i64)) (.pair .bool (.sl (.pair (.int .i64) (.sl (.int .u8)))))))))) l, .fn (.func 117) [] [.ptr 0 0]], [.box [.d (.int .i64) qi]] => qdQ.run [.d (.sl (.pair (.int .i64) (.pair (.int .i64) (.pair (.int .i64) (.pair (.pair (.int .i64) (.int .i64)) (.pair .bool (.sl (.pair (.int .i64) (.sl (.int .u8)))))))))) l, .fn (.func 117) [] [.ptr 0 0]] [.box [.d (.int .i64) qi]] κ
 | [.d (.sl (.pair (.int .i64) (.pair (.int .i64) (.pair (.int .i64) (.pair (.pair (.int .i64) (.int .i64)) (.pair .bool (.sl (.pair (.int .i64) (.sl (.int .u8)))))))))) l, .fn (.func 134) [] [.ptr 0 0]], [.box [.d (.int .i64) id0]] => Q8.run [.d (.sl (.pair (.int .i64) (.pair (.int .i64) (.pair (.int .i64) (.pair (.pair (.int .i64) (.int .i64)) (.pair .bool (.sl (.pair (.int .i64) (.sl (.int .u8)))))))))) l, .fn (.func 134) [] [.ptr 0 0]] [.box [.d (.int .i64) id0]] κ
 | _, _ => none⟩
theorem qfY : SumDet qac := zj fun _ _ R κ => by
 unfold qac
 simp only
 split
 ·exact qi7 _ _ R κ
 ·exact qeK _ _ R κ
 ·rfl
theorem qgj : SumOk Tryz.prog 116 qac := by
 refine ⟨qg8.1, ?_⟩
 intro R avs qn κ r h
 unfold qac at h
 simp only at h
 split at h
 ·exact qg8.2 _ _ κ r h
 ·exact qeZ.2 _ _ κ r h
 ·cases h
def qc3 : Env := ⟨th, gam [(130, QZ), (131, qaJ)], fun i => if i = 2 then ⟨[2, 6, 7, 8], [], [1001]⟩ else ⟨[], [], []⟩⟩
def qm.k (rs : List AV) (os : List Den.Obj) : Option (List Int) :=
 match rs, os with
 | [], [.box [.row 2, .d .bool false], .gone, .row 5 (.int .u8) r0 false] => some r0
 | _, _ => none
def qm.s2 (l lq : List Int) (x0 x1 : Int) (x2 : (List Int)) : St := ⟨[.dead, .dead, .ptr 65 0, dD, dD, dD, .d (.sl tQi) (lq), .d tQi x0, .d tQi x1, dD, dD, dD, dD, dD, dD, dD, dD, dD, .dead], ofL [(0, .box [.row 64, .d .bool (false)]), (1, .gone), (64, .row 5 (.int .u8) x2 false), (65, .box [.ptr 0 0])], 2⟩
def qm.p2 (qa : Nat) (l lq : List Int) (k : Nat) := fun x0 x1 x2 => lp qc3 qa Tryz.f119 [.pb [.own (some 0) [] 0 5 (.int .u8) true, .kill 1]] 2 qm.k 2 [] k (qm.s2 l lq x0 x1 x2)
def qm.b2 (l lq : List Int) (A2 : Int → Int → (List Int) → Option (List Int)) (x0 : Int) (x1 : Int) (x2 : (List Int)) : Option (List Int) :=
 (if (decide (x1 < x0)) then (match (idx lq x1) with | none => none | some y3 => (match (veil (zB.f BIG (IntKind.wrap .u64 y3))) with | none => none | some y4 => (match (veil (z7.f BIG x2 y4)) with | none => none | some y5 => A2 x0 (IntKind.wrap .i64 (x1 + (1 : Int))) y5))) else some (x2))
def qm.l2 (qa : Nat) (l lq : List Int) : Nat → Int → Int → (List Int) → Option (List Int)
 | 0, _, _, _ => none
 | k + 1, x0, x1, x2 => qm.b2 l lq (qm.l2 qa l lq k) x0 x1 x2
def qm.b (l lq : List Int) (E2 : Int → Int → (List Int) → Option (List Int)) : Option (List Int) :=
 E2 ((((List.length lq)) : Nat) : Int) (0 : Int) l
def qm.f (qa : Nat) (l lq : List Int) : Option (List Int) := qm.b l lq (qm.l2 qa l lq qa)
theorem qm.l2_eq (qa : Nat) (l lq : List Int) : ∀ k : Nat, qm.p2 qa l lq k = qm.l2 qa l lq k
 | 0 => by kernel_rfl
 | k + 1 => by
  refine Eq.trans (b := qm.b2 l lq (qm.p2 qa l lq k)) (by kernel_rfl) ?_
  rw [qm.l2_eq qa l lq k]
  kernel_rfl
theorem qm.eq (qa : Nat) (l lq : List Int) : (denF qc3 loopN qa Tryz.f119 [.pb [.own (some 0) [] 0 5 (.int .u8) true, .kill 1]] [.agg [.ptr 0 0], .d (.sl tQi) lq] [.box [.row 1, .d .bool false], .row 5 (.int .u8) l false] qm.k) = qm.f qa l lq := by
 refine Eq.trans (b := qm.b l lq (qm.p2 qa l lq qa)) (by kernel_rfl) ?_
 rw [qm.l2_eq qa l lq qa]
 kernel_rfl
def Q0 : Den.Sum := ⟨[.pb [.own none [0] 0 5 (.int .u8) false], .dat (.sl tQi) false], fun qK qn κ => match qK, qn with
 | [.agg [.ptr 0 0], .d (.sl (.int .i64)) lq], [.box [.row 1, .d .bool false], .row 5 (.int .u8) l false] => (match veil (qm.f BIG l lq) with | none => none | some y => κ [] [.box [.row 2, .d .bool false], .gone, .row 5 (.int .u8) y false])
 | _, _ => none⟩
theorem qdx : SumDet Q0 := zj fun _ _ _ _ => by
 unfold Q0
 simp only [veil_eq]
 split
 ·split <;> rfl
 ·rfl
theorem qdT : SumOk Tryz.prog 119 Q0 := by
 have hE : EnvOk Tryz.prog qc3 := env_ok (l := [(130, QZ), (131, qaJ)]) th_ok qZ ⟨⟨qdS, qdw⟩, ⟨qgH, qf1⟩, trivial⟩ _
 refine sum_ok hE Tryz.func119 rfl (by kernel_rfl) Q0 [.pb [.own (some 0) [] 0 5 (.int .u8) true, .kill 1]] qm.k ?_
 intro R avs qn κ r h
 unfold Q0 at h
 simp only [veil_eq] at h
 split at h
 ·rename_i lq l
  split at h
  ·cases h
  ·rename_i y hy
   refine ⟨BIG, _, _, _, (qm.eq BIG l lq).trans hy, ?_, h⟩
   intro rs ros hk
   unfold qm.k at hk
   split at hk
   ·rw [← sj hk]; exact ⟨rfl, rfl⟩
   ·cases hk
 ·cases h
def qhD : Env := ⟨th, gam [(139, qcY)], fun i => if i = 3 then ⟨[3, 6, 7, 8], [(3, 86, (.pair tQi (.sl (.int .u8))))], []⟩ else ⟨[], [], []⟩⟩
def zR.k (rs : List AV) (os : List Den.Obj) : Option LF :=
 match rs, os with
 | [.row 0], [.row 86 (.pair (.int .i64) (.sl (.int .u8))) r0 false] => some r0
 | _, _ => none
def zR.s3 (b : LF) (x0 x1 : Int) (x2 : LF) : St := ⟨[dD, dD, dD, .row 64, .dead, .dead, .d (.sl (.pair tQi (.sl (.int .u8)))) (b), .d tQi x0, .d tQi x1, dD, dD, dD, dD, dD, dD, dD, dD, dD, .dead], ofL [(64, .row 86 (.pair tQi (.sl (.int .u8))) x2 false)], 0⟩
def zR.p3 (qa : Nat) (b : LF) (k : Nat) := fun x0 x1 x2 => lp qhD qa Tryz.f137 [.own 86 (.pair tQi (.sl (.int .u8)))] 0 zR.k 3 [] k (zR.s3 b x0 x1 x2)
def zR.b3 (b : LF) (A3 : Int → Int → LF → Option LF) (x0 x1 : Int) (x2 : LF) : Option LF :=
 (if (decide (x1 < x0)) then (match (idx b x1) with | none => none | some y3 => (match (veil (qaZ.f BIG y3.1 y3.2)) with | none => none | some y4 => (if ((((List.length x2) + (List.length ((y4.1, y4.2) :: ([] : LF)))) * (32 : Nat)) ≤ lim) then A3 x0 (IntKind.wrap .i64 (x1 + (1 : Int))) (x2 ++ ((y4.1, y4.2) :: ([] : LF))) else none))) else some (x2))
def zR.l3 (qa : Nat) (b : LF) : Nat → Int → Int → LF → Option LF
 | 0, _, _, _ => none
 | k + 1, x0, x1, x2 => zR.b3 b (zR.l3 qa b k) x0 x1 x2
def zR.b (b : LF) (E3 : Int → Int → LF → Option LF) : Option LF :=
 E3 ((((List.length b)) : Nat) : Int) (0 : Int) ([] : LF)
def zR.f (qa : Nat) (b : LF) : Option LF := zR.b b (zR.l3 qa b qa)
theorem zR.l3_eq (qa : Nat) (b : LF) : ∀ k : Nat, zR.p3 qa b k = zR.l3 qa b k
 | 0 => by kernel_rfl
 | k + 1 => by
  refine Eq.trans (b := zR.b3 b (zR.p3 qa b k)) (by kernel_rfl) ?_
  rw [zR.l3_eq qa b k]
  kernel_rfl
theorem zR.eq (qa : Nat) (b : LF) : (denF qhD loopN qa Tryz.f137 [.own 86 (.pair tQi (.sl (.int .u8)))] [.d (.sl (.pair tQi (.sl (.int .u8)))) b] [] zR.k) = zR.f qa b := by
 refine Eq.trans (b := zR.b b (zR.p3 qa b qa)) (by kernel_rfl) ?_
 rw [zR.l3_eq qa b qa]
 kernel_rfl
def qct : Den.Sum := ⟨[.dat (.sl (.pair tQi (.sl (.int .u8)))) false], fun qK qn κ => match qK, qn with
 | [.d (.sl (.pair (.int .i64) (.sl (.int .u8)))) b], [] => (match veil (zR.f BIG b) with | none => none | some y => κ [.row 0] [.row 86 (.pair (.int .i64) (.sl (.int .u8))) y false])
 | _, _ => none⟩
theorem qly : SumDet qct := zj fun _ _ _ _ => by
 unfold qct
 simp only [veil_eq]
 split
 ·split <;> rfl
 ·rfl
theorem qmx : SumOk Tryz.prog 137 qct := by
 have hE : EnvOk Tryz.prog qhD := env_ok (l := [(139, qcY)]) th_ok qZ ⟨⟨qmW, qmw⟩, trivial⟩ _
 refine sum_ok hE Tryz.func137 rfl (by kernel_rfl) qct [.own 86 (.pair tQi (.sl (.int .u8)))] zR.k ?_
 intro R avs qn κ r h
 unfold qct at h
 simp only [veil_eq] at h
 split at h
 ·rename_i b
  split at h
  ·cases h
  ·rename_i y hy
   refine ⟨BIG, _, _, _, (zR.eq BIG b).trans hy, ?_, h⟩
   intro rs ros hk
   unfold zR.k at hk
   split at hk
   ·rw [← sj hk]; exact ⟨rfl, rfl⟩
   ·cases hk
 ·cases h
def qjj : Env := ⟨th, gam [(137, qct)], fun i => ⟨[], [], []⟩⟩
def Z6.k (rs : List AV) (os : List Den.Obj) : Option (Int × Int × Int × Int × Int × Bool × LF) :=
 match rs, os with
 | [.agg [.d (.int .i64) r0, .d (.int .i64) r1, .d (.int .i64) r2, .d (.int .i64) r3, .d (.int .i64) r4, .d .bool r5, .d (.sl (.pair (.int .i64) (.sl (.int .u8)))) r6]], [] => some (r0, r1, r2, r3, r4, r5, r6)
 | _, _ => none
def Z6.b (zb qR qw qu qv : Int) (qQ : Bool) (qO : LF) : Option (Int × Int × Int × Int × Int × Bool × LF) :=
 (match (veil (zR.f BIG qO)) with | none => none | some y0 => some (zb, qR, qw, qu, qv, qQ, y0))
def Z6.f (qa : Nat) (zb qR qw qu qv : Int) (qQ : Bool) (qO : LF) : Option (Int × Int × Int × Int × Int × Bool × LF) := Z6.b zb qR qw qu qv qQ qO
theorem Z6.eq (qa : Nat) (zb qR qw qu qv : Int) (qQ : Bool) (qO : LF) : (denF qjj loopN qa Tryz.f135 [.dat tQr true] [.agg [.d tQi zb, .d tQi qR, .d tQi qw, .d tQi qu, .d tQi qv, .d .bool qQ, .d (.sl (.pair tQi (.sl (.int .u8)))) qO]] [] Z6.k) = Z6.f qa zb qR qw qu qv qQ qO := by
 kernel_rfl
def qbZ : Den.Sum := ⟨[.dat tQr true], fun qK qn κ => match qK, qn with
 | [.agg [.d (.int .i64) zb, .d (.int .i64) qR, .d (.int .i64) qw, .d (.int .i64) qu, .d (.int .i64) qv, .d .bool qQ, .d (.sl (.pair (.int .i64) (.sl (.int .u8)))) qO]], [] => (match veil (Z6.f BIG zb qR qw qu qv qQ qO) with | none => none | some y => κ [.agg [.d (.int .i64) y.1, .d (.int .i64) y.2.1, .d (.int .i64) y.2.2.1, .d (.int .i64) y.2.2.2.1, .d (.int .i64) y.2.2.2.2.1, .d .bool y.2.2.2.2.2.1, .d (.sl (.pair (.int .i64) (.sl (.int .u8)))) y.2.2.2.2.2.2]] [])
 | _, _ => none⟩
theorem qkn : SumDet qbZ := zj fun _ _ _ _ => by
 unfold qbZ
 simp only [veil_eq]
 split
 ·split <;> rfl
 ·rfl
theorem qlm : SumOk Tryz.prog 135 qbZ := by
 have hE : EnvOk Tryz.prog qjj := env_ok (l := [(137, qct)]) th_ok qZ ⟨⟨qmx, qly⟩, trivial⟩ _
 refine sum_ok hE Tryz.func135 rfl (by kernel_rfl) qbZ [.dat tQr true] Z6.k ?_
 intro R avs qn κ r h
 unfold qbZ at h
 simp only [veil_eq] at h
 split at h
 ·rename_i zb qR qw qu qv qQ qO
  split at h
  ·cases h
  ·rename_i y hy
   refine ⟨BIG, _, _, _, (Z6.eq BIG zb qR qw qu qv qQ qO).trans hy, ?_, h⟩
   intro rs ros hk
   unfold Z6.k at hk
   split at hk
   ·rw [← sj hk]; exact ⟨rfl, rfl⟩
   ·cases hk
 ·cases h
theorem qlT {x : Int × List Int} {m : LF} {t n : Int} (h1 : x.1 = t) (h2 : (x.2.length : Int) = n) : zC (x :: m) false t n = (Q6 x.2, m, false) := by
 unfold zC qeF
 simp [h1, h2]
theorem qpz {l : LF} {bad : Bool} {t n : Int} (h : (zC l bad t n).2.2 = false) : bad = false ∧ ∃ x m, l = x :: m ∧ x.1 = t ∧ (x.2.length : Int) = n ∧ zC l bad t n = (Q6 x.2, m, false) := by
 cases l with
 | nil => simp [zC] at h
 | cons x m =>
  unfold zC at h
  dsimp only at h
  split at h
  ·cases h
  ·rename_i c
   simp at c
   unfold qeF at h
   split at h
   ·rename_i c2
    simp at c2
    exact ⟨c.1, x, m, rfl, c.2, by omega, by rw [c.1]; exact qlT c.2 (by omega)⟩
   ·cases h
def hit (t n : Int) : LF → Option (Int × LF)
 | [] => none
 | x :: m => if x.1 == t && ((x.2.length : Int) == n) then some (Q6 x.2, m) else none
def qei (c : Bool) (t : Int) (m : LF) : Option (Int × LF) := if c then hit t 2 m else some (0, m)
theorem qra {t n : Int} {l : LF} {v : Int} {m : LF} (h : hit t n l = some (v, m)) : ∃ x, l = x :: m ∧ v = Q6 x.2 ∧ x.1 = t ∧ (x.2.length : Int) = n := by
 cases l with
 | nil => simp [hit] at h
 | cons x l =>
  have h' : (if (x.1 == t && ((x.2.length : Int) == n)) = true then some (Q6 x.2, l) else none) = some (v, m) := h
  by_cases c : (x.1 == t && ((x.2.length : Int) == n)) = true
  ·rw [if_pos c] at h'
   simp at c
   cases h'
   exact ⟨x, rfl, rfl, c.1, c.2⟩
  ·rw [if_neg c] at h'
   cases h'
theorem QL {t n : Int} {l : LF} {v : Int} {m : LF} (h : hit t n l = some (v, m)) : zC l false t n = (v, m, false) := by
 obtain ⟨x, rfl, rfl, h1, h2⟩ := qra h
 exact qlT h1 h2
theorem qbO (l : LF) (t n : Int) : (zC l true t n).2.2 = true := by
 unfold zC
 cases l <;> simp
theorem qbc {t n : Int} {l : LF} (h : hit t n l = none) : (zC l false t n).2.2 = true := by
 cases hb : (zC l false t n).2.2 with
 | true => rfl
 | false =>
  obtain ⟨_, x, m, rfl, h1, h2, _⟩ := qpz hb
  simp [hit, h1, h2] at h
theorem qc7 (k p : Int) (l : LF) (t : Int) : (Qz k p l true t).2.2 = true := by
 unfold Qz
 split
 ·exact qbO l t 2
 ·rfl
theorem qhK {k p t : Int} {l : LF} {v : Int} {m : LF} (h : qei (qy k p) t l = some (v, m)) : Qz k p l false t = (v, m, false) := by
 unfold Qz
 unfold qei at h
 split
 ·rename_i c; rw [if_pos c] at h; exact QL h
 ·rename_i c; rw [if_neg c] at h; cases h; rfl
theorem qi3 {k p t : Int} {l : LF} (h : qei (qy k p) t l = none) : (Qz k p l false t).2.2 = true := by
 unfold Qz
 unfold qei at h
 split
 ·rename_i c; rw [if_pos c] at h; exact qbc h
 ·rename_i c; rw [if_neg c] at h; cases h
def qm3 (b : List Int) : Option (Int × Int × Int × Int × Int × Int × LF) :=
 if (Qi b).2 != 0 || decide ((b.length : Int) > 65499) then none else
 match hit 1 1 (Qi b).1 with
 | none => none
 | some (K, m1) => match hit 2 2 m1 with
  | none => none
  | some (f, m2) => match hit 3 6 m2 with
   | none => none
   | some (i, m3) => match hit 4 1 m3 with
    | none => none
    | some (c, m4) => match qei (qy K 0) 5 m4 with
     | none => none
     | some (s, m5) => match qei (qy K 1) 6 m5 with
      | none => none
      | some (t, m6) => some (K, f, i, c, s, t, m6)
theorem qdP (k f i lo hi s t : Int) (r : Option LR) : qhA true k f i lo hi s t r = (0, 0, 0, 0, 0, 0, 0, [], 4) := by
 cases r <;> rfl
theorem qn9 (b : List Int) : zT b = match qm3 b with
  | none => (0, 0, 0, 0, 0, 0, 0, [], 4)
  | some (K, f, i, c, s, t, m) => qhA false K f i (zW Qw c).1 (zW Qw c).2.1 s t (qcu m) := by
 unfold zT qm3
 dsimp only
 unfold Zy
 dsimp only
 cases hb : ((Qi b).2 != 0 || decide ((b.length : Int) > 65499))
 ·simp only [Bool.false_eq_true, if_false]
  cases h1 : hit 1 1 (Qi b).1 with
  | none =>
   dsimp only
   rw [qbc h1]
   simp only [qbO, qc7, qdP]
  | some p1 =>
   obtain ⟨K, m1⟩ := p1
   dsimp only
   rw [QL h1]
   dsimp only
   cases h2 : hit 2 2 m1 with
   | none =>
    dsimp only
    rw [qbc h2]
    simp only [qbO, qc7, qdP]
   | some p2 =>
    obtain ⟨f, m2⟩ := p2
    dsimp only
    rw [QL h2]
    dsimp only
    cases h3 : hit 3 6 m2 with
    | none =>
     dsimp only
     rw [qbc h3]
     simp only [qbO, qc7, qdP]
    | some p3 =>
     obtain ⟨i, m3⟩ := p3
     dsimp only
     rw [QL h3]
     dsimp only
     cases h4 : hit 4 1 m3 with
     | none =>
      dsimp only
      rw [qbc h4]
      simp only [qc7, qdP]
     | some p4 =>
      obtain ⟨c, m4⟩ := p4
      dsimp only
      rw [QL h4]
      dsimp only
      cases h5 : qei (qy K 0) 5 m4 with
      | none =>
       dsimp only
       rw [qi3 h5]
       simp only [qc7, qdP]
      | some p5 =>
       obtain ⟨s, m5⟩ := p5
       dsimp only
       rw [qhK h5]
       dsimp only
       cases h6 : qei (qy K 1) 6 m5 with
       | none =>
        dsimp only
        rw [qi3 h6]
        simp only [qdP]
       | some p6 =>
        obtain ⟨t, m6⟩ := p6
        dsimp only
        rw [qhK h6]
 ·simp only [qbO, qc7, qdP]
  rfl
theorem qhp (c : Int) (h0 : 0 ≤ c) (h1 : c ≤ 255) : (okS (c / 16) (c % 16) = true → zW Qw c = (c / 16, c % 16, true)) ∧ (okS (c / 16) (c % 16) = false → okS (zW Qw c).1 (zW Qw c).2.1 = false) := by
 constructor
 ·intro h
  simp [okS] at h
  have : c = 17 ∨ c = 18 ∨ c = 19 ∨ c = 34 ∨ c = 35 ∨ c = 51 := by omega
  rcases this with rfl | rfl | rfl | rfl | rfl | rfl <;> decide +kernel
 ·intro h
  cases hk : okS (zW Qw c).1 (zW Qw c).2.1 with
  | false => rfl
  | true =>
   have he := qlC hk
   have hk2 := hk
   simp [okS] at hk2
   rw [show c / 16 = (zW Qw c).1 from by omega, show c % 16 = (zW Qw c).2.1 from by omega, hk] at h
   cases h
theorem qrO (b : List Int) : Q5 b = match (if (Qi b).2 != 0 then none else match hit 1 2 (Qi b).1 with
  | none => none
  | some (a1, m1) => match hit 2 4 m1 with
   | none => none
   | some (a2, m2) => match hit 3 1 m2 with
    | none => none
    | some (a3, m3) => match hit 4 1 m3 with
     | none => none
     | some (a4, m4) => some (a1, a2, a3, a4, m4)) with
  | none => ((Q5 b).1, false)
  | some (a1, a2, a3, a4, m) => ((a1, a2, a3 % 128, ((zW Qw a4).1, (zW Qw a4).2.1), decide (a3 ≥ 128), m), true) := by
 have key : ∀ r, (Q5 b).2 = false → r = ((Q5 b).1, false) → Q5 b = r := fun r h1 h2 => by rw [h2, ← h1]
 cases hb : ((Qi b).2 != 0)
 ·simp only [Bool.false_eq_true, if_false]
  cases h1 : hit 1 2 (Qi b).1 with
  | none =>
   refine key _ ?_ rfl
   unfold Q5 Zy
   dsimp only
   rw [hb, qbc h1]
   simp only [qbO, Bool.not_true]
  | some p1 =>
   obtain ⟨a1, m1⟩ := p1
   dsimp only
   cases h2 : hit 2 4 m1 with
   | none =>
    refine key _ ?_ rfl
    unfold Q5 Zy
    dsimp only
    rw [hb, QL h1]
    dsimp only
    rw [qbc h2]
    simp only [qbO, Bool.not_true]
   | some p2 =>
    obtain ⟨a2, m2⟩ := p2
    dsimp only
    cases h3 : hit 3 1 m2 with
    | none =>
     refine key _ ?_ rfl
     unfold Q5 Zy
     dsimp only
     rw [hb, QL h1]
     dsimp only
     rw [QL h2]
     dsimp only
     rw [qbc h3]
     simp only [qbO, Bool.not_true]
    | some p3 =>
     obtain ⟨a3, m3⟩ := p3
     dsimp only
     cases h4 : hit 4 1 m3 with
     | none =>
      refine key _ ?_ rfl
      unfold Q5 Zy
      dsimp only
      rw [hb, QL h1]
      dsimp only
      rw [QL h2]
      dsimp only
      rw [QL h3]
      dsimp only
      rw [qbc h4, Bool.not_true]
     | some p4 =>
      obtain ⟨a4, m4⟩ := p4
      dsimp only
      unfold Q5 Zy
      dsimp only
      rw [hb, QL h1]
      dsimp only
      rw [QL h2]
      dsimp only
      rw [QL h3]
      dsimp only
      rw [QL h4]
      rfl
 ·refine key _ ?_ rfl
  unfold Q5 Zy
  dsimp only
  rw [hb]
  simp only [qbO, Bool.not_true]
theorem qqp (b : List Int) (h : (zT b).2.2.2.2.2.2.2.2 ≠ 0) : zT b = (0, 0, 0, 0, 0, 0, 0, [], 4) := by
 rw [qn9] at h ⊢
 cases hP : qm3 b with
 | none => rfl
 | some p =>
  obtain ⟨K, f, i, c, s, t, m⟩ := p
  rw [hP] at h
  dsimp only at h ⊢
  unfold qhA at h ⊢
  cases hr : qcu m with
  | none => rfl
  | some r =>
   rw [hr] at h
   dsimp only at h ⊢
   split
   ·rename_i c; rw [if_pos c] at h; exact absurd rfl h
   ·rfl
theorem qi4 : ∀ (items : LF) (k : Nat), items.length ≤ k → Zf k (items.flatMap Qj) = some items
 | [], k, _ => by cases k <;> rfl
 | x :: items, 0, h => by simp at h
 | x :: items, k + 1, h => by
  have ih := qi4 items k (by simp at h; omega)
  have e : (x :: items).flatMap Qj = x.1 :: ((x.2.length / 256 : Nat) : Int) :: ((x.2.length % 256 : Nat) : Int) :: (x.2 ++ items.flatMap Qj) := by
   rw [List.flatMap_cons]; rfl
  rw [e, Zf]
  have e2 : ((x.2.length / 256 : Nat) : Int) * 256 + ((x.2.length % 256 : Nat) : Int) = (x.2.length : Int) := by omega
  rw [e2, if_neg (by simp; omega)]
  rw [show (x.2.length : Int).toNat = x.2.length from rfl, List.drop_left, List.take_left, ih]
  rfl
theorem qre (items : LF) : items.length ≤ (items.flatMap Qj).length := by
 induction items with
 | nil => simp
 | cons x l ih => rw [List.flatMap_cons, List.length_append, qhz, List.length_cons]; omega
theorem qh9 (items : LF) : Qi (items.flatMap Qj) = (items, 0) := by
 unfold Qi
 rw [qi4 items _ (qre items)]
theorem qaV {t n v : Int} (n1 : 1 ≤ n) (n7 : n ≤ 7) : itB t n v = Qj (t, be n.toNat v) := by
 unfold itB Qj
 dsimp only
 rw [zL]
 have e1 : ((n.toNat / 256 : Nat) : Int) = 0 := by omega
 have e2 : ((n.toNat % 256 : Nat) : Int) = n := by omega
 rw [e1, e2]
theorem qdA {t n v : Int} {m : LF} (n1 : 1 ≤ n) (h0 : 0 ≤ v) (h1 : v < 256 ^ n.toNat) : hit t n ((t, be n.toNat v) :: m) = some (v, m) := by
 rw [hit, if_pos (by simp [zL]; omega)]
 dsimp only
 rw [qlD _ _ h0 h1]
theorem qin (r : Int × Int × Int × (Int × Int) × Bool × LF) : Za r = (qbp r).flatMap Qj := by
 unfold Za qbp
 rw [List.flatMap_append, qaV (by omega) (by omega), qaV (by omega) (by omega), qaV (by omega) (by omega), qaV (by omega) (by omega)]
 simp [List.flatMap_cons]
theorem qpX {r : Int × Int × Int × (Int × Int) × Bool × LF} (h : zA r = true) (hi : r.2.1 ≤ 4294967295) : Q5 (Za r) = (r, true) := by
 obtain ⟨id, inc, st, ⟨lo, hi'⟩, cut, bag⟩ := r
 obtain ⟨f1, f2, f3, f4, f5, f6, f7, f8⟩ := zH h
 dsimp only at f1 f2 f3 f4 f5 f6 f7 hi
 have hs := (qaq _ _).1 f7
 have e := qrO (Za (id, inc, st, (lo, hi'), cut, bag))
 rw [qin, qh9] at e
 have hc : 0 ≤ qeq (id, inc, st, (lo, hi'), cut, bag) ∧ qeq (id, inc, st, (lo, hi'), cut, bag) < 256 := by
  unfold qeq
  dsimp only
  split <;> omega
 have w : qbp (id, inc, st, (lo, hi'), cut, bag) = (1, be (2 : Int).toNat id) :: (2, be (4 : Int).toNat inc) :: (3, be (1 : Int).toNat (qeq (id, inc, st, (lo, hi'), cut, bag))) :: (4, be (1 : Int).toNat (lo * 16 + hi')) :: bag := rfl
 rw [← qin, w] at e
 dsimp only at e
 rw [qdA (by omega) (by omega) (by simp; omega)] at e
 dsimp only at e
 rw [qdA (by omega) (by omega) (by simp; omega)] at e
 dsimp only at e
 rw [qdA (by omega) hc.1 (by simpa using hc.2)] at e
 dsimp only at e
 rw [qdA (by omega) (by omega) (by simp; omega)] at e
 rw [if_neg (by simp)] at e
 dsimp only at e
 rw [e]
 have o := (qhp (lo * 16 + hi') (by omega) (by omega)).1 (by rw [show (lo * 16 + hi') / 16 = lo from by omega, show (lo * 16 + hi') % 16 = hi' from by omega]; exact f7)
 rw [o, show (lo * 16 + hi') / 16 = lo from by omega, show (lo * 16 + hi') % 16 = hi' from by omega]
 dsimp only
 have s1 : qeq (id, inc, st, (lo, hi'), cut, bag) % 128 = st := by
  unfold qeq
  dsimp only
  split <;> omega
 have s2 : decide (qeq (id, inc, st, (lo, hi'), cut, bag) ≥ 128) = cut := by
  unfold qeq
  dsimp only
  cases cut
  ·simp; omega
  ·simp; omega
 rw [s1, s2]
theorem qkD : ∀ r : LR, (∀ x ∈ r, zA x = true ∧ x.2.1 ≤ 4294967295) → qcu (r.map fun x => ((7 : Int), Za x)) = some r
 | [], _ => rfl
 | x :: r, h => by
  obtain ⟨h1, h2⟩ := h x (by simp)
  rw [List.map_cons, qcu, qkD r fun y hy => h y (by simp [hy])]
  dsimp only
  rw [qpX h1 h2]
  rfl
theorem qj6 {qk qx inc lo hi seq qo qP qD qb : Int} {qc : LR} (h : q0 qk qx inc lo hi seq qo qP qD qb qc = true) :
  (qy qk 0 = false → seq = 0) ∧ (qy qk 1 = false → qo = 0) := by
 unfold q0 at h
 have h1 : ((ofF qk).1.toList == (⟨#[]⟩ : ByteArray).toList || (decide (qx < 0) || (decide (qx > 4095) || (decide (inc < 0) || (decide (inc > 281474976710655) || !okS lo hi))))) = false := by
  cases hc : ((ofF qk).1.toList == (⟨#[]⟩ : ByteArray).toList || (decide (qx < 0) || (decide (qx > 4095) || (decide (inc < 0) || (decide (inc > 281474976710655) || !okS lo hi))))) with
  | false => rfl
  | true => rw [hc] at h; cases h
 rw [h1] at h
 have h2 : (!zY (qy qk 0) seq 0 65535 || (!zY (qy qk 1) qo (if qk == 3 then 1 else 0) (if qk == 3 then 3 else 4095) || !qar qk qP qD qb)) = false := by
  cases hc : (!zY (qy qk 0) seq 0 65535 || (!zY (qy qk 1) qo (if qk == 3 then 1 else 0) (if qk == 3 then 3 else 4095) || !qar qk qP qD qb)) with
  | false => rfl
  | true => rw [hc] at h; cases h
 simp only [Bool.or_eq_false_iff, Bool.not_eq_false'] at h2
 obtain ⟨c1, c2, c3⟩ := h2
 constructor
 ·intro h0
  rw [h0] at c1
  simpa [zY] using c1
 ·intro h0
  rw [h0] at c2
  simpa [zY] using c2
def qkS (qk qx inc lo hi seq qo : Int) (qc : LR) : LF :=
 (1, be (1 : Int).toNat qk) :: (2, be (2 : Int).toNat qx) :: (3, be (6 : Int).toNat inc) :: (4, be (1 : Int).toNat (lo * 16 + hi)) :: ((if qy qk 0 then [((5 : Int), be (2 : Int).toNat seq)] else []) ++ ((if qy qk 1 then [((6 : Int), be (2 : Int).toNat qo)] else []) ++ qc.map fun x => ((7 : Int), Za x)))
theorem qnS (qk qx inc lo hi seq qo : Int) (qc : LR) : qaj qk qx inc lo hi seq qo qc = (qkS qk qx inc lo hi seq qo qc).flatMap Qj := by
 unfold qaj qkS
 rw [qaV (by omega) (by omega), qaV (by omega) (by omega), qaV (by omega) (by omega), qaV (by omega) (by omega)]
 simp only [List.flatMap_cons, List.flatMap_append, List.append_assoc]
 have e : qc.flatMap qee = (qc.map fun x => ((7 : Int), Za x)).flatMap Qj := by
  rw [List.flatMap_map]
  rfl
 rw [e]
 cases qy qk 0 <;> cases qy qk 1 <;> simp [qaV (t := 5) (n := 2), qaV (t := 6) (n := 2)]
theorem qsw {qk qx inc lo hi seq qo : Int} {qc : LR} (hv : q0 qk qx inc lo hi seq qo 0 0 0 qc = true) (h9 : qk ≠ 9) (hf : qc5 qc = true) (hlen : (qaj qk qx inc lo hi seq qo qc).length ≤ 65499) :
  zT (qaj qk qx inc lo hi seq qo qc) = (qk, qx, inc, lo, hi, seq, qo, qc, 0) := by
 obtain ⟨v1, v2, v3, v4, v5, v6, v7, v8, v9, v10, v11, _, v12, v13⟩ := Ql hv
 have hs := (qaq _ _).1 v7
 obtain ⟨z0, z1⟩ := qj6 hv
 have hP : qm3 (qaj qk qx inc lo hi seq qo qc) = some (qk, qx, inc, lo * 16 + hi, seq, qo, qc.map fun x => ((7 : Int), Za x)) := by
  have hsp : Qi (qaj qk qx inc lo hi seq qo qc) = (qkS qk qx inc lo hi seq qo qc, 0) := by rw [qnS, qh9]
  unfold qm3
  rw [if_neg (by rw [hsp]; simp; omega), hsp]
  dsimp only
  unfold qkS
  rw [qdA (by omega) (by omega) (by simp; omega)]
  dsimp only
  rw [qdA (by omega) (by omega) (by simp; omega)]
  dsimp only
  rw [qdA (by omega) (by omega) (by simp; omega)]
  dsimp only
  rw [qdA (by omega) (by omega) (by simp; omega)]
  dsimp only
  have hq : qei (qy qk 0) 5 ((if qy qk 0 then [((5 : Int), be (2 : Int).toNat seq)] else []) ++ ((if qy qk 1 then [((6 : Int), be (2 : Int).toNat qo)] else []) ++ qc.map fun x => ((7 : Int), Za x))) = some (seq, (if qy qk 1 then [((6 : Int), be (2 : Int).toNat qo)] else []) ++ qc.map fun x => ((7 : Int), Za x)) := by
   cases h : qy qk 0
   ·simp [qei, z0 h]
   ·simp only [qei, if_true, List.singleton_append]
    exact qdA (by omega) (by omega) (by simp; omega)
  have ht : qei (qy qk 1) 6 ((if qy qk 1 then [((6 : Int), be (2 : Int).toNat qo)] else []) ++ qc.map fun x => ((7 : Int), Za x)) = some (qo, qc.map fun x => ((7 : Int), Za x)) := by
   cases h : qy qk 1
   ·simp [qei, z1 h]
   ·simp only [qei, if_true, List.singleton_append]
    exact qdA (by omega) (by omega) (by simp; omega)
  rw [hq]
  dsimp only
  rw [ht]
 rw [qn9, hP]
 dsimp only
 have o := (qhp (lo * 16 + hi) (by omega) (by omega)).1 (by rw [show (lo * 16 + hi) / 16 = lo from by omega, show (lo * 16 + hi) % 16 = hi from by omega]; exact v7)
 rw [o, qkD qc fun x hx => ⟨v13 x hx, qjU _ hf x hx⟩, show (lo * 16 + hi) / 16 = lo from by omega, show (lo * 16 + hi) % 16 = hi from by omega]
 unfold qhA
 dsimp only
 have hz := qlW hv
 have : qbG qk qx inc lo hi seq qo 0 0 0 qc = true := by
  unfold qbG
  rw [hv, hz, if_neg, hf]
  simp [h9]
  omega
 rw [this]
 rfl
def qaI (l : LR) : Prop := ∀ r ∈ l, ∀ x ∈ r.2.2.2.2.2, ∀ c ∈ x.2, 0 ≤ c ∧ c ≤ 255
theorem qfW {x : Int × List Int} (h1 : 0 ≤ x.1) (h2 : x.1 ≤ 255) (h3 : x.2.length ≤ 65535) (h4 : ∀ c ∈ x.2, 0 ≤ c ∧ c ≤ 255) : ∀ c ∈ Qj x, 0 ≤ c ∧ c ≤ 255 := by
 intro c hc
 unfold Qj at hc
 simp at hc
 rcases hc with rfl | rfl | rfl | hc
 ·omega
 ·omega
 ·omega
 ·exact h4 c hc
theorem qbn {t n v : Int} (t0 : 0 ≤ t) (t1 : t ≤ 255) (n1 : 1 ≤ n) (n7 : n ≤ 7) : ∀ c ∈ itB t n v, 0 ≤ c ∧ c ≤ 255 := by
 rw [qaV n1 n7]
 exact qfW t0 t1 (by rw [zL]; omega) (fun c hc => qk5 _ _ c hc)
theorem qjS {α : Type} {l : List α} {f : α → List Int} {Q : Int → Prop} (h : ∀ x ∈ l, ∀ c ∈ f x, Q c) : ∀ c ∈ l.flatMap f, Q c := by
 intro c hc
 obtain ⟨x, hx, hc⟩ := List.mem_flatMap.1 hc
 exact h x hx c hc
theorem qpc {r : Int × Int × Int × (Int × Int) × Bool × LF} (h : zA r = true) : (Za r).length ≤ 5000 := by
 have hb := Ze (zH h).2.2.2.2.2.2.2.1
 have := qit r.2.2.2.2.2
 unfold Za
 simp only [List.length_append, itB, List.length_cons, zL]
 omega
theorem qm5 {r : Int × Int × Int × (Int × Int) × Bool × LF} (h : zA r = true) (hb : ∀ x ∈ r.2.2.2.2.2, ∀ c ∈ x.2, 0 ≤ c ∧ c ≤ 255) : ∀ c ∈ Za r, 0 ≤ c ∧ c ≤ 255 := by
 have ht := qbE (zH h).2.2.2.2.2.2.2.1
 intro c hc
 unfold Za at hc
 simp only [List.mem_append] at hc
 rcases hc with hc | hc | hc | hc | hc
 ·exact qbn (by omega) (by omega) (by omega) (by omega) c hc
 ·exact qbn (by omega) (by omega) (by omega) (by omega) c hc
 ·exact qbn (by omega) (by omega) (by omega) (by omega) c hc
 ·exact qbn (by omega) (by omega) (by omega) (by omega) c hc
 ·exact qjS (fun x hx => qfW (by have := ht x hx; omega) (ht x hx).2.1 (by have := ht x hx; omega) (hb x hx)) c hc
theorem qnT {qk qx inc lo hi seq qo : Int} {qc : LR} (hr : ∀ x ∈ qc, zA x = true) (hb : qaI qc) : ∀ c ∈ qaj qk qx inc lo hi seq qo qc, 0 ≤ c ∧ c ≤ 255 := by
 intro c hc
 unfold qaj at hc
 simp only [List.mem_append] at hc
 rcases hc with hc | hc | hc | hc | hc | hc | hc
 ·exact qbn (by omega) (by omega) (by omega) (by omega) c hc
 ·exact qbn (by omega) (by omega) (by omega) (by omega) c hc
 ·exact qbn (by omega) (by omega) (by omega) (by omega) c hc
 ·exact qbn (by omega) (by omega) (by omega) (by omega) c hc
 ·split at hc
  ·exact qbn (by omega) (by omega) (by omega) (by omega) c hc
  ·simp at hc
 ·split at hc
  ·exact qbn (by omega) (by omega) (by omega) (by omega) c hc
  ·simp at hc
 ·exact qjS (fun x hx => qfW (x := (7, Za x)) (by simp) (by simp) (by have := qpc (hr x hx); dsimp only; omega) (qm5 (hr x hx) (hb x hx))) c hc
theorem qnd {qk qx inc lo hi seq qo qP qD qb : Int} {qc : LR} (h : qk0 qk qx inc lo hi seq qo qP qD qb qc = true) :
  q0 qk qx inc lo hi seq qo qP qD qb qc = true ∧ qk ≠ 9 ∧ qP = 0 ∧ qD = 0 ∧ qb = 0 ∧ qc5 qc = true ∧ (qaj qk qx inc lo hi seq qo qc).length ≤ 65499 := by
 unfold qk0 at h
 split at h
 ·cases h
 rename_i c
 split at h
 ·cases h
 rename_i c2
 simp at c c2 h
 exact ⟨c.1, c.2.1, c.2.2.1, c.2.2.2.1, c.2.2.2.2, c2, by omega⟩
def qkF : Env := ⟨th, gam [(116, qac), (134, qag), (135, qbZ)], fun i => ⟨[], [], []⟩⟩
def qal.k (rs : List AV) (os : List Den.Obj) : Option (Int × Int × Int × Int × Int × Bool × LF × Bool) :=
 match rs, os with
 | [.agg [.d (.int .i64) r0, .d (.int .i64) r1, .d (.int .i64) r2, .d (.int .i64) r3, .d (.int .i64) r4, .d .bool r5, .d (.sl (.pair (.int .i64) (.sl (.int .u8)))) r6], .d .bool r7], [] => some (r0, r1, r2, r3, r4, r5, r6, r7)
 | _, _ => none
def qal.b (l : LR) (id : Int) : Option (Int × Int × Int × Int × Int × Bool × LF × Bool) :=
 (match (veil (qU.f BIG l id)) with | none => none | some y0 => (if (y0.1 == ((((List.length l)) : Nat) : Int)) then some (0, 0, 0, 0, 0, false, ([] : LF), false) else (match (idx l y0.1) with | none => none | some y1 => (match (veil (Z6.f BIG y1.1 y1.2.1 y1.2.2.1 y1.2.2.2.1.1 y1.2.2.2.1.2 y1.2.2.2.2.1 y1.2.2.2.2.2)) with | none => none | some y2 => some (y2.1, y2.2.1, y2.2.2.1, y2.2.2.2.1, y2.2.2.2.2.1, y2.2.2.2.2.2.1, y2.2.2.2.2.2.2, true)))))
def qal.f (qa : Nat) (l : LR) (id : Int) : Option (Int × Int × Int × Int × Int × Bool × LF × Bool) := qal.b l id
theorem qal.eq (qa : Nat) (l : LR) (id : Int) : (denF qkF loopN qa Tryz.f122 [.dat tQr true, .raw] [.d (.sl tQr) l, .d tQi id] [] qal.k) = qal.f qa l id := by
 kernel_rfl
def qbe : Den.Sum := ⟨[.dat (.sl tQr) false, .raw], fun qK qn κ => match qK, qn with
 | [.d (.sl (.pair (.int .i64) (.pair (.int .i64) (.pair (.int .i64) (.pair (.pair (.int .i64) (.int .i64)) (.pair .bool (.sl (.pair (.int .i64) (.sl (.int .u8)))))))))) l, .d (.int .i64) id], [] => (match veil (qal.f BIG l id) with | none => none | some y => κ [.agg [.d (.int .i64) y.1, .d (.int .i64) y.2.1, .d (.int .i64) y.2.2.1, .d (.int .i64) y.2.2.2.1, .d (.int .i64) y.2.2.2.2.1, .d .bool y.2.2.2.2.2.1, .d (.sl (.pair (.int .i64) (.sl (.int .u8)))) y.2.2.2.2.2.2.1], .d .bool y.2.2.2.2.2.2.2] [])
 | _, _ => none⟩
theorem qgK : SumDet qbe := zj fun _ _ _ _ => by
 unfold qbe
 simp only [veil_eq]
 split
 ·split <;> rfl
 ·rfl
theorem qhM : SumOk Tryz.prog 122 qbe := by
 have hE : EnvOk Tryz.prog qkF := env_ok (l := [(116, qac), (134, qag), (135, qbZ)]) th_ok qZ ⟨⟨qgj, qfY⟩, ⟨qfG, qfh⟩, ⟨qlm, qkn⟩, trivial⟩ _
 refine sum_ok hE Tryz.func122 rfl (by kernel_rfl) qbe [.dat tQr true, .raw] qal.k ?_
 intro R avs qn κ r h
 unfold qbe at h
 simp only [veil_eq] at h
 split at h
 ·rename_i l id
  split at h
  ·cases h
  ·rename_i y hy
   refine ⟨BIG, _, _, _, (qal.eq BIG l id).trans hy, ?_, h⟩
   intro rs ros hk
   unfold qal.k at hk
   split at hk
   ·rw [← sj hk]; exact ⟨rfl, rfl⟩
   ·cases hk
 ·cases h
def Z5 : Env := ⟨th, gam [(79, qdd), (80, qaT), (119, Q0), (75, qdh), (130, QZ), (131, qaJ), (122, qbe), (132, qbt)], fun i => if i = 17 then ⟨[4, 92, 93, 94], [], []⟩ else if i = 5 then ⟨[2, 4, 5, 8, 9, 10], [], [777777]⟩ else if i = 7 then ⟨[2, 4, 5, 8, 9, 10], [], [777777]⟩ else if i = 9 then ⟨[2, 4, 5, 8, 10], [], [777777]⟩ else if i = 13 then ⟨[4, 5, 8, 10], [], [777777]⟩ else ⟨[], [], []⟩⟩
def qd.k (rs : List AV) (os : List Den.Obj) : Option (List Int) :=
 match rs, os with
 | [], [.box [.row 2, .d .bool false], .gone, .row 5 (.int .u8) r0 false] => some r0
 | _, _ => none
def qd.s17 (l : List Int) (zb qR qw qu qv : Int) (qQ : Bool) (qO : LF) (qi : Int) (qb : LR) (x41 x42 : Int) (x43 : (List Int)) : St := ⟨[dD, dD, dD, dD, .ptr 65 0, dD, dD, dD, dD, dD, dD, dD, dD, dD, dD, dD, dD, dD, dD, dD, dD, dD, dD, dD, dD, dD, dD, dD, dD, dD, dD, dD, dD, dD, dD, dD, dD, dD, dD, dD, dD, dD, dD, dD, dD, dD, dD, dD, dD, dD, dD, dD, dD, dD, dD, dD, dD, dD, dD, dD, dD, dD, dD, dD, dD, dD, dD, dD, dD, dD, dD, dD, dD, dD, dD, dD, dD, dD, dD, dD, dD, dD, dD, dD, dD, dD, dD, dD, dD, dD, dD, dD, .d (.sl (.pair tQi (.sl (.int .u8)))) (qO), .d tQi x41, .d tQi x42, dD, dD, dD, dD, dD, dD, dD, dD, dD, dD, dD, dD, dD, dD, dD, dD, dD, dD, dD, .dead], ofL [(0, .box [.row 64, .d .bool (false)]), (1, .gone), (64, .row 5 (.int .u8) x43 false), (65, .box [.ptr 0 0])], 2⟩
def qd.p17 (qa : Nat) (l : List Int) (zb qR qw qu qv : Int) (qQ : Bool) (qO : LF) (qi : Int) (qb : LR) (k : Nat) := fun x41 x42 x43 => lp Z5 qa Tryz.f120 [.pb [.own (some 0) [] 0 5 (.int .u8) true, .kill 1]] 2 qd.k 17 [] k (qd.s17 l zb qR qw qu qv qQ qO qi qb x41 x42 x43)
def qd.b17 (l : List Int) (zb qR qw qu qv : Int) (qQ : Bool) (qO : LF) (qi : Int) (qb : LR) (A17 : Int → Int → (List Int) → Option (List Int)) (x41 : Int) (x42 : Int) (x43 : (List Int)) : Option (List Int) :=
 (if (decide (x42 < x41)) then (match (idx qO x42) with | none => none | some y44 => (if ((Qd (1 : Int) y44.1) ∧ (Zi x43)) then (match (veil (qm.f BIG (x43 ++ (be (Int.toNat (1 : Int)) y44.1)) (((((List.length y44.2)) : Nat) : Int) :: ([] : List Int)))) with | none => none | some y45 => (match (veil (z7.f BIG y45 y44.2)) with | none => none | some y46 => A17 x41 (IntKind.wrap .i64 (x42 + (1 : Int))) y46)) else none)) else some (x43))
def qd.l17 (qa : Nat) (l : List Int) (zb qR qw qu qv : Int) (qQ : Bool) (qO : LF) (qi : Int) (qb : LR) : Nat → Int → Int → (List Int) → Option (List Int)
 | 0, _, _, _ => none
 | k + 1, x41, x42, x43 => qd.b17 l zb qR qw qu qv qQ qO qi qb (qd.l17 qa l zb qR qw qu qv qQ qO qi qb k) x41 x42 x43
def qd.s13 (l : List Int) (zb qR qw qu qv : Int) (qQ : Bool) (qO : LF) (qi : Int) (qb : LR) (x28 : Int) (x29 : (List Int)) (x30 x31 x32 x33 x34 : Int) (x35 : Bool) (x36 : LF) : St := ⟨[dD, dD, dD, dD, .ptr 65 0, .ptr 66 0, .dead, .dead, .ptr 67 0, .dead, .d tQi x28, dD, dD, dD, dD, dD, dD, dD, dD, dD, dD, dD, dD, dD, dD, dD, dD, dD, dD, dD, dD, dD, dD, dD, dD, dD, dD, dD, dD, dD, dD, dD, dD, dD, dD, dD, dD, dD, dD, dD, dD, dD, dD, dD, dD, dD, dD, dD, dD, dD, dD, dD, dD, dD, dD, dD, dD, dD, dD, dD, dD, dD, dD, dD, dD, dD, dD, dD, dD, dD, dD, dD, dD, dD, dD, dD, dD, dD, dD, dD, dD, dD, dD, dD, dD, dD, dD, dD, dD, dD, dD, dD, dD, dD, dD, dD, dD, dD, dD, dD, dD, dD, dD, dD, .dead], ofL [(0, .box [.row 64, .d .bool (false)]), (1, .gone), (64, .row 5 (.int .u8) x29 false), (65, .box [.ptr 0 0]), (66, .box [.d tQi (zb), .d tQi (qR), .d tQi (qw), .d tQi (qu), .d tQi (qv), .d .bool (qQ), .d (.sl (.pair tQi (.sl (.int .u8)))) (qO)]), (67, .box [.d tQi x30, .d tQi x31, .d tQi x32, .d tQi x33, .d tQi x34, .d .bool x35, .d (.sl (.pair tQi (.sl (.int .u8)))) x36])], 2⟩
def qd.p13 (qa : Nat) (l : List Int) (zb qR qw qu qv : Int) (qQ : Bool) (qO : LF) (qi : Int) (qb : LR) (k : Nat) := fun x28 x29 x30 x31 x32 x33 x34 x35 x36 => lp Z5 qa Tryz.f120 [.pb [.own (some 0) [] 0 5 (.int .u8) true, .kill 1]] 2 qd.k 13 [] k (qd.s13 l zb qR qw qu qv qQ qO qi qb x28 x29 x30 x31 x32 x33 x34 x35 x36)
def qd.b13 (l : List Int) (zb qR qw qu qv : Int) (qQ : Bool) (qO : LF) (qi : Int) (qb : LR) (A13 : Int → (List Int) → Int → Int → Int → Int → Int → Bool → LF → Option (List Int)) (E17 : Int → Int → (List Int) → Option (List Int)) (x28 : Int) (x29 : (List Int)) (x30 : Int) (x31 : Int) (x32 : Int) (x33 : Int) (x34 : Int) (x35 : Bool) (x36 : LF) : Option (List Int) :=
 (match (veil (ZK.f BIG (IntKind.wrap .i64 (qR - x31)))) with | none => none | some y37 => (match (veil (zB.f BIG y37)) with | none => none | some y38 => (match (veil (z7.f BIG x29 y38)) with | none => none | some y39 => (if ((bits BinOp.and .i64 x28 (20 : Int)) != (0 : Int)) then some (y39) else (match (veil (qm.f BIG y39 (((((List.length qO)) : Nat) : Int) :: ([] : List Int)))) with | none => none | some y40 => E17 ((((List.length qO)) : Nat) : Int) (0 : Int) y40)))))
def qd.l13 (qa : Nat) (l : List Int) (zb qR qw qu qv : Int) (qQ : Bool) (qO : LF) (qi : Int) (qb : LR) : Nat → Int → (List Int) → Int → Int → Int → Int → Int → Bool → LF → Option (List Int)
 | 0, _, _, _, _, _, _, _, _, _ => none
 | k + 1, x28, x29, x30, x31, x32, x33, x34, x35, x36 => qd.b13 l zb qR qw qu qv qQ qO qi qb (qd.l13 qa l zb qR qw qu qv qQ qO qi qb k) (qd.l17 qa l zb qR qw qu qv qQ qO qi qb qa) x28 x29 x30 x31 x32 x33 x34 x35 x36
def qd.s9 (l : List Int) (zb qR qw qu qv : Int) (qQ : Bool) (qO : LF) (qi : Int) (qb : LR) (x19 x20 x21 x22 x23 x24 : Int) (x25 : Bool) (x26 : LF) : St := ⟨[.dead, .dead, .d tQi (qi), .dead, .ptr 64 0, .ptr 65 0, .dead, .dead, .ptr 66 0, .dead, .d tQi x19, dD, dD, dD, dD, dD, dD, dD, dD, dD, dD, dD, dD, dD, dD, dD, dD, dD, dD, dD, dD, dD, dD, dD, dD, dD, dD, dD, dD, dD, dD, dD, dD, dD, dD, dD, dD, dD, dD, dD, dD, dD, dD, dD, dD, dD, dD, dD, dD, dD, dD, dD, dD, dD, dD, dD, dD, dD, dD, dD, dD, dD, dD, dD, dD, dD, dD, dD, dD, dD, dD, dD, dD, dD, dD, dD, dD, dD, dD, dD, dD, dD, dD, dD, dD, dD, dD, dD, dD, dD, dD, dD, dD, dD, dD, dD, dD, dD, dD, dD, dD, dD, dD, dD, .dead], ofL [(0, .box [.row 1, .d .bool (false)]), (1, .row 5 (.int .u8) (l) false), (64, .box [.ptr 0 0]), (65, .box [.d tQi (zb), .d tQi (qR), .d tQi (qw), .d tQi (qu), .d tQi (qv), .d .bool (qQ), .d (.sl (.pair tQi (.sl (.int .u8)))) (qO)]), (66, .box [.d tQi x20, .d tQi x21, .d tQi x22, .d tQi x23, .d tQi x24, .d .bool x25, .d (.sl (.pair tQi (.sl (.int .u8)))) x26])], 2⟩
def qd.p9 (qa : Nat) (l : List Int) (zb qR qw qu qv : Int) (qQ : Bool) (qO : LF) (qi : Int) (qb : LR) (k : Nat) := fun x19 x20 x21 x22 x23 x24 x25 x26 => lp Z5 qa Tryz.f120 [.pb [.own (some 0) [] 0 5 (.int .u8) true, .kill 1]] 2 qd.k 9 [] k (qd.s9 l zb qR qw qu qv qQ qO qi qb x19 x20 x21 x22 x23 x24 x25 x26)
def qd.b9 (l : List Int) (zb qR qw qu qv : Int) (qQ : Bool) (qO : LF) (qi : Int) (qb : LR) (A9 : Int → Int → Int → Int → Int → Int → Bool → LF → Option (List Int)) (E13 : Int → (List Int) → Int → Int → Int → Int → Int → Bool → LF → Option (List Int)) (x19 : Int) (x20 : Int) (x21 : Int) (x22 : Int) (x23 : Int) (x24 : Int) (x25 : Bool) (x26 : LF) : Option (List Int) :=
 (match (veil (qm.f BIG l ((IntKind.wrap .i64 ((IntKind.wrap .i64 (zb - qi)) - (1 : Int))) :: ([] : List Int)))) with | none => none | some y27 => (if ((Qd (1 : Int) x19) ∧ (Zi y27)) then (if ((bits BinOp.and .i64 x19 (8 : Int)) == (0 : Int)) then (if ((Qd (1 : Int) (Qr qu qv)) ∧ (Zi (y27 ++ (be (Int.toNat (1 : Int)) x19)))) then E13 x19 ((y27 ++ (be (Int.toNat (1 : Int)) x19)) ++ (be (Int.toNat (1 : Int)) (Qr qu qv))) x20 x21 x22 x23 x24 x25 x26 else none) else E13 x19 (y27 ++ (be (Int.toNat (1 : Int)) x19)) x20 x21 x22 x23 x24 x25 x26) else none))
def qd.l9 (qa : Nat) (l : List Int) (zb qR qw qu qv : Int) (qQ : Bool) (qO : LF) (qi : Int) (qb : LR) : Nat → Int → Int → Int → Int → Int → Int → Bool → LF → Option (List Int)
 | 0, _, _, _, _, _, _, _, _ => none
 | k + 1, x19, x20, x21, x22, x23, x24, x25, x26 => qd.b9 l zb qR qw qu qv qQ qO qi qb (qd.l9 qa l zb qR qw qu qv qQ qO qi qb k) (qd.l13 qa l zb qR qw qu qv qQ qO qi qb qa) x19 x20 x21 x22 x23 x24 x25 x26
def qd.s7 (l : List Int) (zb qR qw qu qv : Int) (qQ : Bool) (qO : LF) (qi : Int) (qb : LR) (x10 : Bool) (x11 x12 x13 x14 x15 x16 : Int) (x17 : Bool) (x18 : LF) : St := ⟨[.dead, .dead, .d tQi (qi), .dead, .ptr 64 0, .ptr 65 0, .dead, .dead, .ptr 66 0, .d .bool x10, .d tQi x11, dD, dD, dD, dD, dD, dD, dD, dD, dD, dD, dD, dD, dD, dD, dD, dD, dD, dD, dD, dD, dD, dD, dD, dD, dD, dD, dD, dD, dD, dD, dD, dD, dD, dD, dD, dD, dD, dD, dD, dD, dD, dD, dD, dD, dD, dD, dD, dD, dD, dD, dD, dD, dD, dD, dD, dD, dD, dD, dD, dD, dD, dD, dD, dD, dD, dD, dD, dD, dD, dD, dD, dD, dD, dD, dD, dD, dD, dD, dD, dD, dD, dD, dD, dD, dD, dD, dD, dD, dD, dD, dD, dD, dD, dD, dD, dD, dD, dD, dD, dD, dD, dD, dD, .dead], ofL [(0, .box [.row 1, .d .bool (false)]), (1, .row 5 (.int .u8) (l) false), (64, .box [.ptr 0 0]), (65, .box [.d tQi (zb), .d tQi (qR), .d tQi (qw), .d tQi (qu), .d tQi (qv), .d .bool (qQ), .d (.sl (.pair tQi (.sl (.int .u8)))) (qO)]), (66, .box [.d tQi x12, .d tQi x13, .d tQi x14, .d tQi x15, .d tQi x16, .d .bool x17, .d (.sl (.pair tQi (.sl (.int .u8)))) x18])], 2⟩
def qd.p7 (qa : Nat) (l : List Int) (zb qR qw qu qv : Int) (qQ : Bool) (qO : LF) (qi : Int) (qb : LR) (k : Nat) := fun x10 x11 x12 x13 x14 x15 x16 x17 x18 => lp Z5 qa Tryz.f120 [.pb [.own (some 0) [] 0 5 (.int .u8) true, .kill 1]] 2 qd.k 7 [] k (qd.s7 l zb qR qw qu qv qQ qO qi qb x10 x11 x12 x13 x14 x15 x16 x17 x18)
def qd.b7 (l : List Int) (zb qR qw qu qv : Int) (qQ : Bool) (qO : LF) (qi : Int) (qb : LR) (A7 : Bool → Int → Int → Int → Int → Int → Int → Bool → LF → Option (List Int)) (E9 : Int → Int → Int → Int → Int → Int → Bool → LF → Option (List Int)) (x10 : Bool) (x11 : Int) (x12 : Int) (x13 : Int) (x14 : Int) (x15 : Int) (x16 : Int) (x17 : Bool) (x18 : LF) : Option (List Int) :=
 (if x10 then (if (!qQ) then (if ((zx x18) && (zx qO)) then (if ((ZP x18 qO) == (0 : Int)) then E9 (bits BinOp.or .i64 x11 (16 : Int)) x12 x13 x14 x15 x16 x17 x18 else E9 x11 x12 x13 x14 x15 x16 x17 x18) else none) else E9 x11 x12 x13 x14 x15 x16 x17 x18) else E9 x11 x12 x13 x14 x15 x16 x17 x18)
def qd.l7 (qa : Nat) (l : List Int) (zb qR qw qu qv : Int) (qQ : Bool) (qO : LF) (qi : Int) (qb : LR) : Nat → Bool → Int → Int → Int → Int → Int → Int → Bool → LF → Option (List Int)
 | 0, _, _, _, _, _, _, _, _, _ => none
 | k + 1, x10, x11, x12, x13, x14, x15, x16, x17, x18 => qd.b7 l zb qR qw qu qv qQ qO qi qb (qd.l7 qa l zb qR qw qu qv qQ qO qi qb k) (qd.l9 qa l zb qR qw qu qv qQ qO qi qb qa) x10 x11 x12 x13 x14 x15 x16 x17 x18
def qd.s5 (l : List Int) (zb qR qw qu qv : Int) (qQ : Bool) (qO : LF) (qi : Int) (qb : LR) (x1 : Bool) (x2 x3 x4 x5 x6 x7 : Int) (x8 : Bool) (x9 : LF) : St := ⟨[.dead, .dead, .d tQi (qi), .dead, .ptr 64 0, .ptr 65 0, .dead, .dead, .ptr 66 0, .d .bool x1, .d tQi x2, dD, dD, dD, dD, dD, dD, dD, dD, dD, dD, dD, dD, dD, dD, dD, dD, dD, dD, dD, dD, dD, dD, dD, dD, dD, dD, dD, dD, dD, dD, dD, dD, dD, dD, dD, dD, dD, dD, dD, dD, dD, dD, dD, dD, dD, dD, dD, dD, dD, dD, dD, dD, dD, dD, dD, dD, dD, dD, dD, dD, dD, dD, dD, dD, dD, dD, dD, dD, dD, dD, dD, dD, dD, dD, dD, dD, dD, dD, dD, dD, dD, dD, dD, dD, dD, dD, dD, dD, dD, dD, dD, dD, dD, dD, dD, dD, dD, dD, dD, dD, dD, dD, dD, .dead], ofL [(0, .box [.row 1, .d .bool (false)]), (1, .row 5 (.int .u8) (l) false), (64, .box [.ptr 0 0]), (65, .box [.d tQi (zb), .d tQi (qR), .d tQi (qw), .d tQi (qu), .d tQi (qv), .d .bool (qQ), .d (.sl (.pair tQi (.sl (.int .u8)))) (qO)]), (66, .box [.d tQi x3, .d tQi x4, .d tQi x5, .d tQi x6, .d tQi x7, .d .bool x8, .d (.sl (.pair tQi (.sl (.int .u8)))) x9])], 2⟩
def qd.p5 (qa : Nat) (l : List Int) (zb qR qw qu qv : Int) (qQ : Bool) (qO : LF) (qi : Int) (qb : LR) (k : Nat) := fun x1 x2 x3 x4 x5 x6 x7 x8 x9 => lp Z5 qa Tryz.f120 [.pb [.own (some 0) [] 0 5 (.int .u8) true, .kill 1]] 2 qd.k 5 [] k (qd.s5 l zb qR qw qu qv qQ qO qi qb x1 x2 x3 x4 x5 x6 x7 x8 x9)
def qd.b5 (l : List Int) (zb qR qw qu qv : Int) (qQ : Bool) (qO : LF) (qi : Int) (qb : LR) (A5 : Bool → Int → Int → Int → Int → Int → Int → Bool → LF → Option (List Int)) (E7 : Bool → Int → Int → Int → Int → Int → Int → Bool → LF → Option (List Int)) (x1 : Bool) (x2 : Int) (x3 : Int) (x4 : Int) (x5 : Int) (x6 : Int) (x7 : Int) (x8 : Bool) (x9 : LF) : Option (List Int) :=
 (if x1 then (if (if (x6 == qu) then (if (x7 == qv) then true else false) else false) then E7 x1 (bits BinOp.or .i64 x2 (8 : Int)) x3 x4 x5 x6 x7 x8 x9 else E7 x1 x2 x3 x4 x5 x6 x7 x8 x9) else E7 x1 x2 x3 x4 x5 x6 x7 x8 x9)
def qd.l5 (qa : Nat) (l : List Int) (zb qR qw qu qv : Int) (qQ : Bool) (qO : LF) (qi : Int) (qb : LR) : Nat → Bool → Int → Int → Int → Int → Int → Int → Bool → LF → Option (List Int)
 | 0, _, _, _, _, _, _, _, _, _ => none
 | k + 1, x1, x2, x3, x4, x5, x6, x7, x8, x9 => qd.b5 l zb qR qw qu qv qQ qO qi qb (qd.l5 qa l zb qR qw qu qv qQ qO qi qb k) (qd.l7 qa l zb qR qw qu qv qQ qO qi qb qa) x1 x2 x3 x4 x5 x6 x7 x8 x9
def qd.b (l : List Int) (zb qR qw qu qv : Int) (qQ : Bool) (qO : LF) (qi : Int) (qb : LR) (E5 : Bool → Int → Int → Int → Int → Int → Int → Bool → LF → Option (List Int)) : Option (List Int) :=
 (match (veil (qal.f BIG qb zb)) with | none => none | some y0 => (if qQ then E5 y0.2.2.2.2.2.2.2 (bits BinOp.or .i64 qw (4 : Int)) y0.1 y0.2.1 y0.2.2.1 y0.2.2.2.1 y0.2.2.2.2.1 y0.2.2.2.2.2.1 y0.2.2.2.2.2.2.1 else E5 y0.2.2.2.2.2.2.2 qw y0.1 y0.2.1 y0.2.2.1 y0.2.2.2.1 y0.2.2.2.2.1 y0.2.2.2.2.2.1 y0.2.2.2.2.2.2.1))
def qd.f (qa : Nat) (l : List Int) (zb qR qw qu qv : Int) (qQ : Bool) (qO : LF) (qi : Int) (qb : LR) : Option (List Int) := qd.b l zb qR qw qu qv qQ qO qi qb (qd.l5 qa l zb qR qw qu qv qQ qO qi qb qa)
theorem qd.l17_eq (qa : Nat) (l : List Int) (zb qR qw qu qv : Int) (qQ : Bool) (qO : LF) (qi : Int) (qb : LR) : ∀ k : Nat, qd.p17 qa l zb qR qw qu qv qQ qO qi qb k = qd.l17 qa l zb qR qw qu qv qQ qO qi qb k
 | 0 => by kernel_rfl
 | k + 1 => by
  refine Eq.trans (b := qd.b17 l zb qR qw qu qv qQ qO qi qb (qd.p17 qa l zb qR qw qu qv qQ qO qi qb k)) (by kernel_rfl) ?_
  rw [qd.l17_eq qa l zb qR qw qu qv qQ qO qi qb k]
  kernel_rfl
theorem qd.l13_eq (qa : Nat) (l : List Int) (zb qR qw qu qv : Int) (qQ : Bool) (qO : LF) (qi : Int) (qb : LR) : ∀ k : Nat, qd.p13 qa l zb qR qw qu qv qQ qO qi qb k = qd.l13 qa l zb qR qw qu qv qQ qO qi qb k
 | 0 => by kernel_rfl
 | k + 1 => by
  refine Eq.trans (b := qd.b13 l zb qR qw qu qv qQ qO qi qb (qd.p13 qa l zb qR qw qu qv qQ qO qi qb k) (qd.p17 qa l zb qR qw qu qv qQ qO qi qb qa)) (by kernel_rfl) ?_
  rw [qd.l13_eq qa l zb qR qw qu qv qQ qO qi qb k, qd.l17_eq qa l zb qR qw qu qv qQ qO qi qb qa]
  kernel_rfl
theorem qd.l9_eq (qa : Nat) (l : List Int) (zb qR qw qu qv : Int) (qQ : Bool) (qO : LF) (qi : Int) (qb : LR) : ∀ k : Nat, qd.p9 qa l zb qR qw qu qv qQ qO qi qb k = qd.l9 qa l zb qR qw qu qv qQ qO qi qb k
 | 0 => by kernel_rfl
 | k + 1 => by
  refine Eq.trans (b := qd.b9 l zb qR qw qu qv qQ qO qi qb (qd.p9 qa l zb qR qw qu qv qQ qO qi qb k) (qd.p13 qa l zb qR qw qu qv qQ qO qi qb qa)) (by kernel_rfl) ?_
  rw [qd.l9_eq qa l zb qR qw qu qv qQ qO qi qb k, qd.l13_eq qa l zb qR qw qu qv qQ qO qi qb qa]
  kernel_rfl
theorem qd.l7_eq (qa : Nat) (l : List Int) (zb qR qw qu qv : Int) (qQ : Bool) (qO : LF) (qi : Int) (qb : LR) : ∀ k : Nat, qd.p7 qa l zb qR qw qu qv qQ qO qi qb k = qd.l7 qa l zb qR qw qu qv qQ qO qi qb k
 | 0 => by kernel_rfl
 | k + 1 => by
  refine Eq.trans (b := qd.b7 l zb qR qw qu qv qQ qO qi qb (qd.p7 qa l zb qR qw qu qv qQ qO qi qb k) (qd.p9 qa l zb qR qw qu qv qQ qO qi qb qa)) (by kernel_rfl) ?_
  rw [qd.l7_eq qa l zb qR qw qu qv qQ qO qi qb k, qd.l9_eq qa l zb qR qw qu qv qQ qO qi qb qa]
  kernel_rfl
theorem qd.l5_eq (qa : Nat) (l : List Int) (zb qR qw qu qv : Int) (qQ : Bool) (qO : LF) (qi : Int) (qb : LR) : ∀ k : Nat, qd.p5 qa l zb qR qw qu qv qQ qO qi qb k = qd.l5 qa l zb qR qw qu qv qQ qO qi qb k
 | 0 => by kernel_rfl
 | k + 1 => by
  refine Eq.trans (b := qd.b5 l zb qR qw qu qv qQ qO qi qb (qd.p5 qa l zb qR qw qu qv qQ qO qi qb k) (qd.p7 qa l zb qR qw qu qv qQ qO qi qb qa)) (by kernel_rfl) ?_
  rw [qd.l5_eq qa l zb qR qw qu qv qQ qO qi qb k, qd.l7_eq qa l zb qR qw qu qv qQ qO qi qb qa]
  kernel_rfl
theorem qd.eq (qa : Nat) (l : List Int) (zb qR qw qu qv : Int) (qQ : Bool) (qO : LF) (qi : Int) (qb : LR) : (denF Z5 loopN qa Tryz.f120 [.pb [.own (some 0) [] 0 5 (.int .u8) true, .kill 1]] [.agg [.ptr 0 0], .agg [.d tQi zb, .d tQi qR, .d tQi qw, .d tQi qu, .d tQi qv, .d .bool qQ, .d (.sl (.pair tQi (.sl (.int .u8)))) qO], .d tQi qi, .d (.sl tQr) qb] [.box [.row 1, .d .bool false], .row 5 (.int .u8) l false] qd.k) = qd.f qa l zb qR qw qu qv qQ qO qi qb := by
 refine Eq.trans (b := qd.b l zb qR qw qu qv qQ qO qi qb (qd.p5 qa l zb qR qw qu qv qQ qO qi qb qa)) (by kernel_rfl) ?_
 rw [qd.l5_eq qa l zb qR qw qu qv qQ qO qi qb qa]
 kernel_rfl
def Z2 : Den.Sum := ⟨[.pb [.own none [0] 0 5 (.int .u8) false], .dat tQr true, .raw, .dat (.sl tQr) false], fun qK qn κ => match qK, qn with
 | [.agg [.ptr 0 0], .agg [.d (.int .i64) zb, .d (.int .i64) qR, .d (.int .i64) qw, .d (.int .i64) qu, .d (.int .i64) qv, .d .bool qQ, .d (.sl (.pair (.int .i64) (.sl (.int .u8)))) qO], .d (.int .i64) qi, .d (.sl (.pair (.int .i64) (.pair (.int .i64) (.pair (.int .i64) (.pair (.pair (.int .i64) (.int .i64)) (.pair .bool (.sl (.pair (.int .i64) (.sl (.int .u8)))))))))) qb], [.box [.row 1, .d .bool false], .row 5 (.int .u8) l false] => (match veil (qd.f BIG l zb qR qw qu qv qQ qO qi qb) with | none => none | some y => κ [] [.box [.row 2, .d .bool false], .gone, .row 5 (.int .u8) y false])
 | _, _ => none⟩
theorem qgQ : SumDet Z2 := zj fun _ _ _ _ => by
 unfold Z2
 simp only [veil_eq]
 split
 ·split <;> rfl
 ·rfl
theorem qhc : SumOk Tryz.prog 120 Z2 := by
 have hE : EnvOk Tryz.prog Z5 := env_ok (l := [(79, qdd), (80, qaT), (119, Q0), (75, qdh), (130, QZ), (131, qaJ), (122, qbe), (132, qbt)]) th_ok qZ ⟨⟨qhb, qf4⟩, ⟨qdU, qdg⟩, ⟨qdT, qdx⟩, ⟨qkA, qjg⟩, ⟨qdS, qdw⟩, ⟨qgH, qf1⟩, ⟨qhM, qgK⟩, ⟨qke, qjx⟩, trivial⟩ _
 refine sum_ok hE Tryz.func120 rfl (by kernel_rfl) Z2 [.pb [.own (some 0) [] 0 5 (.int .u8) true, .kill 1]] qd.k ?_
 intro R avs qn κ r h
 unfold Z2 at h
 simp only [veil_eq] at h
 split at h
 ·rename_i zb qR qw qu qv qQ qO qi qb l
  split at h
  ·cases h
  ·rename_i y hy
   refine ⟨BIG, _, _, _, (qd.eq BIG l zb qR qw qu qv qQ qO qi qb).trans hy, ?_, h⟩
   intro rs ros hk
   unfold qd.k at hk
   split at hk
   ·rw [← sj hk]; exact ⟨rfl, rfl⟩
   ·cases hk
 ·cases h
theorem qd.l17_at (qa n k : Nat) (hn : n = k + 1) (l : List Int) (zb : Int) (qR : Int) (qw : Int) (qu : Int) (qv : Int) (qQ : Bool) (qO : LF) (qi : Int) (qb : LR) (x41 : Int) (x42 : Int) (x43 : (List Int)) : qd.l17 qa l zb qR qw qu qv qQ qO qi qb n x41 x42 x43 = qd.b17 l zb qR qw qu qv qQ qO qi qb (qd.l17 qa l zb qR qw qu qv qQ qO qi qb k) x41 x42 x43 := by
 subst hn
 rfl
theorem qd.l13_at (qa n k : Nat) (hn : n = k + 1) (l : List Int) (zb : Int) (qR : Int) (qw : Int) (qu : Int) (qv : Int) (qQ : Bool) (qO : LF) (qi : Int) (qb : LR) (x28 : Int) (x29 : (List Int)) (x30 : Int) (x31 : Int) (x32 : Int) (x33 : Int) (x34 : Int) (x35 : Bool) (x36 : LF) : qd.l13 qa l zb qR qw qu qv qQ qO qi qb n x28 x29 x30 x31 x32 x33 x34 x35 x36 = qd.b13 l zb qR qw qu qv qQ qO qi qb (qd.l13 qa l zb qR qw qu qv qQ qO qi qb k) (qd.l17 qa l zb qR qw qu qv qQ qO qi qb qa) x28 x29 x30 x31 x32 x33 x34 x35 x36 := by
 subst hn
 rfl
theorem qd.l9_at (qa n k : Nat) (hn : n = k + 1) (l : List Int) (zb : Int) (qR : Int) (qw : Int) (qu : Int) (qv : Int) (qQ : Bool) (qO : LF) (qi : Int) (qb : LR) (x19 : Int) (x20 : Int) (x21 : Int) (x22 : Int) (x23 : Int) (x24 : Int) (x25 : Bool) (x26 : LF) : qd.l9 qa l zb qR qw qu qv qQ qO qi qb n x19 x20 x21 x22 x23 x24 x25 x26 = qd.b9 l zb qR qw qu qv qQ qO qi qb (qd.l9 qa l zb qR qw qu qv qQ qO qi qb k) (qd.l13 qa l zb qR qw qu qv qQ qO qi qb qa) x19 x20 x21 x22 x23 x24 x25 x26 := by
 subst hn
 rfl
theorem qd.l7_at (qa n k : Nat) (hn : n = k + 1) (l : List Int) (zb : Int) (qR : Int) (qw : Int) (qu : Int) (qv : Int) (qQ : Bool) (qO : LF) (qi : Int) (qb : LR) (x10 : Bool) (x11 : Int) (x12 : Int) (x13 : Int) (x14 : Int) (x15 : Int) (x16 : Int) (x17 : Bool) (x18 : LF) : qd.l7 qa l zb qR qw qu qv qQ qO qi qb n x10 x11 x12 x13 x14 x15 x16 x17 x18 = qd.b7 l zb qR qw qu qv qQ qO qi qb (qd.l7 qa l zb qR qw qu qv qQ qO qi qb k) (qd.l9 qa l zb qR qw qu qv qQ qO qi qb qa) x10 x11 x12 x13 x14 x15 x16 x17 x18 := by
 subst hn
 rfl
theorem qd.l5_at (qa n k : Nat) (hn : n = k + 1) (l : List Int) (zb : Int) (qR : Int) (qw : Int) (qu : Int) (qv : Int) (qQ : Bool) (qO : LF) (qi : Int) (qb : LR) (x1 : Bool) (x2 : Int) (x3 : Int) (x4 : Int) (x5 : Int) (x6 : Int) (x7 : Int) (x8 : Bool) (x9 : LF) : qd.l5 qa l zb qR qw qu qv qQ qO qi qb n x1 x2 x3 x4 x5 x6 x7 x8 x9 = qd.b5 l zb qR qw qu qv qQ qO qi qb (qd.l5 qa l zb qR qw qu qv qQ qO qi qb k) (qd.l7 qa l zb qR qw qu qv qQ qO qi qb qa) x1 x2 x3 x4 x5 x6 x7 x8 x9 := by
 subst hn
 rfl
abbrev REC := Int × Int × Int × (Int × Int) × Bool × LF
theorem qaX : BIG = (BIG - 1) + 1 := by rw [Zx]
def viF : Nat → Int → List Int
 | 0, v => [v]
 | k + 1, v => if v ≥ 128 then (v % 128 + 128) :: viF k (v / 128) else [v]
def vi (v : Int) : List Int := viF 9 v
theorem qp0 : (List.range 256).all (fun n => bits BinOp.or .u8 (n : Int) 128 == (n : Int) % 128 + 128) = true := by kernel_rfl
theorem qsq (c : Int) (h0 : 0 ≤ c) (h1 : c < 256) : bits BinOp.or .u8 c 128 = c % 128 + 128 := by
 have := List.all_eq_true.1 qp0 c.toNat (by simp; omega)
 rw [show ((c.toNat : Nat) : Int) = c from by omega] at this
 simpa using this
theorem qgE (n : Int) : IntKind.wrap .u8 n = n % 256 := by
 simp [IntKind.wrap, IntKind.signed, IntKind.bits]
theorem Of.loop (qa : Nat) (v : Int) : ∀ (j k : Nat) (x0 : Int) (x1 : List Int), 0 ≤ x0 → x0 < 128 ^ (j + 1) → j < k → x1.length + j < 1000 →
  zB.l2 qa v k x0 x1 = some (x1 ++ viF j x0) := by
 intro j
 induction j with
 | zero =>
  intro k x0 x1 h0 h1 hk hl
  obtain ⟨k, rfl⟩ : ∃ k', k = k' + 1 := ⟨k - 1, by omega⟩
  rw [zB.l2]
  unfold zB.b2
  rw [if_neg (by simp at h1 ⊢; omega), if_pos (by simp [lim]; omega), qgE, show x0 % 256 = x0 from by simp at h1; omega]
  rfl
 | succ j ih =>
  intro k x0 x1 h0 h1 hk hl
  obtain ⟨k, rfl⟩ : ∃ k', k = k' + 1 := ⟨k - 1, by omega⟩
  rw [zB.l2]
  unfold zB.b2
  rw [viF]
  by_cases hc : x0 ≥ 128
  ·rw [if_pos (by simpa using hc), if_pos (by simp [lim]; omega), if_pos hc, qgE, qsq _ (by omega) (by omega)]
   rw [show ((2 : Int) ^ (Min.min (Int.toNat (7 : Int)) (IntKind.bits .u64))) = 128 from rfl, Int.fdiv_eq_ediv_of_nonneg _ (by omega)]
   rw [ih k (x0 / 128) _ (by omega) (by rw [Int.pow_succ] at h1; generalize (128 : Int) ^ (j + 1) = M at h1 ⊢; omega) (by omega) (by simp; omega), show x0 % 256 % 128 = x0 % 128 from by omega]
   simp
  ·rw [if_neg (by simpa using hc), if_pos (by simp [lim]; omega), if_neg hc, qgE, show x0 % 256 = x0 from by omega]
theorem Of.pure (v : Int) (h0 : 0 ≤ v) (h1 : v < 18446744073709551616) : zB.f BIG v = some (vi v) := by
 unfold zB.f zB.b vi
 rw [Of.loop BIG v 9 BIG v [] h0 (by simp; omega) (by rw [Zx]; omega) (by simp)]
 rfl
theorem qnW : ∀ (j : Nat) (v : Int), 1 ≤ (viF j v).length ∧ (viF j v).length ≤ j + 1
 | 0, v => by simp [viF]
 | j + 1, v => by
  rw [viF]
  split
  ·have := qnW j (v / 128)
   simp; omega
  ·simp
theorem qaD (v : Int) : 1 ≤ (vi v).length ∧ (vi v).length ≤ 10 := qnW 9 v
theorem Raw.pure (l b : List Int) (h : l.length + b.length ≤ 1099511627776) : z7.f BIG l b = some (l ++ b) := by
 unfold z7.f z7.b
 rw [if_pos (by simp [lim]; omega)]
theorem qab (n : Int) (h0 : 0 ≤ n) (h1 : n < 18446744073709551616) : IntKind.wrap .u64 n = n := by
 simp [IntKind.wrap, IntKind.signed, IntKind.bits]
 omega
theorem qjZ.loop (qa : Nat) (l0 vs : List Int) (hv : ∀ v ∈ vs, 0 ≤ v ∧ v < 9223372036854775808) (hn : vs.length < 1000) : ∀ (k i : Nat) (acc : List Int), i ≤ vs.length → vs.length - i < k → acc.length + 10 * (vs.length - i) ≤ 1099511627776 →
  qm.l2 qa l0 vs k (vs.length : Int) (i : Int) acc = some (acc ++ (vs.drop i).flatMap vi) := by
 intro k
 induction k with
 | zero => intro i acc h1 h2; omega
 | succ k ih =>
  intro i acc h1 h2 h3
  rw [qm.l2]
  unfold qm.b2
  simp only [veil_eq]
  by_cases hi : i < vs.length
  ·rw [if_pos (by simp; omega), Qn, List.getElem?_eq_getElem hi]
   dsimp only
   obtain ⟨v0, v1⟩ := hv vs[i] (List.getElem_mem hi)
   have hl := qaD vs[i]
   rw [qab _ v0 (by omega), Of.pure _ v0 (by omega)]
   dsimp only
   rw [Raw.pure _ _ (by omega)]
   dsimp only
   rw [qX _ (by omega) (by omega), show ((i : Int) + 1) = ((i + 1 : Nat) : Int) from by omega, ih (i + 1) _ (by omega) (by omega) (by simp; omega), List.drop_eq_getElem_cons hi, List.flatMap_cons]
   simp
  ·rw [if_neg (by simp; omega), List.drop_of_length_le (by omega)]
   simp
theorem qjZ.pure (l vs : List Int) (hv : ∀ v ∈ vs, 0 ≤ v ∧ v < 9223372036854775808) (hn : vs.length < 1000) (hl : l.length + 10 * vs.length ≤ 1099511627776) : qm.f BIG l vs = some (l ++ vs.flatMap vi) := by
 unfold qm.f qm.b
 exact qjZ.loop BIG l vs hv hn BIG 0 l (by omega) (by rw [Zx]; omega) (by omega)
def qbq (n : Int) : Int := if n ≥ 0 then 2 * n else -2 * n - 1
theorem qqE (a : Int) (h0 : 0 ≤ a) (h1 : a < 18446744073709551616) : bits BinOp.xor .u64 a 0 = a := by
 have e : bits BinOp.xor .u64 a 0 = IntKind.wrap .u64 ((BitVec.ofInt 64 a ^^^ 0#64).toNat : Int) := rfl
 rw [e, BitVec.xor_zero, BitVec.toNat_ofInt, qab]
 ·omega
 ·omega
 ·omega
theorem qqF (a : Int) (h0 : 0 ≤ a) (h1 : a < 18446744073709551616) : bits BinOp.xor .u64 a 18446744073709551615 = 18446744073709551615 - a := by
 have e : bits BinOp.xor .u64 a 18446744073709551615 = IntKind.wrap .u64 ((BitVec.ofInt 64 a ^^^ BitVec.ofInt 64 18446744073709551615).toNat : Int) := rfl
 rw [e, show BitVec.ofInt 64 18446744073709551615 = BitVec.allOnes 64 from by decide +kernel, BitVec.xor_allOnes, BitVec.toNat_not, BitVec.toNat_ofInt, qab]
 ·omega
 ·omega
 ·omega
theorem Zig.pure (n : Int) (h0 : -4611686018427387904 ≤ n) (h1 : n < 4611686018427387904) : ZK.f BIG n = some (qbq n) := by
 unfold ZK.f ZK.b qbq
 rw [show ((2 : Int) ^ (Min.min (Int.toNat (1 : Int)) (IntKind.bits .u64))) = 2 from rfl, show ((2 : Int) ^ (Min.min (Int.toNat (63 : Int)) (IntKind.bits .i64))) = 9223372036854775808 from by decide +kernel, Int.fdiv_eq_ediv_of_nonneg _ (by omega)]
 by_cases h : n ≥ 0
 ·rw [if_pos h, show n / 9223372036854775808 = 0 from by omega, qab n (by omega) (by omega), qab _ (by omega) (by omega), qab 0 (by omega) (by omega), qqE _ (by omega) (by omega)]
  congr 1
  omega
 ·rw [if_neg h, show n / 9223372036854775808 = -1 from by omega]
  have e1 : IntKind.wrap .u64 n = n + 18446744073709551616 := by simp [IntKind.wrap, IntKind.signed, IntKind.bits]; omega
  have e2 : IntKind.wrap .u64 ((n + 18446744073709551616) * 2) = 2 * n + 18446744073709551616 := by simp [IntKind.wrap, IntKind.signed, IntKind.bits]; omega
  have e3 : IntKind.wrap .u64 (-1) = 18446744073709551615 := by decide +kernel
  rw [e1, e2, e3, qqF _ (by omega) (by omega)]
  congr 1
  omega
theorem One.pure (t : Int) (d : List Int) (h : d.length ≤ 1099511627776) : qaZ.f BIG t d = some (t, d) := by
 unfold qaZ.f qaZ.b
 rw [if_pos (by simp; omega), if_pos (by simp)]
 simp
theorem qrx.loop (qa : Nat) (b : LF) (b2 : ∀ x ∈ b, x.2.length ≤ 1000000) (hn : b.length < 1000000000) : ∀ (k i : Nat) (acc : LF), i ≤ b.length → b.length - i < k → acc.length ≤ i →
  zR.l3 qa b k (b.length : Int) (i : Int) acc = some (acc ++ b.drop i) := by
 intro k
 induction k with
 | zero => intro i acc h1 h2; omega
 | succ k ih =>
  intro i acc h1 h2 h3
  rw [zR.l3]
  unfold zR.b3
  simp only [veil_eq]
  by_cases hi : i < b.length
  ·rw [if_pos (by simp; omega), Qn, List.getElem?_eq_getElem hi]
   dsimp only
   have hx := b2 b[i] (List.getElem_mem hi)
   rw [One.pure _ _ (by omega)]
   dsimp only
   rw [if_pos (by simp [lim]; omega), qX _ (by omega) (by omega), show ((i : Int) + 1) = ((i + 1 : Nat) : Int) from by omega, ih (i + 1) _ (by omega) (by omega) (by simp; omega), List.drop_eq_getElem_cons hi]
   simp only [List.append_assoc, List.singleton_append]
  ·rw [if_neg (by simp; omega), List.drop_of_length_le (by omega)]
   simp
theorem qrx.pure (b : LF) (hb : ∀ x ∈ b, x.2.length ≤ 1000000) (hn : b.length < 1000000000) : zR.f BIG b = some b := by
 unfold zR.f zR.b
 have := qrx.loop BIG b hb hn BIG 0 [] (by omega) (by rw [Zx]; omega) (by simp)
 rw [show ((0 : Nat) : Int) = 0 from rfl] at this
 rw [this]
 simp
theorem qsD.pure (r : REC) (hb : ∀ x ∈ r.2.2.2.2.2, x.2.length ≤ 1000000) (hn : r.2.2.2.2.2.length < 1000000000) : Z6.f BIG r.1 r.2.1 r.2.2.1 r.2.2.2.1.1 r.2.2.2.1.2 r.2.2.2.2.1 r.2.2.2.2.2 = some (r.1, r.2.1, r.2.2.1, r.2.2.2.1.1, r.2.2.2.1.2, r.2.2.2.2.1, r.2.2.2.2.2) := by
 unfold Z6.f Z6.b
 rw [veil_eq, qrx.pure _ hb hn]
theorem qsi.loop (qa : Nat) (l : LR) (id : Int) (hn : l.length < 1000000000) : ∀ (k i : Nat), i ≤ l.length → l.length - i < k →
  qU.l2 qa l id k (l.length : Int) (i : Int) id = some (((i + (l.drop i).findIdx (fun r => r.1 == id) : Nat) : Int), id) := by
 intro k
 induction k with
 | zero => intro i h1 h2; omega
 | succ k ih =>
  intro i h1 h2
  rw [qU.l2]
  unfold qU.b2
  simp only [veil_eq]
  by_cases hi : i < l.length
  ·rw [if_pos (by simp; omega), Qn, List.getElem?_eq_getElem hi]
   dsimp only
   rw [show ZT.f BIG l[i].1 l[i].2.1 l[i].2.2.1 l[i].2.2.2.1.1 l[i].2.2.2.1.2 l[i].2.2.2.2.1 l[i].2.2.2.2.2 id = some ((l[i].1 == id), id) from rfl]
   dsimp only
   rw [List.drop_eq_getElem_cons hi, List.findIdx_cons]
   cases hc : (l[i].1 == id)
   ·rw [if_neg (by simp), qX _ (by omega) (by omega), show ((i : Int) + 1) = ((i + 1 : Nat) : Int) from by omega, ih (i + 1) (by omega) (by omega)]
    simp only [cond_false]
    congr 2
    omega
   ·rw [if_pos rfl]
    simp
  ·rw [if_neg (by simp; omega), List.drop_of_length_le (by omega)]
   simp
   omega
def zF (qb : LR) (id : Int) : REC × Bool :=
 match qb.find? (fun r => r.1 == id) with
 | some r => (r, true)
 | none => ((0, 0, 0, (0, 0), false, []), false)
theorem qrh (l : LR) (id : Int) : l.find? (fun r => r.1 == id) = l[l.findIdx (fun r => r.1 == id)]? := by
 induction l with
 | nil => rfl
 | cons x l ih =>
  rw [List.find?_cons, List.findIdx_cons]
  cases x.1 == id
  ·simp [ih]
  ·simp
def qne (l : LR) : Prop := l.length < 1000000000 ∧ ∀ r ∈ l, r.2.2.2.2.2.length < 1000000000 ∧ ∀ x ∈ r.2.2.2.2.2, x.2.length ≤ 1000000
theorem qrw.pure (l : LR) (id : Int) (hl : qne l) :
  qal.f BIG l id = some ((zF l id).1.1, (zF l id).1.2.1, (zF l id).1.2.2.1, (zF l id).1.2.2.2.1.1, (zF l id).1.2.2.2.1.2, (zF l id).1.2.2.2.2.1, (zF l id).1.2.2.2.2.2, (zF l id).2) := by
 obtain ⟨hn, l2⟩ := hl
 unfold qal.f qal.b
 simp only [veil_eq]
 have hw : qU.f BIG l id = some (((l.findIdx (fun r => r.1 == id) : Nat) : Int), id) := by
  unfold qU.f qU.b
  have := qsi.loop BIG l id hn BIG 0 (by omega) (by rw [Zx]; omega)
  rw [show ((0 : Nat) : Int) = 0 from rfl] at this
  rw [this]
  simp
 rw [hw]
 dsimp only
 unfold zF
 rw [qrh]
 by_cases hi : l.findIdx (fun r => r.1 == id) < l.length
 ·rw [if_neg (by simp; omega), Qn, List.getElem?_eq_getElem hi]
  dsimp only
  have hm := List.getElem_mem hi
  generalize l[l.findIdx (fun r => r.1 == id)] = r at hm ⊢
  rw [qsD.pure r (l2 r hm).2 (l2 r hm).1]
 ·have : l.findIdx (fun r => r.1 == id) = l.length := by have := List.findIdx_le_length (xs := l) (p := fun r => r.1 == id); omega
  rw [if_pos (by rw [this]; simp), List.getElem?_eq_none (by omega)]
def qiP : Go.Shelf.Ren where
 f := fun x => match x with
  | 156 => 42
  | 165 => 67
  | 166 => 47
  | 169 => 49
  | 240 => 71
  | 241 => 101
  | 276 => 106
  | 277 => 125
  | n => n
 t := fun x => match x with
  | 31 => 47
  | 9 => 9
  | 3 => 3
  | 4 => 4
  | 0 => 0
  | 20 => 20
  | 72 => 91
  | 76 => 94
  | 70 => 89
  | 37 => 30
  | 75 => 93
  | 127 => 118
  | 164 => 158
  | 5 => 5
  | 80 => 97
  | n => n
 g := fun x => x
theorem qjP : Go.Proofs.Lays.n156 Tryz.prog qiP where
 mixed := by kernel_rfl
 f156 := Tryz.func42
 f165 := Tryz.func67
 f166 := Tryz.func47
 f169 := Tryz.func49
 f240 := Tryz.func71
 f241 := Tryz.func101
 f276 := Tryz.func106
 f277 := Tryz.func125
 t0 := Tryz.underlying0
 a0 := Tryz.isAgg0
 z0 := Tryz.sizeOf0
 v0 := Tryz.zeroValue0
 t3 := Tryz.underlying3
 a3 := Tryz.isAgg3
 z3 := Tryz.sizeOf3
 v3 := Tryz.zeroValue3
 t4 := Tryz.underlying4
 a4 := Tryz.isAgg4
 z4 := Tryz.sizeOf4
 v4 := Tryz.zeroValue4
 t9 := Tryz.underlying9
 a9 := Tryz.isAgg9
 z9 := Tryz.sizeOf9
 v9 := Tryz.zeroValue9
 t20 := Tryz.underlying20
 a20 := Tryz.isAgg20
 z20 := Tryz.sizeOf20
 v20 := Tryz.zeroValue20
 t31 := Tryz.underlying47
 a31 := Tryz.isAgg47
 z31 := Tryz.sizeOf47
 v31 := Tryz.zeroValue47
 t37 := Tryz.underlying30
 a37 := Tryz.isAgg30
 z37 := Tryz.sizeOf30
 v37 := Tryz.zeroValue30
 t70 := Tryz.underlying89
 a70 := Tryz.isAgg89
 z70 := Tryz.sizeOf89
 v70 := Tryz.zeroValue89
 t72 := Tryz.underlying91
 a72 := Tryz.isAgg91
 z72 := Tryz.sizeOf91
 v72 := Tryz.zeroValue91
 t75 := Tryz.underlying93
 a75 := Tryz.isAgg93
 z75 := Tryz.sizeOf93
 v75 := Tryz.zeroValue93
 t76 := Tryz.underlying94
 a76 := Tryz.isAgg94
 z76 := Tryz.sizeOf94
 v76 := Tryz.zeroValue94
 t127 := Tryz.underlying118
 a127 := Tryz.isAgg118
 z127 := Tryz.sizeOf118
 v127 := Tryz.zeroValue118
 t164 := Tryz.underlying158
 a164 := Tryz.isAgg158
 z164 := Tryz.sizeOf158
 v164 := Tryz.zeroValue158
theorem qiz : Go.Proofs.Builder.Extra Tryz.prog qiP where
 sizeBuilder := by kernel_rfl
 liesBuilder := by kernel_rfl
 t5 := Tryz.underlying5
 a5 := Tryz.isAgg5
 z5 := Tryz.sizeOf5
 v5 := Tryz.zeroValue5
 infoByte := by kernel_rfl
 cellsByte := by kernel_rfl
 sizeByte := by kernel_rfl
 neB5 := by decide
def qfv : Den.Sum := Go.Den.s_join
theorem qjb : SumDet qfv := Go.Den.s_join_det
theorem qkq : SumOk Tryz.prog 42 qfv := Go.Den.s_join_ok qjP qiz Tryz.func42 rfl (by kernel_rfl)
def qgr : Env := ⟨th, gam [], fun i => if i = 6 then ⟨[0, 3, 4, 5], [], []⟩ else ⟨[], [], []⟩⟩
def zl.k (rs : List AV) (os : List Den.Obj) : Option ByteArray :=
 match rs, os with
 | [.d .str r0], [] => some r0
 | _, _ => none
def zl.s6 (v x0 x1 : Int) (x2 : (List Int)) : St := ⟨[.d tQi (v), .dead, .dead, .ptr 64 0, .d tQi x0, .d (.int .u64) x1, dD, dD, dD, dD, dD, dD, dD, dD, dD, dD, dD, dD, dD, dD, dD, dD, dD, dD, dD, dD, dD, dD, dD, dD, dD, dD, .dead], ofL [(64, .arr 20 (.int .u8) x2)], 0⟩
def zl.p6 (qa : Nat) (v : Int) (k : Nat) := fun x0 x1 x2 => lp qgr qa Tryz.f22 [.raw] 0 zl.k 6 [] k (zl.s6 v x0 x1 x2)
def zl.b6 (v : Int) (A6 : Int → Int → (List Int) → Option ByteArray) (x0 : Int) (x1 : Int) (x2 : (List Int)) : Option ByteArray :=
 (match (idx x2 (IntKind.wrap .i64 (x0 - (1 : Int)))) with | none => none | some y3 => (match (idx x2 (IntKind.wrap .i64 (x0 - (1 : Int)))) with | none => none | some y4 => (if ((IntKind.wrap .u64 (Int.tdiv x1 (10 : Int))) == (0 : Int)) then (if (decide (v < (0 : Int))) then (match (idx (List.set x2 (Int.toNat (IntKind.wrap .i64 (x0 - (1 : Int)))) (IntKind.wrap .u8 (IntKind.wrap .u64 ((48 : Int) + (Int.tmod x1 (10 : Int)))))) (IntKind.wrap .i64 ((IntKind.wrap .i64 (x0 - (1 : Int))) - (1 : Int)))) with | none => none | some y5 => (match (idx (List.set x2 (Int.toNat (IntKind.wrap .i64 (x0 - (1 : Int)))) (IntKind.wrap .u8 (IntKind.wrap .u64 ((48 : Int) + (Int.tmod x1 (10 : Int)))))) (IntKind.wrap .i64 ((IntKind.wrap .i64 (x0 - (1 : Int))) - (1 : Int)))) with | none => none | some y6 => (if (((0 : Int) ≤ (IntKind.wrap .i64 ((IntKind.wrap .i64 (x0 - (1 : Int))) - (1 : Int)))) ∧ ((IntKind.wrap .i64 ((IntKind.wrap .i64 (x0 - (1 : Int))) - (1 : Int))) ≤ ((((List.length (List.set (List.set x2 (Int.toNat (IntKind.wrap .i64 (x0 - (1 : Int)))) (IntKind.wrap .u8 (IntKind.wrap .u64 ((48 : Int) + (Int.tmod x1 (10 : Int)))))) (Int.toNat (IntKind.wrap .i64 ((IntKind.wrap .i64 (x0 - (1 : Int))) - (1 : Int)))) (45 : Int)))) : Nat) : Int))) then some ((strOf (List.drop (Int.toNat (IntKind.wrap .i64 ((IntKind.wrap .i64 (x0 - (1 : Int))) - (1 : Int)))) (List.take (List.length (List.set (List.set x2 (Int.toNat (IntKind.wrap .i64 (x0 - (1 : Int)))) (IntKind.wrap .u8 (IntKind.wrap .u64 ((48 : Int) + (Int.tmod x1 (10 : Int)))))) (Int.toNat (IntKind.wrap .i64 ((IntKind.wrap .i64 (x0 - (1 : Int))) - (1 : Int)))) (45 : Int))) (List.set (List.set x2 (Int.toNat (IntKind.wrap .i64 (x0 - (1 : Int)))) (IntKind.wrap .u8 (IntKind.wrap .u64 ((48 : Int) + (Int.tmod x1 (10 : Int)))))) (Int.toNat (IntKind.wrap .i64 ((IntKind.wrap .i64 (x0 - (1 : Int))) - (1 : Int)))) (45 : Int)))))) else none))) else (if (((0 : Int) ≤ (IntKind.wrap .i64 (x0 - (1 : Int)))) ∧ ((IntKind.wrap .i64 (x0 - (1 : Int))) ≤ ((((List.length (List.set x2 (Int.toNat (IntKind.wrap .i64 (x0 - (1 : Int)))) (IntKind.wrap .u8 (IntKind.wrap .u64 ((48 : Int) + (Int.tmod x1 (10 : Int)))))))) : Nat) : Int))) then some ((strOf (List.drop (Int.toNat (IntKind.wrap .i64 (x0 - (1 : Int)))) (List.take (List.length (List.set x2 (Int.toNat (IntKind.wrap .i64 (x0 - (1 : Int)))) (IntKind.wrap .u8 (IntKind.wrap .u64 ((48 : Int) + (Int.tmod x1 (10 : Int))))))) (List.set x2 (Int.toNat (IntKind.wrap .i64 (x0 - (1 : Int)))) (IntKind.wrap .u8 (IntKind.wrap .u64 ((48 : Int) + (Int.tmod x1 (10 : Int)))))))))) else none)) else A6 (IntKind.wrap .i64 (x0 - (1 : Int))) (IntKind.wrap .u64 (Int.tdiv x1 (10 : Int))) (List.set x2 (Int.toNat (IntKind.wrap .i64 (x0 - (1 : Int)))) (IntKind.wrap .u8 (IntKind.wrap .u64 ((48 : Int) + (Int.tmod x1 (10 : Int)))))))))
def zl.l6 (qa : Nat) (v : Int) : Nat → Int → Int → (List Int) → Option ByteArray
 | 0, _, _, _ => none
 | k + 1, x0, x1, x2 => zl.b6 v (zl.l6 qa v k) x0 x1 x2
def zl.b (v : Int) (E6 : Int → Int → (List Int) → Option ByteArray) : Option ByteArray :=
 (if (decide (v < (0 : Int))) then E6 (20 : Int) (IntKind.wrap .u64 ((0 : Int) - (IntKind.wrap .u64 v))) (List.replicate (20 : Nat) (zeroI (Go.Den.Ty.int .u8))) else E6 (20 : Int) (IntKind.wrap .u64 v) (List.replicate (20 : Nat) (zeroI (Go.Den.Ty.int .u8))))
def zl.f (qa : Nat) (v : Int) : Option ByteArray := zl.b v (zl.l6 qa v qa)
theorem zl.l6_eq (qa : Nat) (v : Int) : ∀ k : Nat, zl.p6 qa v k = zl.l6 qa v k
 | 0 => by kernel_rfl
 | k + 1 => by
  refine Eq.trans (b := zl.b6 v (zl.p6 qa v k)) (by kernel_rfl) ?_
  rw [zl.l6_eq qa v k]
  kernel_rfl
theorem zl.eq (qa : Nat) (v : Int) : (denF qgr loopN qa Tryz.f22 [.raw] [.d tQi v] [] zl.k) = zl.f qa v := by
 refine Eq.trans (b := zl.b v (zl.p6 qa v qa)) (by kernel_rfl) ?_
 rw [zl.l6_eq qa v qa]
 kernel_rfl
def Q3 : Den.Sum := ⟨[.raw], fun qK qn κ => match qK, qn with
 | [.d (.int .i64) v], [] => (match veil (zl.f BIG v) with | none => none | some y => κ [.d .str y] [])
 | _, _ => none⟩
theorem qbQ : SumDet Q3 := zj fun _ _ _ _ => by
 unfold Q3
 simp only [veil_eq]
 split
 ·split <;> rfl
 ·rfl
theorem qcd : SumOk Tryz.prog 22 Q3 := by
 have hE : EnvOk Tryz.prog qgr := env_ok (l := []) th_ok qZ trivial _
 refine sum_ok hE Tryz.func22 rfl (by kernel_rfl) Q3 [.raw] zl.k ?_
 intro R avs qn κ r h
 unfold Q3 at h
 simp only [veil_eq] at h
 split at h
 ·rename_i v
  split at h
  ·cases h
  ·rename_i y hy
   refine ⟨BIG, _, _, _, (zl.eq BIG v).trans hy, ?_, h⟩
   intro rs ros hk
   unfold zl.k at hk
   split at hk
   ·rw [← sj hk]; exact ⟨rfl, rfl⟩
   ·cases hk
 ·cases h
def qkR : Env := ⟨th, gam [], fun i => ⟨[], [], []⟩⟩
def Qu.k (rs : List AV) (os : List Den.Obj) : Option ByteArray :=
 match rs, os with
 | [.d .str r0], [] => some r0
 | _, _ => none
def Qu.b (t : ByteArray) : Option ByteArray :=
 (if ((ByteArray.toList t) == (ByteArray.toList (⟨(([] : List UInt8)).toArray⟩ : ByteArray))) then some ((⟨((63 :: ([] : List UInt8))).toArray⟩ : ByteArray)) else some (t))
def Qu.f (qa : Nat) (t : ByteArray) : Option ByteArray := Qu.b t
theorem Qu.eq (qa : Nat) (t : ByteArray) : (denF qkR loopN qa Tryz.f38 [.raw] [.d .str t] [] Qu.k) = Qu.f qa t := by
 kernel_rfl
def qbf : Den.Sum := ⟨[.raw], fun qK qn κ => match qK, qn with
 | [.d .str t], [] => (match veil (Qu.f BIG t) with | none => none | some y => κ [.d .str y] [])
 | _, _ => none⟩
theorem qgM : SumDet qbf := zj fun _ _ _ _ => by
 unfold qbf
 simp only [veil_eq]
 split
 ·split <;> rfl
 ·rfl
theorem qhN : SumOk Tryz.prog 38 qbf := by
 have hE : EnvOk Tryz.prog qkR := env_ok (l := []) th_ok qZ trivial _
 refine sum_ok hE Tryz.func38 rfl (by kernel_rfl) qbf [.raw] Qu.k ?_
 intro R avs qn κ r h
 unfold qbf at h
 simp only [veil_eq] at h
 split at h
 ·rename_i t
  split at h
  ·cases h
  ·rename_i y hy
   refine ⟨BIG, _, _, _, (Qu.eq BIG t).trans hy, ?_, h⟩
   intro rs ros hk
   unfold Qu.k at hk
   split at hk
   ·rw [← sj hk]; exact ⟨rfl, rfl⟩
   ·cases hk
 ·cases h
def qhV : Env := ⟨th, gam [], fun i => ⟨[], [], []⟩⟩
def Zb.k (rs : List AV) (os : List Den.Obj) : Option (List ByteArray) :=
 match rs, os with
 | [.d (.arr 18 .str) r0], [] => some r0
 | _, _ => none
def Zb.b (u : Unit) : Option (List ByteArray) :=
 some (((⟨((111 :: (107 :: ([] : List UInt8)))).toArray⟩ : ByteArray) :: ((⟨((97 :: (114 :: (103 :: ([] : List UInt8))))).toArray⟩ : ByteArray) :: ((⟨((115 :: (104 :: (111 :: (114 :: (116 :: ([] : List UInt8))))))).toArray⟩ : ByteArray) :: ((⟨((108 :: (111 :: (110 :: (103 :: ([] : List UInt8)))))).toArray⟩ : ByteArray) :: ((⟨((102 :: (111 :: (114 :: (109 :: ([] : List UInt8)))))).toArray⟩ : ByteArray) :: ((⟨((114 :: (97 :: (110 :: (103 :: (101 :: ([] : List UInt8))))))).toArray⟩ : ByteArray) :: ((⟨((102 :: (117 :: (108 :: (108 :: ([] : List UInt8)))))).toArray⟩ : ByteArray) :: ((⟨((110 :: (111 :: (110 :: (101 :: ([] : List UInt8)))))).toArray⟩ : ByteArray) :: ((⟨((115 :: (117 :: (109 :: ([] : List UInt8))))).toArray⟩ : ByteArray) :: ((⟨((103 :: (101 :: (110 :: ([] : List UInt8))))).toArray⟩ : ByteArray) :: ((⟨((107 :: (105 :: (110 :: (100 :: ([] : List UInt8)))))).toArray⟩ : ByteArray) :: ((⟨((111 :: (114 :: (100 :: (101 :: (114 :: ([] : List UInt8))))))).toArray⟩ : ByteArray) :: ((⟨((98 :: (97 :: (115 :: (101 :: ([] : List UInt8)))))).toArray⟩ : ByteArray) :: ((⟨((112 :: (101 :: (101 :: (114 :: ([] : List UInt8)))))).toArray⟩ : ByteArray) :: ((⟨((114 :: (101 :: (112 :: ([] : List UInt8))))).toArray⟩ : ByteArray) :: ((⟨((115 :: (116 :: (97 :: (116 :: (101 :: ([] : List UInt8))))))).toArray⟩ : ByteArray) :: ((⟨((119 :: (111 :: (114 :: (100 :: ([] : List UInt8)))))).toArray⟩ : ByteArray) :: ((⟨((109 :: (111 :: (118 :: (101 :: ([] : List UInt8)))))).toArray⟩ : ByteArray) :: ([] : List ByteArray))))))))))))))))))))
def Zb.f (qa : Nat) (u : Unit) : Option (List ByteArray) := Zb.b u
theorem Zb.eq (qa : Nat) (u : Unit) : (denF qhV loopN qa Tryz.f69 [.raw] [] [] Zb.k) = Zb.f qa u := by
 kernel_rfl
def qa8 : Den.Sum := ⟨[], fun qK qn κ => match qK, qn with
 | [], [] => (match veil (Zb.f BIG ()) with | none => none | some y => κ [.d (.arr 18 .str) y] [])
 | _, _ => none⟩
theorem qiY : SumDet qa8 := zj fun _ _ _ _ => by
 unfold qa8
 simp only [veil_eq]
 split
 ·split <;> rfl
 ·rfl
theorem qjF : SumOk Tryz.prog 69 qa8 := by
 have hE : EnvOk Tryz.prog qhV := env_ok (l := []) th_ok qZ trivial _
 refine sum_ok hE Tryz.func69 rfl (by kernel_rfl) qa8 [.raw] Zb.k ?_
 intro R avs qn κ r h
 unfold qa8 at h
 simp only [veil_eq] at h
 split at h
 ·skip
  split at h
  ·cases h
  ·rename_i y hy
   refine ⟨BIG, _, _, _, (Zb.eq BIG ()).trans hy, ?_, h⟩
   intro rs ros hk
   unfold Zb.k at hk
   split at hk
   ·rw [← sj hk]; exact ⟨rfl, rfl⟩
   ·cases hk
 ·cases h
def qhv : Env := ⟨th, gam [(78, qcc), (79, qdd), (80, qaT), (82, qcf), (41, qah), (119, Q0), (120, Z2)], fun i => if i = 19 then ⟨[1, 5, 6, 78, 79, 80], [(1, 53, tQr)], [1]⟩ else ⟨[], [], []⟩⟩
def zJ.k (rs : List AV) (os : List Den.Obj) : Option (List Int) :=
 match rs, os with
 | [.d (.sl (.int .u8)) r0], [] => some r0
 | _, _ => none
def zJ.s19 (qj qs qH qe qf qG qg qr ql qq : Int) (qh qb x6 : LR) (x7 x8 x9 : Int) (x10 : (List Int)) : St := ⟨[.dead, .d (.sl tQr) x6, dD, dD, dD, .ptr 64 0, .d tQi x7, dD, dD, dD, dD, dD, dD, dD, dD, dD, dD, dD, dD, dD, dD, dD, dD, dD, dD, dD, dD, dD, dD, dD, dD, dD, dD, dD, dD, dD, dD, dD, dD, dD, dD, dD, dD, dD, dD, dD, dD, dD, dD, dD, dD, dD, dD, dD, dD, dD, dD, dD, dD, dD, dD, dD, dD, dD, dD, dD, dD, dD, dD, dD, dD, dD, dD, dD, dD, dD, dD, dD, .d (.sl tQr) (qh), .d tQi x8, .d tQi x9, dD, dD, dD, dD, dD, dD, dD, dD, dD, dD, dD, dD, dD, dD, dD, dD, dD, .dead], ofL [(64, .box [.ptr 65 0]), (65, .box [.row 66, .d .bool (false)]), (66, .row 5 (.int .u8) x10 false)], 0⟩
def zJ.p19 (qa : Nat) (qj qs qH qe qf qG qg qr ql qq : Int) (qh qb : LR) (k : Nat) := fun x6 x7 x8 x9 x10 => lp qhv qa Tryz.f97 [.own 5 (.int .u8)] 0 zJ.k 19 [] k (zJ.s19 qj qs qH qe qf qG qg qr ql qq qh qb x6 x7 x8 x9 x10)
def zJ.b19 (qj qs qH qe qf qG qg qr ql qq : Int) (qh qb : LR) (A19 : LR → Int → Int → Int → (List Int) → Option (List Int)) (x6 : LR) (x7 : Int) (x8 : Int) (x9 : Int) (x10 : (List Int)) : Option (List Int) :=
 (if (decide (x9 < x8)) then (match (idx qh x9) with | none => none | some y11 => (match (veil (qd.f BIG x10 y11.1 y11.2.1 y11.2.2.1 y11.2.2.2.1.1 y11.2.2.2.1.2 y11.2.2.2.2.1 y11.2.2.2.2.2 x7 x6)) with | none => none | some y12 => A19 x6 y11.1 x8 (IntKind.wrap .i64 (x9 + (1 : Int))) y12)) else (if (Zi x10) then some (x10) else none))
def zJ.l19 (qa : Nat) (qj qs qH qe qf qG qg qr ql qq : Int) (qh qb : LR) : Nat → LR → Int → Int → Int → (List Int) → Option (List Int)
 | 0, _, _, _, _, _ => none
 | k + 1, x6, x7, x8, x9, x10 => zJ.b19 qj qs qH qe qf qG qg qr ql qq qh qb (zJ.l19 qa qj qs qH qe qf qG qg qr ql qq qh qb k) x6 x7 x8 x9 x10
def zJ.b (qj qs qH qe qf qG qg qr ql qq : Int) (qh qb : LR) (E19 : LR → Int → Int → Int → (List Int) → Option (List Int)) : Option (List Int) :=
 (if (qq == (0 : Int)) then (if (Qd (1 : Int) qj) then (match (veil (qm.f BIG (be (Int.toNat (1 : Int)) qj) (qs :: (qH :: ([] : List Int))))) with | none => none | some y0 => (if ((Qd (1 : Int) (Qr qe qf)) ∧ (Zi y0)) then (if (qy qj (0 : Int)) then (match (veil (qm.f BIG (y0 ++ (be (Int.toNat (1 : Int)) (Qr qe qf))) (qG :: ([] : List Int)))) with | none => none | some y1 => (if (qy qj (1 : Int)) then (match (veil (qm.f BIG y1 (qg :: ([] : List Int)))) with | none => none | some y2 => (if (qy qj (2 : Int)) then (match (veil (qm.f BIG y2 (qr :: (ql :: ([] : List Int))))) with | none => none | some y3 => (if (qy qj (3 : Int)) then (match (veil (qm.f BIG y3 (qq :: ([] : List Int)))) with | none => none | some y4 => (if (qy qj (4 : Int)) then (match (veil (qm.f BIG y4 (((((List.length qh)) : Nat) : Int) :: ([] : List Int)))) with | none => none | some y5 => E19 ([] : LR) (-(1 : Int)) ((((List.length qh)) : Nat) : Int) (0 : Int) y5) else E19 ([] : LR) (-(1 : Int)) ((((List.length qh)) : Nat) : Int) (0 : Int) y4)) else (if (qy qj (4 : Int)) then (match (veil (qm.f BIG y3 (((((List.length qh)) : Nat) : Int) :: ([] : List Int)))) with | none => none | some y13 => E19 ([] : LR) (-(1 : Int)) ((((List.length qh)) : Nat) : Int) (0 : Int) y13) else E19 ([] : LR) (-(1 : Int)) ((((List.length qh)) : Nat) : Int) (0 : Int) y3))) else (if (qy qj (3 : Int)) then (match (veil (qm.f BIG y2 (qq :: ([] : List Int)))) with | none => none | some y14 => (if (qy qj (4 : Int)) then (match (veil (qm.f BIG y14 (((((List.length qh)) : Nat) : Int) :: ([] : List Int)))) with | none => none | some y15 => E19 ([] : LR) (-(1 : Int)) ((((List.length qh)) : Nat) : Int) (0 : Int) y15) else E19 ([] : LR) (-(1 : Int)) ((((List.length qh)) : Nat) : Int) (0 : Int) y14)) else (if (qy qj (4 : Int)) then (match (veil (qm.f BIG y2 (((((List.length qh)) : Nat) : Int) :: ([] : List Int)))) with | none => none | some y16 => E19 ([] : LR) (-(1 : Int)) ((((List.length qh)) : Nat) : Int) (0 : Int) y16) else E19 ([] : LR) (-(1 : Int)) ((((List.length qh)) : Nat) : Int) (0 : Int) y2)))) else (if (qy qj (2 : Int)) then (match (veil (qm.f BIG y1 (qr :: (ql :: ([] : List Int))))) with | none => none | some y17 => (if (qy qj (3 : Int)) then (match (veil (qm.f BIG y17 (qq :: ([] : List Int)))) with | none => none | some y18 => (if (qy qj (4 : Int)) then (match (veil (qm.f BIG y18 (((((List.length qh)) : Nat) : Int) :: ([] : List Int)))) with | none => none | some y19 => E19 ([] : LR) (-(1 : Int)) ((((List.length qh)) : Nat) : Int) (0 : Int) y19) else E19 ([] : LR) (-(1 : Int)) ((((List.length qh)) : Nat) : Int) (0 : Int) y18)) else (if (qy qj (4 : Int)) then (match (veil (qm.f BIG y17 (((((List.length qh)) : Nat) : Int) :: ([] : List Int)))) with | none => none | some y20 => E19 ([] : LR) (-(1 : Int)) ((((List.length qh)) : Nat) : Int) (0 : Int) y20) else E19 ([] : LR) (-(1 : Int)) ((((List.length qh)) : Nat) : Int) (0 : Int) y17))) else (if (qy qj (3 : Int)) then (match (veil (qm.f BIG y1 (qq :: ([] : List Int)))) with | none => none | some y21 => (if (qy qj (4 : Int)) then (match (veil (qm.f BIG y21 (((((List.length qh)) : Nat) : Int) :: ([] : List Int)))) with | none => none | some y22 => E19 ([] : LR) (-(1 : Int)) ((((List.length qh)) : Nat) : Int) (0 : Int) y22) else E19 ([] : LR) (-(1 : Int)) ((((List.length qh)) : Nat) : Int) (0 : Int) y21)) else (if (qy qj (4 : Int)) then (match (veil (qm.f BIG y1 (((((List.length qh)) : Nat) : Int) :: ([] : List Int)))) with | none => none | some y23 => E19 ([] : LR) (-(1 : Int)) ((((List.length qh)) : Nat) : Int) (0 : Int) y23) else E19 ([] : LR) (-(1 : Int)) ((((List.length qh)) : Nat) : Int) (0 : Int) y1))))) else (if (qy qj (1 : Int)) then (match (veil (qm.f BIG (y0 ++ (be (Int.toNat (1 : Int)) (Qr qe qf))) (qg :: ([] : List Int)))) with | none => none | some y24 => (if (qy qj (2 : Int)) then (match (veil (qm.f BIG y24 (qr :: (ql :: ([] : List Int))))) with | none => none | some y25 => (if (qy qj (3 : Int)) then (match (veil (qm.f BIG y25 (qq :: ([] : List Int)))) with | none => none | some y26 => (if (qy qj (4 : Int)) then (match (veil (qm.f BIG y26 (((((List.length qh)) : Nat) : Int) :: ([] : List Int)))) with | none => none | some y27 => E19 ([] : LR) (-(1 : Int)) ((((List.length qh)) : Nat) : Int) (0 : Int) y27) else E19 ([] : LR) (-(1 : Int)) ((((List.length qh)) : Nat) : Int) (0 : Int) y26)) else (if (qy qj (4 : Int)) then (match (veil (qm.f BIG y25 (((((List.length qh)) : Nat) : Int) :: ([] : List Int)))) with | none => none | some y28 => E19 ([] : LR) (-(1 : Int)) ((((List.length qh)) : Nat) : Int) (0 : Int) y28) else E19 ([] : LR) (-(1 : Int)) ((((List.length qh)) : Nat) : Int) (0 : Int) y25))) else (if (qy qj (3 : Int)) then (match (veil (qm.f BIG y24 (qq :: ([] : List Int)))) with | none => none | some y29 => (if (qy qj (4 : Int)) then (match (veil (qm.f BIG y29 (((((List.length qh)) : Nat) : Int) :: ([] : List Int)))) with | none => none | some y30 => E19 ([] : LR) (-(1 : Int)) ((((List.length qh)) : Nat) : Int) (0 : Int) y30) else E19 ([] : LR) (-(1 : Int)) ((((List.length qh)) : Nat) : Int) (0 : Int) y29)) else (if (qy qj (4 : Int)) then (match (veil (qm.f BIG y24 (((((List.length qh)) : Nat) : Int) :: ([] : List Int)))) with | none => none | some y31 => E19 ([] : LR) (-(1 : Int)) ((((List.length qh)) : Nat) : Int) (0 : Int) y31) else E19 ([] : LR) (-(1 : Int)) ((((List.length qh)) : Nat) : Int) (0 : Int) y24)))) else (if (qy qj (2 : Int)) then (match (veil (qm.f BIG (y0 ++ (be (Int.toNat (1 : Int)) (Qr qe qf))) (qr :: (ql :: ([] : List Int))))) with | none => none | some y32 => (if (qy qj (3 : Int)) then (match (veil (qm.f BIG y32 (qq :: ([] : List Int)))) with | none => none | some y33 => (if (qy qj (4 : Int)) then (match (veil (qm.f BIG y33 (((((List.length qh)) : Nat) : Int) :: ([] : List Int)))) with | none => none | some y34 => E19 ([] : LR) (-(1 : Int)) ((((List.length qh)) : Nat) : Int) (0 : Int) y34) else E19 ([] : LR) (-(1 : Int)) ((((List.length qh)) : Nat) : Int) (0 : Int) y33)) else (if (qy qj (4 : Int)) then (match (veil (qm.f BIG y32 (((((List.length qh)) : Nat) : Int) :: ([] : List Int)))) with | none => none | some y35 => E19 ([] : LR) (-(1 : Int)) ((((List.length qh)) : Nat) : Int) (0 : Int) y35) else E19 ([] : LR) (-(1 : Int)) ((((List.length qh)) : Nat) : Int) (0 : Int) y32))) else (if (qy qj (3 : Int)) then (match (veil (qm.f BIG (y0 ++ (be (Int.toNat (1 : Int)) (Qr qe qf))) (qq :: ([] : List Int)))) with | none => none | some y36 => (if (qy qj (4 : Int)) then (match (veil (qm.f BIG y36 (((((List.length qh)) : Nat) : Int) :: ([] : List Int)))) with | none => none | some y37 => E19 ([] : LR) (-(1 : Int)) ((((List.length qh)) : Nat) : Int) (0 : Int) y37) else E19 ([] : LR) (-(1 : Int)) ((((List.length qh)) : Nat) : Int) (0 : Int) y36)) else (if (qy qj (4 : Int)) then (match (veil (qm.f BIG (y0 ++ (be (Int.toNat (1 : Int)) (Qr qe qf))) (((((List.length qh)) : Nat) : Int) :: ([] : List Int)))) with | none => none | some y38 => E19 ([] : LR) (-(1 : Int)) ((((List.length qh)) : Nat) : Int) (0 : Int) y38) else E19 ([] : LR) (-(1 : Int)) ((((List.length qh)) : Nat) : Int) (0 : Int) (y0 ++ (be (Int.toNat (1 : Int)) (Qr qe qf)))))))) else none)) else none) else (if (Qd (1 : Int) qj) then (match (veil (qm.f BIG (be (Int.toNat (1 : Int)) qj) (qs :: (qH :: ([] : List Int))))) with | none => none | some y39 => (if ((Qd (1 : Int) (Qr qe qf)) ∧ (Zi y39)) then (if (qy qj (0 : Int)) then (match (veil (qm.f BIG (y39 ++ (be (Int.toNat (1 : Int)) (Qr qe qf))) (qG :: ([] : List Int)))) with | none => none | some y40 => (if (qy qj (1 : Int)) then (match (veil (qm.f BIG y40 (qg :: ([] : List Int)))) with | none => none | some y41 => (if (qy qj (2 : Int)) then (match (veil (qm.f BIG y41 (qr :: (ql :: ([] : List Int))))) with | none => none | some y42 => (if (qy qj (3 : Int)) then (match (veil (qm.f BIG y42 (qq :: ([] : List Int)))) with | none => none | some y43 => (if (qy qj (4 : Int)) then (match (veil (qm.f BIG y43 (((((List.length qh)) : Nat) : Int) :: ([] : List Int)))) with | none => none | some y44 => E19 qb (-(1 : Int)) ((((List.length qh)) : Nat) : Int) (0 : Int) y44) else E19 qb (-(1 : Int)) ((((List.length qh)) : Nat) : Int) (0 : Int) y43)) else (if (qy qj (4 : Int)) then (match (veil (qm.f BIG y42 (((((List.length qh)) : Nat) : Int) :: ([] : List Int)))) with | none => none | some y45 => E19 qb (-(1 : Int)) ((((List.length qh)) : Nat) : Int) (0 : Int) y45) else E19 qb (-(1 : Int)) ((((List.length qh)) : Nat) : Int) (0 : Int) y42))) else (if (qy qj (3 : Int)) then (match (veil (qm.f BIG y41 (qq :: ([] : List Int)))) with | none => none | some y46 => (if (qy qj (4 : Int)) then (match (veil (qm.f BIG y46 (((((List.length qh)) : Nat) : Int) :: ([] : List Int)))) with | none => none | some y47 => E19 qb (-(1 : Int)) ((((List.length qh)) : Nat) : Int) (0 : Int) y47) else E19 qb (-(1 : Int)) ((((List.length qh)) : Nat) : Int) (0 : Int) y46)) else (if (qy qj (4 : Int)) then (match (veil (qm.f BIG y41 (((((List.length qh)) : Nat) : Int) :: ([] : List Int)))) with | none => none | some y48 => E19 qb (-(1 : Int)) ((((List.length qh)) : Nat) : Int) (0 : Int) y48) else E19 qb (-(1 : Int)) ((((List.length qh)) : Nat) : Int) (0 : Int) y41)))) else (if (qy qj (2 : Int)) then (match (veil (qm.f BIG y40 (qr :: (ql :: ([] : List Int))))) with | none => none | some y49 => (if (qy qj (3 : Int)) then (match (veil (qm.f BIG y49 (qq :: ([] : List Int)))) with | none => none | some y50 => (if (qy qj (4 : Int)) then (match (veil (qm.f BIG y50 (((((List.length qh)) : Nat) : Int) :: ([] : List Int)))) with | none => none | some y51 => E19 qb (-(1 : Int)) ((((List.length qh)) : Nat) : Int) (0 : Int) y51) else E19 qb (-(1 : Int)) ((((List.length qh)) : Nat) : Int) (0 : Int) y50)) else (if (qy qj (4 : Int)) then (match (veil (qm.f BIG y49 (((((List.length qh)) : Nat) : Int) :: ([] : List Int)))) with | none => none | some y52 => E19 qb (-(1 : Int)) ((((List.length qh)) : Nat) : Int) (0 : Int) y52) else E19 qb (-(1 : Int)) ((((List.length qh)) : Nat) : Int) (0 : Int) y49))) else (if (qy qj (3 : Int)) then (match (veil (qm.f BIG y40 (qq :: ([] : List Int)))) with | none => none | some y53 => (if (qy qj (4 : Int)) then (match (veil (qm.f BIG y53 (((((List.length qh)) : Nat) : Int) :: ([] : List Int)))) with | none => none | some y54 => E19 qb (-(1 : Int)) ((((List.length qh)) : Nat) : Int) (0 : Int) y54) else E19 qb (-(1 : Int)) ((((List.length qh)) : Nat) : Int) (0 : Int) y53)) else (if (qy qj (4 : Int)) then (match (veil (qm.f BIG y40 (((((List.length qh)) : Nat) : Int) :: ([] : List Int)))) with | none => none | some y55 => E19 qb (-(1 : Int)) ((((List.length qh)) : Nat) : Int) (0 : Int) y55) else E19 qb (-(1 : Int)) ((((List.length qh)) : Nat) : Int) (0 : Int) y40))))) else (if (qy qj (1 : Int)) then (match (veil (qm.f BIG (y39 ++ (be (Int.toNat (1 : Int)) (Qr qe qf))) (qg :: ([] : List Int)))) with | none => none | some y56 => (if (qy qj (2 : Int)) then (match (veil (qm.f BIG y56 (qr :: (ql :: ([] : List Int))))) with | none => none | some y57 => (if (qy qj (3 : Int)) then (match (veil (qm.f BIG y57 (qq :: ([] : List Int)))) with | none => none | some y58 => (if (qy qj (4 : Int)) then (match (veil (qm.f BIG y58 (((((List.length qh)) : Nat) : Int) :: ([] : List Int)))) with | none => none | some y59 => E19 qb (-(1 : Int)) ((((List.length qh)) : Nat) : Int) (0 : Int) y59) else E19 qb (-(1 : Int)) ((((List.length qh)) : Nat) : Int) (0 : Int) y58)) else (if (qy qj (4 : Int)) then (match (veil (qm.f BIG y57 (((((List.length qh)) : Nat) : Int) :: ([] : List Int)))) with | none => none | some y60 => E19 qb (-(1 : Int)) ((((List.length qh)) : Nat) : Int) (0 : Int) y60) else E19 qb (-(1 : Int)) ((((List.length qh)) : Nat) : Int) (0 : Int) y57))) else (if (qy qj (3 : Int)) then (match (veil (qm.f BIG y56 (qq :: ([] : List Int)))) with | none => none | some y61 => (if (qy qj (4 : Int)) then (match (veil (qm.f BIG y61 (((((List.length qh)) : Nat) : Int) :: ([] : List Int)))) with | none => none | some y62 => E19 qb (-(1 : Int)) ((((List.length qh)) : Nat) : Int) (0 : Int) y62) else E19 qb (-(1 : Int)) ((((List.length qh)) : Nat) : Int) (0 : Int) y61)) else (if (qy qj (4 : Int)) then (match (veil (qm.f BIG y56 (((((List.length qh)) : Nat) : Int) :: ([] : List Int)))) with | none => none | some y63 => E19 qb (-(1 : Int)) ((((List.length qh)) : Nat) : Int) (0 : Int) y63) else E19 qb (-(1 : Int)) ((((List.length qh)) : Nat) : Int) (0 : Int) y56)))) else (if (qy qj (2 : Int)) then (match (veil (qm.f BIG (y39 ++ (be (Int.toNat (1 : Int)) (Qr qe qf))) (qr :: (ql :: ([] : List Int))))) with | none => none | some y64 => (if (qy qj (3 : Int)) then (match (veil (qm.f BIG y64 (qq :: ([] : List Int)))) with | none => none | some y65 => (if (qy qj (4 : Int)) then (match (veil (qm.f BIG y65 (((((List.length qh)) : Nat) : Int) :: ([] : List Int)))) with | none => none | some y66 => E19 qb (-(1 : Int)) ((((List.length qh)) : Nat) : Int) (0 : Int) y66) else E19 qb (-(1 : Int)) ((((List.length qh)) : Nat) : Int) (0 : Int) y65)) else (if (qy qj (4 : Int)) then (match (veil (qm.f BIG y64 (((((List.length qh)) : Nat) : Int) :: ([] : List Int)))) with | none => none | some y67 => E19 qb (-(1 : Int)) ((((List.length qh)) : Nat) : Int) (0 : Int) y67) else E19 qb (-(1 : Int)) ((((List.length qh)) : Nat) : Int) (0 : Int) y64))) else (if (qy qj (3 : Int)) then (match (veil (qm.f BIG (y39 ++ (be (Int.toNat (1 : Int)) (Qr qe qf))) (qq :: ([] : List Int)))) with | none => none | some y68 => (if (qy qj (4 : Int)) then (match (veil (qm.f BIG y68 (((((List.length qh)) : Nat) : Int) :: ([] : List Int)))) with | none => none | some y69 => E19 qb (-(1 : Int)) ((((List.length qh)) : Nat) : Int) (0 : Int) y69) else E19 qb (-(1 : Int)) ((((List.length qh)) : Nat) : Int) (0 : Int) y68)) else (if (qy qj (4 : Int)) then (match (veil (qm.f BIG (y39 ++ (be (Int.toNat (1 : Int)) (Qr qe qf))) (((((List.length qh)) : Nat) : Int) :: ([] : List Int)))) with | none => none | some y70 => E19 qb (-(1 : Int)) ((((List.length qh)) : Nat) : Int) (0 : Int) y70) else E19 qb (-(1 : Int)) ((((List.length qh)) : Nat) : Int) (0 : Int) (y39 ++ (be (Int.toNat (1 : Int)) (Qr qe qf)))))))) else none)) else none))
def zJ.f (qa : Nat) (qj qs qH qe qf qG qg qr ql qq : Int) (qh qb : LR) : Option (List Int) := zJ.b qj qs qH qe qf qG qg qr ql qq qh qb (zJ.l19 qa qj qs qH qe qf qG qg qr ql qq qh qb qa)
theorem zJ.l19_eq (qa : Nat) (qj qs qH qe qf qG qg qr ql qq : Int) (qh qb : LR) : ∀ k : Nat, zJ.p19 qa qj qs qH qe qf qG qg qr ql qq qh qb k = zJ.l19 qa qj qs qH qe qf qG qg qr ql qq qh qb k
 | 0 => by kernel_rfl
 | k + 1 => by
  refine Eq.trans (b := zJ.b19 qj qs qH qe qf qG qg qr ql qq qh qb (zJ.p19 qa qj qs qH qe qf qG qg qr ql qq qh qb k)) (by kernel_rfl) ?_
  rw [zJ.l19_eq qa qj qs qH qe qf qG qg qr ql qq qh qb k]
  kernel_rfl
theorem zJ.eq (qa : Nat) (qj qs qH qe qf qG qg qr ql qq : Int) (qh qb : LR) : (denF qhv loopN qa Tryz.f97 [.own 5 (.int .u8)] [.agg [.d tQi qj, .d tQi qs, .d tQi qH, .d tQi qe, .d tQi qf, .d tQi qG, .d tQi qg, .d tQi qr, .d tQi ql, .d tQi qq, .d (.sl tQr) qh], .d (.sl tQr) qb] [] zJ.k) = zJ.f qa qj qs qH qe qf qG qg qr ql qq qh qb := by
 refine Eq.trans (b := zJ.b qj qs qH qe qf qG qg qr ql qq qh qb (zJ.p19 qa qj qs qH qe qf qG qg qr ql qq qh qb qa)) (by kernel_rfl) ?_
 rw [zJ.l19_eq qa qj qs qH qe qf qG qg qr ql qq qh qb qa]
 kernel_rfl
def qbg : Den.Sum := ⟨[.dat (.pair tQi (.pair tQi (.pair tQi (.pair (.pair tQi tQi) (.pair tQi (.pair tQi (.pair tQi (.pair tQi (.pair tQi (.sl tQr)))))))))) true, .dat (.sl tQr) false], fun qK qn κ => match qK, qn with
 | [.agg [.d (.int .i64) qj, .d (.int .i64) qs, .d (.int .i64) qH, .d (.int .i64) qe, .d (.int .i64) qf, .d (.int .i64) qG, .d (.int .i64) qg, .d (.int .i64) qr, .d (.int .i64) ql, .d (.int .i64) qq, .d (.sl (.pair (.int .i64) (.pair (.int .i64) (.pair (.int .i64) (.pair (.pair (.int .i64) (.int .i64)) (.pair .bool (.sl (.pair (.int .i64) (.sl (.int .u8)))))))))) qh], .d (.sl (.pair (.int .i64) (.pair (.int .i64) (.pair (.int .i64) (.pair (.pair (.int .i64) (.int .i64)) (.pair .bool (.sl (.pair (.int .i64) (.sl (.int .u8)))))))))) qb], [] => (match veil (zJ.f BIG qj qs qH qe qf qG qg qr ql qq qh qb) with | none => none | some y => κ [.d (.sl (.int .u8)) y] [])
 | _, _ => none⟩
theorem qgT : SumDet qbg := zj fun _ _ _ _ => by
 unfold qbg
 simp only [veil_eq]
 split
 ·split <;> rfl
 ·rfl
theorem qhO : SumOk Tryz.prog 97 qbg := by
 have hE : EnvOk Tryz.prog qhv := env_ok (l := [(78, qcc), (79, qdd), (80, qaT), (82, qcf), (41, qah), (119, Q0), (120, Z2)]) th_ok qZ ⟨⟨qg7, qgh⟩, ⟨qhb, qf4⟩, ⟨qdU, qdg⟩, ⟨qhg, qgm⟩, ⟨qb0, qbl⟩, ⟨qdT, qdx⟩, ⟨qhc, qgQ⟩, trivial⟩ _
 refine sum_ok hE Tryz.func97 rfl (by kernel_rfl) qbg [.own 5 (.int .u8)] zJ.k ?_
 intro R avs qn κ r h
 unfold qbg at h
 simp only [veil_eq] at h
 split at h
 ·rename_i qj qs qH qe qf qG qg qr ql qq qh qb
  split at h
  ·cases h
  ·rename_i y hy
   refine ⟨BIG, _, _, _, (zJ.eq BIG qj qs qH qe qf qG qg qr ql qq qh qb).trans hy, ?_, h⟩
   intro rs ros hk
   unfold zJ.k at hk
   split at hk
   ·rw [← sj hk]; exact ⟨rfl, rfl⟩
   ·cases hk
 ·cases h
def qhW : Env := ⟨th, gam [(76, QK), (96, qaF), (97, qbg)], fun i => ⟨[], [], []⟩⟩
def Zc.k (rs : List AV) (os : List Den.Obj) : Option ((List Int) × Int) :=
 match rs, os with
 | [.d (.sl (.int .u8)) r0, .d (.int .i64) r1], [] => some (r0, r1)
 | _, _ => none
def Zc.b (qj qs qH qe qf qG qg qr ql qq : Int) (qh qb : LR) : Option ((List Int) × Int) :=
 (if (q9 qh) then (if (!(q0 qj qs qH qe qf qG qg qr ql qq qh)) then some (([] : List Int), (1 : Int)) else (if (q9 qb) then (if (!(Qp qb)) then some (([] : List Int), (1 : Int)) else (match (veil (zJ.f BIG qj qs qH qe qf qG qg qr ql qq qh qb)) with | none => none | some y0 => (if (decide (((((List.length y0)) : Nat) : Int) > (65499 : Int))) then some (([] : List Int), (14 : Int)) else some (y0, (0 : Int))))) else none)) else none)
def Zc.f (qa : Nat) (qj qs qH qe qf qG qg qr ql qq : Int) (qh qb : LR) : Option ((List Int) × Int) := Zc.b qj qs qH qe qf qG qg qr ql qq qh qb
theorem Zc.eq (qa : Nat) (qj qs qH qe qf qG qg qr ql qq : Int) (qh qb : LR) : (denF qhW loopN qa Tryz.f64 [.dat (.sl (.int .u8)) false, .raw] [.agg [.d tQi qj, .d tQi qs, .d tQi qH, .d tQi qe, .d tQi qf, .d tQi qG, .d tQi qg, .d tQi qr, .d tQi ql, .d tQi qq, .d (.sl tQr) qh], .d (.sl tQr) qb] [] Zc.k) = Zc.f qa qj qs qH qe qf qG qg qr ql qq qh qb := by
 kernel_rfl
def Zu : Den.Sum := ⟨[.dat (.pair tQi (.pair tQi (.pair tQi (.pair (.pair tQi tQi) (.pair tQi (.pair tQi (.pair tQi (.pair tQi (.pair tQi (.sl tQr)))))))))) true, .dat (.sl tQr) false], fun qK qn κ => match qK, qn with
 | [.agg [.d (.int .i64) qj, .d (.int .i64) qs, .d (.int .i64) qH, .d (.int .i64) qe, .d (.int .i64) qf, .d (.int .i64) qG, .d (.int .i64) qg, .d (.int .i64) qr, .d (.int .i64) ql, .d (.int .i64) qq, .d (.sl (.pair (.int .i64) (.pair (.int .i64) (.pair (.int .i64) (.pair (.pair (.int .i64) (.int .i64)) (.pair .bool (.sl (.pair (.int .i64) (.sl (.int .u8)))))))))) qh], .d (.sl (.pair (.int .i64) (.pair (.int .i64) (.pair (.int .i64) (.pair (.pair (.int .i64) (.int .i64)) (.pair .bool (.sl (.pair (.int .i64) (.sl (.int .u8)))))))))) qb], [] => (match veil (Zc.f BIG qj qs qH qe qf qG qg qr ql qq qh qb) with | none => none | some y => κ [.d (.sl (.int .u8)) y.1, .d (.int .i64) y.2] [])
 | _, _ => none⟩
theorem qdp : SumDet Zu := zj fun _ _ _ _ => by
 unfold Zu
 simp only [veil_eq]
 split
 ·split <;> rfl
 ·rfl
theorem qdM : SumOk Tryz.prog 64 Zu := by
 have hE : EnvOk Tryz.prog qhW := env_ok (l := [(76, QK), (96, qaF), (97, qbg)]) th_ok qZ ⟨⟨qat, qad⟩, ⟨qeU, qeb⟩, ⟨qhO, qgT⟩, trivial⟩ _
 refine sum_ok hE Tryz.func64 rfl (by kernel_rfl) Zu [.dat (.sl (.int .u8)) false, .raw] Zc.k ?_
 intro R avs qn κ r h
 unfold Zu at h
 simp only [veil_eq] at h
 split at h
 ·rename_i qj qs qH qe qf qG qg qr ql qq qh qb
  split at h
  ·cases h
  ·rename_i y hy
   refine ⟨BIG, _, _, _, (Zc.eq BIG qj qs qH qe qf qG qg qr ql qq qh qb).trans hy, ?_, h⟩
   intro rs ros hk
   unfold Zc.k at hk
   split at hk
   ·rw [← sj hk]; exact ⟨rfl, rfl⟩
   ·cases hk
 ·cases h
def qjn : Env := ⟨th, gam [(76, QK), (96, qaF), (97, qbg)], fun i => ⟨[], [], []⟩⟩
def Z8.k (rs : List AV) (os : List Den.Obj) : Option Int :=
 match rs, os with
 | [.d (.int .i64) r0], [] => some r0
 | _, _ => none
def Z8.b (qj qs qH qe qf qG qg qr ql qq : Int) (qh qb : LR) : Option Int :=
 (if (q9 qh) then (if (!(q0 qj qs qH qe qf qG qg qr ql qq qh)) then some ((0 : Int)) else (if (q9 qb) then (if (!(Qp qb)) then some ((0 : Int)) else (match (veil (zJ.f BIG qj qs qH qe qf qG qg qr ql qq qh qb)) with | none => none | some y0 => some (((((List.length y0)) : Nat) : Int)))) else none)) else none)
def Z8.f (qa : Nat) (qj qs qH qe qf qG qg qr ql qq : Int) (qh qb : LR) : Option Int := Z8.b qj qs qH qe qf qG qg qr ql qq qh qb
theorem Z8.eq (qa : Nat) (qj qs qH qe qf qG qg qr ql qq : Int) (qh qb : LR) : (denF qjn loopN qa Tryz.f126 [.raw] [.agg [.d tQi qj, .d tQi qs, .d tQi qH, .d tQi qe, .d tQi qf, .d tQi qG, .d tQi qg, .d tQi qr, .d tQi ql, .d tQi qq, .d (.sl tQr) qh], .d (.sl tQr) qb] [] Z8.k) = Z8.f qa qj qs qH qe qf qG qg qr ql qq qh qb := by
 kernel_rfl
def qb2 : Den.Sum := ⟨[.dat (.pair tQi (.pair tQi (.pair tQi (.pair (.pair tQi tQi) (.pair tQi (.pair tQi (.pair tQi (.pair tQi (.pair tQi (.sl tQr)))))))))) true, .dat (.sl tQr) false], fun qK qn κ => match qK, qn with
 | [.agg [.d (.int .i64) qj, .d (.int .i64) qs, .d (.int .i64) qH, .d (.int .i64) qe, .d (.int .i64) qf, .d (.int .i64) qG, .d (.int .i64) qg, .d (.int .i64) qr, .d (.int .i64) ql, .d (.int .i64) qq, .d (.sl (.pair (.int .i64) (.pair (.int .i64) (.pair (.int .i64) (.pair (.pair (.int .i64) (.int .i64)) (.pair .bool (.sl (.pair (.int .i64) (.sl (.int .u8)))))))))) qh], .d (.sl (.pair (.int .i64) (.pair (.int .i64) (.pair (.int .i64) (.pair (.pair (.int .i64) (.int .i64)) (.pair .bool (.sl (.pair (.int .i64) (.sl (.int .u8)))))))))) qb], [] => (match veil (Z8.f BIG qj qs qH qe qf qG qg qr ql qq qh qb) with | none => none | some y => κ [.d (.int .i64) y] [])
 | _, _ => none⟩
theorem qks : SumDet qb2 := zj fun _ _ _ _ => by
 unfold qb2
 simp only [veil_eq]
 split
 ·split <;> rfl
 ·rfl
theorem qls : SumOk Tryz.prog 126 qb2 := by
 have hE : EnvOk Tryz.prog qjn := env_ok (l := [(76, QK), (96, qaF), (97, qbg)]) th_ok qZ ⟨⟨qat, qad⟩, ⟨qeU, qeb⟩, ⟨qhO, qgT⟩, trivial⟩ _
 refine sum_ok hE Tryz.func126 rfl (by kernel_rfl) qb2 [.raw] Z8.k ?_
 intro R avs qn κ r h
 unfold qb2 at h
 simp only [veil_eq] at h
 split at h
 ·rename_i qj qs qH qe qf qG qg qr ql qq qh qb
  split at h
  ·cases h
  ·rename_i y hy
   refine ⟨BIG, _, _, _, (Z8.eq BIG qj qs qH qe qf qG qg qr ql qq qh qb).trans hy, ?_, h⟩
   intro rs ros hk
   unfold Z8.k at hk
   split at hk
   ·rw [← sj hk]; exact ⟨rfl, rfl⟩
   ·cases hk
 ·cases h
def qjp : Env := ⟨th, gam [(114, qda), (102, qav), (126, qb2)], fun i => ⟨[], [], []⟩⟩
def QJ.k (rs : List AV) (os : List Den.Obj) : Option Int :=
 match rs, os with
 | [.d (.int .i64) r0], [] => some r0
 | _, _ => none
def QJ.b (qj qs qH qe qf qG qg qr ql qq : Int) (qh : LR) (gen : Int) : Option Int :=
 (match (veil (Zn.f BIG qj qs qH qe qf qG qg qr ql qq qh gen)) with | none => none | some y0 => (if (!y0) then some ((0 : Int)) else (if (gen == (1 : Int)) then some ((IntKind.wrap .i64 ((15 : Int) + (IntKind.wrap .i64 ((5 : Int) * ((((List.length qh)) : Nat) : Int)))))) else (if (gen == (2 : Int)) then (if (q9 qh) then some ((qd6 qj qs qH qe qf qG qg qr ql qq qh)) else none) else (match (veil (Z8.f BIG qj qs qH qe qf qG qg qr ql qq qh ([] : LR))) with | none => none | some y1 => some (y1))))))
def QJ.f (qa : Nat) (qj qs qH qe qf qG qg qr ql qq : Int) (qh : LR) (gen : Int) : Option Int := QJ.b qj qs qH qe qf qG qg qr ql qq qh gen
theorem QJ.eq (qa : Nat) (qj qs qH qe qf qG qg qr ql qq : Int) (qh : LR) (gen : Int) : (denF qjp loopN qa Tryz.f105 [.raw] [.agg [.d tQi qj, .d tQi qs, .d tQi qH, .d tQi qe, .d tQi qf, .d tQi qG, .d tQi qg, .d tQi qr, .d tQi ql, .d tQi qq, .d (.sl tQr) qh], .d tQi gen] [] QJ.k) = QJ.f qa qj qs qH qe qf qG qg qr ql qq qh gen := by
 kernel_rfl
def qb4 : Den.Sum := ⟨[.dat (.pair tQi (.pair tQi (.pair tQi (.pair (.pair tQi tQi) (.pair tQi (.pair tQi (.pair tQi (.pair tQi (.pair tQi (.sl tQr)))))))))) true, .raw], fun qK qn κ => match qK, qn with
 | [.agg [.d (.int .i64) qj, .d (.int .i64) qs, .d (.int .i64) qH, .d (.int .i64) qe, .d (.int .i64) qf, .d (.int .i64) qG, .d (.int .i64) qg, .d (.int .i64) qr, .d (.int .i64) ql, .d (.int .i64) qq, .d (.sl (.pair (.int .i64) (.pair (.int .i64) (.pair (.int .i64) (.pair (.pair (.int .i64) (.int .i64)) (.pair .bool (.sl (.pair (.int .i64) (.sl (.int .u8)))))))))) qh], .d (.int .i64) gen], [] => (match veil (QJ.f BIG qj qs qH qe qf qG qg qr ql qq qh gen) with | none => none | some y => κ [.d (.int .i64) y] [])
 | _, _ => none⟩
theorem qkz : SumDet qb4 := zj fun _ _ _ _ => by
 unfold qb4
 simp only [veil_eq]
 split
 ·split <;> rfl
 ·rfl
theorem qlv : SumOk Tryz.prog 105 qb4 := by
 have hE : EnvOk Tryz.prog qjp := env_ok (l := [(114, qda), (102, qav), (126, qb2)]) th_ok qZ ⟨⟨qkk, qi9⟩, ⟨qf9, qfL⟩, ⟨qls, qks⟩, trivial⟩ _
 refine sum_ok hE Tryz.func105 rfl (by kernel_rfl) qb4 [.raw] QJ.k ?_
 intro R avs qn κ r h
 unfold qb4 at h
 simp only [veil_eq] at h
 split at h
 ·rename_i qj qs qH qe qf qG qg qr ql qq qh gen
  split at h
  ·cases h
  ·rename_i y hy
   refine ⟨BIG, _, _, _, (QJ.eq BIG qj qs qH qe qf qG qg qr ql qq qh gen).trans hy, ?_, h⟩
   intro rs ros hk
   unfold QJ.k at hk
   split at hk
   ·rw [← sj hk]; exact ⟨rfl, rfl⟩
   ·cases hk
 ·cases h
def qix : Env := ⟨th, gam [(102, qav), (103, qcq), (104, qbz), (105, qb4)], fun i => if i = 5 then ⟨[1, 2, 5, 6, 17, 18, 19], [], []⟩ else ⟨[], [], []⟩⟩
def zZ.k (rs : List AV) (os : List Den.Obj) : Option (List Int) :=
 match rs, os with
 | [.row 0], [.row 155 (.int .i64) r0 false] => some r0
 | _, _ => none
def zZ.s5 (qj qs qH qe qf qG qg qr ql qq : Int) (qh : LR) (gen : Int) (x1 x2 : Bool) (x3 x4 : Int) : St := ⟨[.dead, .d tQi (gen), .ptr 64 0, .dead, .dead, .d .bool x1, .d .bool x2, dD, dD, dD, dD, dD, dD, dD, dD, dD, dD, .d (.sl tQr) (qh), .d tQi x3, .d tQi x4, dD, dD, dD, dD, dD, dD, dD, dD, dD, dD, dD, dD, dD, dD, dD, dD, dD, dD, dD, dD, dD, dD, dD, dD, dD, dD, dD, dD, dD, dD, dD, dD, dD, dD, dD, dD, dD, dD, dD, dD, dD, dD, dD, dD, dD, dD, dD, dD, dD, dD, dD, dD, dD, dD, .dead], ofL [(64, .box [.d tQi (qj), .d tQi (qs), .d tQi (qH), .d tQi (qe), .d tQi (qf), .d tQi (qG), .d tQi (qg), .d tQi (qr), .d tQi (ql), .d tQi (qq), .d (.sl tQr) (qh)])], 0⟩
def zZ.p5 (qa : Nat) (qj qs qH qe qf qG qg qr ql qq : Int) (qh : LR) (gen : Int) (k : Nat) := fun x1 x2 x3 x4 => lp qix qa Tryz.f70 [.own 155 tQi] 0 zZ.k 5 [] k (zZ.s5 qj qs qH qe qf qG qg qr ql qq qh gen x1 x2 x3 x4)
def zZ.b5 (qj qs qH qe qf qG qg qr ql qq : Int) (qh : LR) (gen : Int) (A5 : Bool → Bool → Int → Int → Option (List Int)) (x1 : Bool) (x2 : Bool) (x3 : Int) (x4 : Int) : Option (List Int) :=
 (if (decide (x4 < x3)) then (match (idx qh x4) with | none => none | some y5 => (if x1 then (if x2 then A5 true true x3 (IntKind.wrap .i64 (x4 + (1 : Int))) else (match (veil (qan.f BIG gen)) with | none => none | some y6 => A5 true (decide (y5.2.1 > y6)) x3 (IntKind.wrap .i64 (x4 + (1 : Int))))) else (if x2 then A5 (decide (((((List.length y5.2.2.2.2.2)) : Nat) : Int) > (0 : Int))) true x3 (IntKind.wrap .i64 (x4 + (1 : Int))) else (match (veil (qan.f BIG gen)) with | none => none | some y7 => A5 (decide (((((List.length y5.2.2.2.2.2)) : Nat) : Int) > (0 : Int))) (decide (y5.2.1 > y7)) x3 (IntKind.wrap .i64 (x4 + (1 : Int))))))) else (if (decide (gen < (3 : Int))) then (match (veil (zn.f BIG (qj == (9 : Int)) (1 : Int) ([] : List Int))) with | none => none | some y8 => (if (decide (gen < (3 : Int))) then (match (veil (zn.f BIG (ql != (0 : Int)) (2 : Int) y8)) with | none => none | some y9 => (if (gen == (1 : Int)) then (match (veil (zn.f BIG x1 (3 : Int) y9)) with | none => none | some y10 => (match (veil (zn.f BIG x2 (4 : Int) y10)) with | none => none | some y11 => (match (veil (QJ.f BIG qj qs qH qe qf qG qg qr ql qq qh gen)) with | none => none | some y12 => (match (veil (zn.f BIG (decide (y12 > (65499 : Int))) (5 : Int) y11)) with | none => none | some y13 => some (y13))))) else (match (veil (zn.f BIG false (3 : Int) y9)) with | none => none | some y14 => (match (veil (zn.f BIG x2 (4 : Int) y14)) with | none => none | some y15 => (match (veil (QJ.f BIG qj qs qH qe qf qG qg qr ql qq qh gen)) with | none => none | some y16 => (match (veil (zn.f BIG (decide (y16 > (65499 : Int))) (5 : Int) y15)) with | none => none | some y17 => some (y17))))))) else (match (veil (zn.f BIG false (2 : Int) y8)) with | none => none | some y18 => (if (gen == (1 : Int)) then (match (veil (zn.f BIG x1 (3 : Int) y18)) with | none => none | some y19 => (match (veil (zn.f BIG x2 (4 : Int) y19)) with | none => none | some y20 => (match (veil (QJ.f BIG qj qs qH qe qf qG qg qr ql qq qh gen)) with | none => none | some y21 => (match (veil (zn.f BIG (decide (y21 > (65499 : Int))) (5 : Int) y20)) with | none => none | some y22 => some (y22))))) else (match (veil (zn.f BIG false (3 : Int) y18)) with | none => none | some y23 => (match (veil (zn.f BIG x2 (4 : Int) y23)) with | none => none | some y24 => (match (veil (QJ.f BIG qj qs qH qe qf qG qg qr ql qq qh gen)) with | none => none | some y25 => (match (veil (zn.f BIG (decide (y25 > (65499 : Int))) (5 : Int) y24)) with | none => none | some y26 => some (y26))))))))) else (match (veil (zn.f BIG false (1 : Int) ([] : List Int))) with | none => none | some y27 => (if (decide (gen < (3 : Int))) then (match (veil (zn.f BIG (ql != (0 : Int)) (2 : Int) y27)) with | none => none | some y28 => (if (gen == (1 : Int)) then (match (veil (zn.f BIG x1 (3 : Int) y28)) with | none => none | some y29 => (match (veil (zn.f BIG x2 (4 : Int) y29)) with | none => none | some y30 => (match (veil (QJ.f BIG qj qs qH qe qf qG qg qr ql qq qh gen)) with | none => none | some y31 => (match (veil (zn.f BIG (decide (y31 > (65499 : Int))) (5 : Int) y30)) with | none => none | some y32 => some (y32))))) else (match (veil (zn.f BIG false (3 : Int) y28)) with | none => none | some y33 => (match (veil (zn.f BIG x2 (4 : Int) y33)) with | none => none | some y34 => (match (veil (QJ.f BIG qj qs qH qe qf qG qg qr ql qq qh gen)) with | none => none | some y35 => (match (veil (zn.f BIG (decide (y35 > (65499 : Int))) (5 : Int) y34)) with | none => none | some y36 => some (y36))))))) else (match (veil (zn.f BIG false (2 : Int) y27)) with | none => none | some y37 => (if (gen == (1 : Int)) then (match (veil (zn.f BIG x1 (3 : Int) y37)) with | none => none | some y38 => (match (veil (zn.f BIG x2 (4 : Int) y38)) with | none => none | some y39 => (match (veil (QJ.f BIG qj qs qH qe qf qG qg qr ql qq qh gen)) with | none => none | some y40 => (match (veil (zn.f BIG (decide (y40 > (65499 : Int))) (5 : Int) y39)) with | none => none | some y41 => some (y41))))) else (match (veil (zn.f BIG false (3 : Int) y37)) with | none => none | some y42 => (match (veil (zn.f BIG x2 (4 : Int) y42)) with | none => none | some y43 => (match (veil (QJ.f BIG qj qs qH qe qf qG qg qr ql qq qh gen)) with | none => none | some y44 => (match (veil (zn.f BIG (decide (y44 > (65499 : Int))) (5 : Int) y43)) with | none => none | some y45 => some (y45)))))))))))
def zZ.l5 (qa : Nat) (qj qs qH qe qf qG qg qr ql qq : Int) (qh : LR) (gen : Int) : Nat → Bool → Bool → Int → Int → Option (List Int)
 | 0, _, _, _, _ => none
 | k + 1, x1, x2, x3, x4 => zZ.b5 qj qs qH qe qf qG qg qr ql qq qh gen (zZ.l5 qa qj qs qH qe qf qG qg qr ql qq qh gen k) x1 x2 x3 x4
def zZ.b (qj qs qH qe qf qG qg qr ql qq : Int) (qh : LR) (gen : Int) (E5 : Bool → Bool → Int → Int → Option (List Int)) : Option (List Int) :=
 (match (veil (Zn.f BIG qj qs qH qe qf qG qg qr ql qq qh gen)) with | none => none | some y0 => (if (!y0) then some (((0 : Int) :: ([] : List Int))) else E5 false false ((((List.length qh)) : Nat) : Int) (0 : Int)))
def zZ.f (qa : Nat) (qj qs qH qe qf qG qg qr ql qq : Int) (qh : LR) (gen : Int) : Option (List Int) := zZ.b qj qs qH qe qf qG qg qr ql qq qh gen (zZ.l5 qa qj qs qH qe qf qG qg qr ql qq qh gen qa)
theorem zZ.l5_eq (qa : Nat) (qj qs qH qe qf qG qg qr ql qq : Int) (qh : LR) (gen : Int) : ∀ k : Nat, zZ.p5 qa qj qs qH qe qf qG qg qr ql qq qh gen k = zZ.l5 qa qj qs qH qe qf qG qg qr ql qq qh gen k
 | 0 => by kernel_rfl
 | k + 1 => by
  refine Eq.trans (b := zZ.b5 qj qs qH qe qf qG qg qr ql qq qh gen (zZ.p5 qa qj qs qH qe qf qG qg qr ql qq qh gen k)) (by kernel_rfl) ?_
  rw [zZ.l5_eq qa qj qs qH qe qf qG qg qr ql qq qh gen k]
  kernel_rfl
theorem zZ.eq (qa : Nat) (qj qs qH qe qf qG qg qr ql qq : Int) (qh : LR) (gen : Int) : (denF qix loopN qa Tryz.f70 [.own 155 tQi] [.agg [.d tQi qj, .d tQi qs, .d tQi qH, .d tQi qe, .d tQi qf, .d tQi qG, .d tQi qg, .d tQi qr, .d tQi ql, .d tQi qq, .d (.sl tQr) qh], .d tQi gen] [] zZ.k) = zZ.f qa qj qs qH qe qf qG qg qr ql qq qh gen := by
 refine Eq.trans (b := zZ.b qj qs qH qe qf qG qg qr ql qq qh gen (zZ.p5 qa qj qs qH qe qf qG qg qr ql qq qh gen qa)) (by kernel_rfl) ?_
 rw [zZ.l5_eq qa qj qs qH qe qf qG qg qr ql qq qh gen qa]
 kernel_rfl
def qcW : Den.Sum := ⟨[.dat (.pair tQi (.pair tQi (.pair tQi (.pair (.pair tQi tQi) (.pair tQi (.pair tQi (.pair tQi (.pair tQi (.pair tQi (.sl tQr)))))))))) true, .raw], fun qK qn κ => match qK, qn with
 | [.agg [.d (.int .i64) qj, .d (.int .i64) qs, .d (.int .i64) qH, .d (.int .i64) qe, .d (.int .i64) qf, .d (.int .i64) qG, .d (.int .i64) qg, .d (.int .i64) qr, .d (.int .i64) ql, .d (.int .i64) qq, .d (.sl (.pair (.int .i64) (.pair (.int .i64) (.pair (.int .i64) (.pair (.pair (.int .i64) (.int .i64)) (.pair .bool (.sl (.pair (.int .i64) (.sl (.int .u8)))))))))) qh], .d (.int .i64) gen], [] => (match veil (zZ.f BIG qj qs qH qe qf qG qg qr ql qq qh gen) with | none => none | some y => κ [.row 0] [.row 155 (.int .i64) y false])
 | _, _ => none⟩
theorem qmt : SumDet qcW := zj fun _ _ _ _ => by
 unfold qcW
 simp only [veil_eq]
 split
 ·split <;> rfl
 ·rfl
theorem qmT : SumOk Tryz.prog 70 qcW := by
 have hE : EnvOk Tryz.prog qix := env_ok (l := [(102, qav), (103, qcq), (104, qbz), (105, qb4)]) th_ok qZ ⟨⟨qf9, qfL⟩, ⟨qms, qlu⟩, ⟨qky, qjJ⟩, ⟨qlv, qkz⟩, trivial⟩ _
 refine sum_ok hE Tryz.func70 rfl (by kernel_rfl) qcW [.own 155 tQi] zZ.k ?_
 intro R avs qn κ r h
 unfold qcW at h
 simp only [veil_eq] at h
 split at h
 ·rename_i qj qs qH qe qf qG qg qr ql qq qh gen
  split at h
  ·cases h
  ·rename_i y hy
   refine ⟨BIG, _, _, _, (zZ.eq BIG qj qs qH qe qf qG qg qr ql qq qh gen).trans hy, ?_, h⟩
   intro rs ros hk
   unfold zZ.k at hk
   split at hk
   ·rw [← sj hk]; exact ⟨rfl, rfl⟩
   ·cases hk
 ·cases h
def qe4 : Env := ⟨th, gam [(52, Zg), (83, qdv)], fun i => ⟨[], [], []⟩⟩
def zp.k (rs : List AV) (os : List Den.Obj) : Option (Int × Int × Bool × (List Int) × Int × Bool) :=
 match rs, os with
 | [.agg [.d (.int .i64) r0, .d (.int .i64) r1]], [.box [.ptr 1 0, .d .bool r2], .box [.d (.sl (.int .u8)) r3, .d (.int .i64) r4, .d .bool r5]] => some (r0, r1, r2, r3, r4, r5)
 | _, _ => none
def zp.b (bs : List Int) (at0 : Int) (bad za : Bool) : Option (Int × Int × Bool × (List Int) × Int × Bool) :=
 (if (zt bs at0) then (match (veil (Option.some (qz bs (1 : Int) at0 bad))) with | none => none | some y0 => (match (veil (Option.some (zW Qw y0.1))) with | none => none | some y1 => (if za then some (y1.1, y1.2.1, true, bs, y0.2.1, y0.2.2) else some (y1.1, y1.2.1, (!y1.2.2), bs, y0.2.1, y0.2.2)))) else none)
def zp.f (qa : Nat) (bs : List Int) (at0 : Int) (bad za : Bool) : Option (Int × Int × Bool × (List Int) × Int × Bool) := zp.b bs at0 bad za
theorem zp.eq (qa : Nat) (bs : List Int) (at0 : Int) (bad za : Bool) : (denF qe4 loopN qa Tryz.f107 [.dat (.pair tQi tQi) true] [.ptr 0 0] [.box [.ptr 1 0, .d .bool za], .box [.d (.sl (.int .u8)) bs, .d tQi at0, .d .bool bad]] zp.k) = zp.f qa bs at0 bad za := by
 kernel_rfl
def Qy : Den.Sum := ⟨[.pb [.frz none [0] 0 (.int .u8)]], fun qK qn κ => match qK, qn with
 | [.ptr 0 0], [.box [.ptr 1 0, .d .bool za], .box [.d (.sl (.int .u8)) bs, .d (.int .i64) at0, .d .bool bad]] => (match veil (zp.f BIG bs at0 bad za) with | none => none | some y => κ [.agg [.d (.int .i64) y.1, .d (.int .i64) y.2.1]] [.box [.ptr 1 0, .d .bool y.2.2.1], .box [.d (.sl (.int .u8)) y.2.2.2.1, .d (.int .i64) y.2.2.2.2.1, .d .bool y.2.2.2.2.2]])
 | _, _ => none⟩
theorem qb1 : SumDet Qy := zj fun _ _ _ _ => by
 unfold Qy
 simp only [veil_eq]
 split
 ·split <;> rfl
 ·rfl
theorem qce : SumOk Tryz.prog 107 Qy := by
 have hE : EnvOk Tryz.prog qe4 := env_ok (l := [(52, Zg), (83, qdv)]) th_ok qZ ⟨⟨qbd, qaL⟩, ⟨qif, qha⟩, trivial⟩ _
 refine sum_ok hE Tryz.func107 rfl (by kernel_rfl) Qy [.dat (.pair tQi tQi) true] zp.k ?_
 intro R avs qn κ r h
 unfold Qy at h
 simp only [veil_eq] at h
 split at h
 ·rename_i za bs at0 bad
  split at h
  ·cases h
  ·rename_i y hy
   refine ⟨BIG, _, _, _, (zp.eq BIG bs at0 bad za).trans hy, ?_, h⟩
   intro rs ros hk
   unfold zp.k at hk
   split at hk
   ·rw [← sj hk]; exact ⟨rfl, rfl⟩
   ·cases hk
 ·cases h
def qfz : Env := ⟨th, gam [], fun i => if i = 4 then ⟨[0, 5, 6, 7, 10], [], []⟩ else ⟨[], [], []⟩⟩
def zq.k (rs : List AV) (os : List Den.Obj) : Option (Int × Int × Int) :=
 match rs, os with
 | [.d (.int .u64) r0, .d (.int .i64) r1, .d (.int .i64) r2], [] => some (r0, r1, r2)
 | _, _ => none
def zq.s4 (b : List Int) (x0 x1 : Int) : St := ⟨[.d (.sl (.int .u8)) (b), dD, dD, dD, dD, .d (.int .u64) x0, .d tQi ((0 : Int)), .d tQi ((2 : Int)), .dead, .dead, .d tQi x1, dD, dD, dD, dD, dD, dD, dD, dD, dD, dD, dD, dD, dD, dD, dD, dD, dD, dD, dD, dD, dD, dD, dD, dD, dD, dD, dD, dD, dD, dD, dD, dD, dD, dD, dD, dD, dD, dD, dD, .dead], ofL [], 0⟩
def zq.p4 (qa : Nat) (b : List Int) (k : Nat) := fun x0 x1 => lp qfz qa Tryz.f133 [.raw, .raw, .raw] 0 zq.k 4 [] k (zq.s4 b x0 x1)
def zq.b4 (b : List Int) (A4 : Int → Int → Option (Int × Int × Int)) (x0 : Int) (x1 : Int) : Option (Int × Int × Int) :=
 (if (decide (x1 < (10 : Int))) then (if (decide (x1 ≥ ((((List.length b)) : Nat) : Int))) then some ((0 : Int), (0 : Int), (2 : Int)) else (match (idx b x1) with | none => none | some y2 => (if (x1 == (9 : Int)) then (if (decide (y2 > (1 : Int))) then some ((0 : Int), (0 : Int), (4 : Int)) else (if ((IntKind.wrap .i64 ((7 : Int) * x1)) < (0 : Int)) then none else (if (decide (y2 < (128 : Int))) then (if (y2 == (0 : Int)) then (if (decide (x1 > (0 : Int))) then some ((0 : Int), (0 : Int), (4 : Int)) else some ((bits BinOp.or .u64 x0 (IntKind.wrap .u64 ((IntKind.wrap .u64 (bits BinOp.and .u8 y2 (127 : Int))) * ((2 : Int) ^ (Min.min (Int.toNat (IntKind.wrap .i64 ((7 : Int) * x1))) (IntKind.bits .u64)))))), (IntKind.wrap .i64 (x1 + (1 : Int))), (0 : Int))) else some ((bits BinOp.or .u64 x0 (IntKind.wrap .u64 ((IntKind.wrap .u64 (bits BinOp.and .u8 y2 (127 : Int))) * ((2 : Int) ^ (Min.min (Int.toNat (IntKind.wrap .i64 ((7 : Int) * x1))) (IntKind.bits .u64)))))), (IntKind.wrap .i64 (x1 + (1 : Int))), (0 : Int))) else A4 (bits BinOp.or .u64 x0 (IntKind.wrap .u64 ((IntKind.wrap .u64 (bits BinOp.and .u8 y2 (127 : Int))) * ((2 : Int) ^ (Min.min (Int.toNat (IntKind.wrap .i64 ((7 : Int) * x1))) (IntKind.bits .u64)))))) (IntKind.wrap .i64 (x1 + (1 : Int)))))) else (if ((IntKind.wrap .i64 ((7 : Int) * x1)) < (0 : Int)) then none else (if (decide (y2 < (128 : Int))) then (if (y2 == (0 : Int)) then (if (decide (x1 > (0 : Int))) then some ((0 : Int), (0 : Int), (4 : Int)) else some ((bits BinOp.or .u64 x0 (IntKind.wrap .u64 ((IntKind.wrap .u64 (bits BinOp.and .u8 y2 (127 : Int))) * ((2 : Int) ^ (Min.min (Int.toNat (IntKind.wrap .i64 ((7 : Int) * x1))) (IntKind.bits .u64)))))), (IntKind.wrap .i64 (x1 + (1 : Int))), (0 : Int))) else some ((bits BinOp.or .u64 x0 (IntKind.wrap .u64 ((IntKind.wrap .u64 (bits BinOp.and .u8 y2 (127 : Int))) * ((2 : Int) ^ (Min.min (Int.toNat (IntKind.wrap .i64 ((7 : Int) * x1))) (IntKind.bits .u64)))))), (IntKind.wrap .i64 (x1 + (1 : Int))), (0 : Int))) else A4 (bits BinOp.or .u64 x0 (IntKind.wrap .u64 ((IntKind.wrap .u64 (bits BinOp.and .u8 y2 (127 : Int))) * ((2 : Int) ^ (Min.min (Int.toNat (IntKind.wrap .i64 ((7 : Int) * x1))) (IntKind.bits .u64)))))) (IntKind.wrap .i64 (x1 + (1 : Int)))))))) else some ((0 : Int), (0 : Int), (2 : Int)))
def zq.l4 (qa : Nat) (b : List Int) : Nat → Int → Int → Option (Int × Int × Int)
 | 0, _, _ => none
 | k + 1, x0, x1 => zq.b4 b (zq.l4 qa b k) x0 x1
def zq.b (b : List Int) (E4 : Int → Int → Option (Int × Int × Int)) : Option (Int × Int × Int) :=
 E4 (0 : Int) (0 : Int)
def zq.f (qa : Nat) (b : List Int) : Option (Int × Int × Int) := zq.b b (zq.l4 qa b qa)
theorem zq.l4_eq (qa : Nat) (b : List Int) : ∀ k : Nat, zq.p4 qa b k = zq.l4 qa b k
 | 0 => by kernel_rfl
 | k + 1 => by
  refine Eq.trans (b := zq.b4 b (zq.p4 qa b k)) (by kernel_rfl) ?_
  rw [zq.l4_eq qa b k]
  kernel_rfl
theorem zq.eq (qa : Nat) (b : List Int) : (denF qfz loopN qa Tryz.f133 [.raw, .raw, .raw] [.d (.sl (.int .u8)) b] [] zq.k) = zq.f qa b := by
 refine Eq.trans (b := zq.b b (zq.p4 qa b qa)) (by kernel_rfl) ?_
 rw [zq.l4_eq qa b qa]
 kernel_rfl
def qbv : Den.Sum := ⟨[.dat (.sl (.int .u8)) false], fun qK qn κ => match qK, qn with
 | [.d (.sl (.int .u8)) b], [] => (match veil (zq.f BIG b) with | none => none | some y => κ [.d (.int .u64) y.1, .d (.int .i64) y.2.1, .d (.int .i64) y.2.2] [])
 | _, _ => none⟩
theorem qjz : SumDet qbv := zj fun _ _ _ _ => by
 unfold qbv
 simp only [veil_eq]
 split
 ·split <;> rfl
 ·rfl
theorem qkg : SumOk Tryz.prog 133 qbv := by
 have hE : EnvOk Tryz.prog qfz := env_ok (l := []) th_ok qZ trivial _
 refine sum_ok hE Tryz.func133 rfl (by kernel_rfl) qbv [.raw, .raw, .raw] zq.k ?_
 intro R avs qn κ r h
 unfold qbv at h
 simp only [veil_eq] at h
 split at h
 ·rename_i b
  split at h
  ·cases h
  ·rename_i y hy
   refine ⟨BIG, _, _, _, (zq.eq BIG b).trans hy, ?_, h⟩
   intro rs ros hk
   unfold zq.k at hk
   split at hk
   ·rw [← sj hk]; exact ⟨rfl, rfl⟩
   ·cases hk
 ·cases h
def qhJ : Env := ⟨th, gam [(57, qhe)], fun i => ⟨[], [], []⟩⟩
def ZC.k (rs : List AV) (os : List Den.Obj) : Option ((List Int) × Int) :=
 match rs, os with
 | [.d (.sl (.int .u8)) r0, .d (.int .i64) r1], [] => some (r0, r1)
 | _, _ => none
def ZC.b (qj qs qH qe qf qG qg qr ql qq : Int) (qh qb : LR) : Option ((List Int) × Int) :=
 (if (q9 qh) then some ((qen qj qs qH qe qf qG qg qr ql qq qh).1, (qen qj qs qH qe qf qG qg qr ql qq qh).2) else none)
def ZC.f (qa : Nat) (qj qs qH qe qf qG qg qr ql qq : Int) (qh qb : LR) : Option ((List Int) × Int) := ZC.b qj qs qH qe qf qG qg qr ql qq qh qb
theorem ZC.eq (qa : Nat) (qj qs qH qe qf qG qg qr ql qq : Int) (qh qb : LR) : (denF qhJ loopN qa Tryz.f56 [.own 5 (.int .u8), .raw] [.agg [.d tQi qj, .d tQi qs, .d tQi qH, .d tQi qe, .d tQi qf, .d tQi qG, .d tQi qg, .d tQi qr, .d tQi ql, .d tQi qq, .d (.sl tQr) qh], .d (.sl tQr) qb] [] ZC.k) = ZC.f qa qj qs qH qe qf qG qg qr ql qq qh qb := by
 kernel_rfl
def Zs : Den.Sum := ⟨[.dat (.pair tQi (.pair tQi (.pair tQi (.pair (.pair tQi tQi) (.pair tQi (.pair tQi (.pair tQi (.pair tQi (.pair tQi (.sl tQr)))))))))) true, .dat (.sl tQr) false], fun qK qn κ => match qK, qn with
 | [.agg [.d (.int .i64) qj, .d (.int .i64) qs, .d (.int .i64) qH, .d (.int .i64) qe, .d (.int .i64) qf, .d (.int .i64) qG, .d (.int .i64) qg, .d (.int .i64) qr, .d (.int .i64) ql, .d (.int .i64) qq, .d (.sl (.pair (.int .i64) (.pair (.int .i64) (.pair (.int .i64) (.pair (.pair (.int .i64) (.int .i64)) (.pair .bool (.sl (.pair (.int .i64) (.sl (.int .u8)))))))))) qh], .d (.sl (.pair (.int .i64) (.pair (.int .i64) (.pair (.int .i64) (.pair (.pair (.int .i64) (.int .i64)) (.pair .bool (.sl (.pair (.int .i64) (.sl (.int .u8)))))))))) qb], [] => (match veil (ZC.f BIG qj qs qH qe qf qG qg qr ql qq qh qb) with | none => none | some y => κ [.d (.sl (.int .u8)) y.1, .d (.int .i64) y.2] [])
 | _, _ => none⟩
theorem qdn : SumDet Zs := zj fun _ _ _ _ => by
 unfold Zs
 simp only [veil_eq]
 split
 ·split <;> rfl
 ·rfl
theorem qdI : SumOk Tryz.prog 56 Zs := by
 have hE : EnvOk Tryz.prog qhJ := env_ok (l := [(57, qhe)]) th_ok qZ ⟨⟨qqR, qpP⟩, trivial⟩ _
 refine sum_ok hE Tryz.func56 rfl (by kernel_rfl) Zs [.own 5 (.int .u8), .raw] ZC.k ?_
 intro R avs qn κ r h
 unfold Zs at h
 simp only [veil_eq] at h
 split at h
 ·rename_i qj qs qH qe qf qG qg qr ql qq qh qb
  split at h
  ·cases h
  ·rename_i y hy
   refine ⟨BIG, _, _, _, (ZC.eq BIG qj qs qH qe qf qG qg qr ql qq qh qb).trans hy, ?_, h⟩
   intro rs ros hk
   unfold ZC.k at hk
   split at hk
   ·rw [← sj hk]; exact ⟨rfl, rfl⟩
   ·cases hk
 ·cases h
def qhI : Env := ⟨th, gam [(59, qgV)], fun i => ⟨[], [], []⟩⟩
def ZB.k (rs : List AV) (os : List Den.Obj) : Option (Int × Int × Int × Int × Int × Int × Int × Int × Int × Int × LR × Int) :=
 match rs, os with
 | [.agg [.d (.int .i64) r0, .d (.int .i64) r1, .d (.int .i64) r2, .d (.int .i64) r3, .d (.int .i64) r4, .d (.int .i64) r5, .d (.int .i64) r6, .d (.int .i64) r7, .d (.int .i64) r8, .d (.int .i64) r9, .d (.sl (.pair (.int .i64) (.pair (.int .i64) (.pair (.int .i64) (.pair (.pair (.int .i64) (.int .i64)) (.pair .bool (.sl (.pair (.int .i64) (.sl (.int .u8)))))))))) r10], .d (.int .i64) r11], [] => some (r0, r1, r2, r3, r4, r5, r6, r7, r8, r9, r10, r11)
 | _, _ => none
def ZB.b (b : List Int) (qb : LR) : Option (Int × Int × Int × Int × Int × Int × Int × Int × Int × Int × LR × Int) :=
 (if (inB b) then (match (veil (Option.some (Qs b))) with | none => none | some y0 => some (y0.1, y0.2.1, y0.2.2.1, y0.2.2.2.1, y0.2.2.2.2.1, y0.2.2.2.2.2.1, y0.2.2.2.2.2.2.1, 0, 0, 0, y0.2.2.2.2.2.2.2.1, y0.2.2.2.2.2.2.2.2)) else none)
def ZB.f (qa : Nat) (b : List Int) (qb : LR) : Option (Int × Int × Int × Int × Int × Int × Int × Int × Int × Int × LR × Int) := ZB.b b qb
theorem ZB.eq (qa : Nat) (b : List Int) (qb : LR) : (denF qhI loopN qa Tryz.f58 [.dat (.pair tQi (.pair tQi (.pair tQi (.pair (.pair tQi tQi) (.pair tQi (.pair tQi (.pair tQi (.pair tQi (.pair tQi (.sl tQr)))))))))) true, .raw] [.d (.sl (.int .u8)) b, .d (.sl tQr) qb] [] ZB.k) = ZB.f qa b qb := by
 kernel_rfl
def Zr : Den.Sum := ⟨[.dat (.sl (.int .u8)) false, .dat (.sl tQr) false], fun qK qn κ => match qK, qn with
 | [.d (.sl (.int .u8)) b, .d (.sl (.pair (.int .i64) (.pair (.int .i64) (.pair (.int .i64) (.pair (.pair (.int .i64) (.int .i64)) (.pair .bool (.sl (.pair (.int .i64) (.sl (.int .u8)))))))))) qb], [] => (match veil (ZB.f BIG b qb) with | none => none | some y => κ [.agg [.d (.int .i64) y.1, .d (.int .i64) y.2.1, .d (.int .i64) y.2.2.1, .d (.int .i64) y.2.2.2.1, .d (.int .i64) y.2.2.2.2.1, .d (.int .i64) y.2.2.2.2.2.1, .d (.int .i64) y.2.2.2.2.2.2.1, .d (.int .i64) y.2.2.2.2.2.2.2.1, .d (.int .i64) y.2.2.2.2.2.2.2.2.1, .d (.int .i64) y.2.2.2.2.2.2.2.2.2.1, .d (.sl (.pair (.int .i64) (.pair (.int .i64) (.pair (.int .i64) (.pair (.pair (.int .i64) (.int .i64)) (.pair .bool (.sl (.pair (.int .i64) (.sl (.int .u8)))))))))) y.2.2.2.2.2.2.2.2.2.2.1], .d (.int .i64) y.2.2.2.2.2.2.2.2.2.2.2] [])
 | _, _ => none⟩
theorem qdm : SumDet Zr := zj fun _ _ _ _ => by
 unfold Zr
 simp only [veil_eq]
 split
 ·split <;> rfl
 ·rfl
theorem qdH : SumOk Tryz.prog 58 Zr := by
 have hE : EnvOk Tryz.prog qhI := env_ok (l := [(59, qgV)]) th_ok qZ ⟨⟨qpR, qoT⟩, trivial⟩ _
 refine sum_ok hE Tryz.func58 rfl (by kernel_rfl) Zr [.dat (.pair tQi (.pair tQi (.pair tQi (.pair (.pair tQi tQi) (.pair tQi (.pair tQi (.pair tQi (.pair tQi (.pair tQi (.sl tQr)))))))))) true, .raw] ZB.k ?_
 intro R avs qn κ r h
 unfold Zr at h
 simp only [veil_eq] at h
 split at h
 ·rename_i b qb
  split at h
  ·cases h
  ·rename_i y hy
   refine ⟨BIG, _, _, _, (ZB.eq BIG b qb).trans hy, ?_, h⟩
   intro rs ros hk
   unfold ZB.k at hk
   split at hk
   ·rw [← sj hk]; exact ⟨rfl, rfl⟩
   ·cases hk
 ·cases h
def qhH : Env := ⟨th, gam [(61, qfM)], fun i => ⟨[], [], []⟩⟩
def ZA.k (rs : List AV) (os : List Den.Obj) : Option ((List Int) × Int) :=
 match rs, os with
 | [.d (.sl (.int .u8)) r0, .d (.int .i64) r1], [] => some (r0, r1)
 | _, _ => none
def ZA.b (qj qs qH qe qf qG qg qr ql qq : Int) (qh qb : LR) : Option ((List Int) × Int) :=
 (if (q9 qh) then some ((qeo qj qs qH qe qf qG qg qr ql qq qh).1, (qeo qj qs qH qe qf qG qg qr ql qq qh).2) else none)
def ZA.f (qa : Nat) (qj qs qH qe qf qG qg qr ql qq : Int) (qh qb : LR) : Option ((List Int) × Int) := ZA.b qj qs qH qe qf qG qg qr ql qq qh qb
theorem ZA.eq (qa : Nat) (qj qs qH qe qf qG qg qr ql qq : Int) (qh qb : LR) : (denF qhH loopN qa Tryz.f60 [.own 5 (.int .u8), .raw] [.agg [.d tQi qj, .d tQi qs, .d tQi qH, .d tQi qe, .d tQi qf, .d tQi qG, .d tQi qg, .d tQi qr, .d tQi ql, .d tQi qq, .d (.sl tQr) qh], .d (.sl tQr) qb] [] ZA.k) = ZA.f qa qj qs qH qe qf qG qg qr ql qq qh qb := by
 kernel_rfl
def Zq : Den.Sum := ⟨[.dat (.pair tQi (.pair tQi (.pair tQi (.pair (.pair tQi tQi) (.pair tQi (.pair tQi (.pair tQi (.pair tQi (.pair tQi (.sl tQr)))))))))) true, .dat (.sl tQr) false], fun qK qn κ => match qK, qn with
 | [.agg [.d (.int .i64) qj, .d (.int .i64) qs, .d (.int .i64) qH, .d (.int .i64) qe, .d (.int .i64) qf, .d (.int .i64) qG, .d (.int .i64) qg, .d (.int .i64) qr, .d (.int .i64) ql, .d (.int .i64) qq, .d (.sl (.pair (.int .i64) (.pair (.int .i64) (.pair (.int .i64) (.pair (.pair (.int .i64) (.int .i64)) (.pair .bool (.sl (.pair (.int .i64) (.sl (.int .u8)))))))))) qh], .d (.sl (.pair (.int .i64) (.pair (.int .i64) (.pair (.int .i64) (.pair (.pair (.int .i64) (.int .i64)) (.pair .bool (.sl (.pair (.int .i64) (.sl (.int .u8)))))))))) qb], [] => (match veil (ZA.f BIG qj qs qH qe qf qG qg qr ql qq qh qb) with | none => none | some y => κ [.d (.sl (.int .u8)) y.1, .d (.int .i64) y.2] [])
 | _, _ => none⟩
theorem qdl : SumDet Zq := zj fun _ _ _ _ => by
 unfold Zq
 simp only [veil_eq]
 split
 ·split <;> rfl
 ·rfl
theorem qdG : SumOk Tryz.prog 60 Zq := by
 have hE : EnvOk Tryz.prog qhH := env_ok (l := [(61, qfM)]) th_ok qZ ⟨⟨qpQ, qoS⟩, trivial⟩ _
 refine sum_ok hE Tryz.func60 rfl (by kernel_rfl) Zq [.own 5 (.int .u8), .raw] ZA.k ?_
 intro R avs qn κ r h
 unfold Zq at h
 simp only [veil_eq] at h
 split at h
 ·rename_i qj qs qH qe qf qG qg qr ql qq qh qb
  split at h
  ·cases h
  ·rename_i y hy
   refine ⟨BIG, _, _, _, (ZA.eq BIG qj qs qH qe qf qG qg qr ql qq qh qb).trans hy, ?_, h⟩
   intro rs ros hk
   unfold ZA.k at hk
   split at hk
   ·rw [← sj hk]; exact ⟨rfl, rfl⟩
   ·cases hk
 ·cases h
def qhG : Env := ⟨th, gam [(63, qfw)], fun i => ⟨[], [], []⟩⟩
def Zz.k (rs : List AV) (os : List Den.Obj) : Option (Int × Int × Int × Int × Int × Int × Int × Int × Int × Int × LR × Int) :=
 match rs, os with
 | [.agg [.d (.int .i64) r0, .d (.int .i64) r1, .d (.int .i64) r2, .d (.int .i64) r3, .d (.int .i64) r4, .d (.int .i64) r5, .d (.int .i64) r6, .d (.int .i64) r7, .d (.int .i64) r8, .d (.int .i64) r9, .d (.sl (.pair (.int .i64) (.pair (.int .i64) (.pair (.int .i64) (.pair (.pair (.int .i64) (.int .i64)) (.pair .bool (.sl (.pair (.int .i64) (.sl (.int .u8)))))))))) r10], .d (.int .i64) r11], [] => some (r0, r1, r2, r3, r4, r5, r6, r7, r8, r9, r10, r11)
 | _, _ => none
def Zz.b (b : List Int) (qb : LR) : Option (Int × Int × Int × Int × Int × Int × Int × Int × Int × Int × LR × Int) :=
 (if (inS b) then (match (veil (Option.some (zT b))) with | none => none | some y0 => some (y0.1, y0.2.1, y0.2.2.1, y0.2.2.2.1, y0.2.2.2.2.1, y0.2.2.2.2.2.1, y0.2.2.2.2.2.2.1, 0, 0, 0, y0.2.2.2.2.2.2.2.1, y0.2.2.2.2.2.2.2.2)) else none)
def Zz.f (qa : Nat) (b : List Int) (qb : LR) : Option (Int × Int × Int × Int × Int × Int × Int × Int × Int × Int × LR × Int) := Zz.b b qb
theorem Zz.eq (qa : Nat) (b : List Int) (qb : LR) : (denF qhG loopN qa Tryz.f62 [.dat (.pair tQi (.pair tQi (.pair tQi (.pair (.pair tQi tQi) (.pair tQi (.pair tQi (.pair tQi (.pair tQi (.pair tQi (.sl tQr)))))))))) true, .raw] [.d (.sl (.int .u8)) b, .d (.sl tQr) qb] [] Zz.k) = Zz.f qa b qb := by
 kernel_rfl
def Zp : Den.Sum := ⟨[.dat (.sl (.int .u8)) false, .dat (.sl tQr) false], fun qK qn κ => match qK, qn with
 | [.d (.sl (.int .u8)) b, .d (.sl (.pair (.int .i64) (.pair (.int .i64) (.pair (.int .i64) (.pair (.pair (.int .i64) (.int .i64)) (.pair .bool (.sl (.pair (.int .i64) (.sl (.int .u8)))))))))) qb], [] => (match veil (Zz.f BIG b qb) with | none => none | some y => κ [.agg [.d (.int .i64) y.1, .d (.int .i64) y.2.1, .d (.int .i64) y.2.2.1, .d (.int .i64) y.2.2.2.1, .d (.int .i64) y.2.2.2.2.1, .d (.int .i64) y.2.2.2.2.2.1, .d (.int .i64) y.2.2.2.2.2.2.1, .d (.int .i64) y.2.2.2.2.2.2.2.1, .d (.int .i64) y.2.2.2.2.2.2.2.2.1, .d (.int .i64) y.2.2.2.2.2.2.2.2.2.1, .d (.sl (.pair (.int .i64) (.pair (.int .i64) (.pair (.int .i64) (.pair (.pair (.int .i64) (.int .i64)) (.pair .bool (.sl (.pair (.int .i64) (.sl (.int .u8)))))))))) y.2.2.2.2.2.2.2.2.2.2.1], .d (.int .i64) y.2.2.2.2.2.2.2.2.2.2.2] [])
 | _, _ => none⟩
theorem qdk : SumDet Zp := zj fun _ _ _ _ => by
 unfold Zp
 simp only [veil_eq]
 split
 ·split <;> rfl
 ·rfl
theorem qdF : SumOk Tryz.prog 62 Zp := by
 have hE : EnvOk Tryz.prog qhG := env_ok (l := [(63, qfw)]) th_ok qZ ⟨⟨qoU, qnH⟩, trivial⟩ _
 refine sum_ok hE Tryz.func62 rfl (by kernel_rfl) Zp [.dat (.pair tQi (.pair tQi (.pair tQi (.pair (.pair tQi tQi) (.pair tQi (.pair tQi (.pair tQi (.pair tQi (.pair tQi (.sl tQr)))))))))) true, .raw] Zz.k ?_
 intro R avs qn κ r h
 unfold Zp at h
 simp only [veil_eq] at h
 split at h
 ·rename_i b qb
  split at h
  ·cases h
  ·rename_i y hy
   refine ⟨BIG, _, _, _, (Zz.eq BIG b qb).trans hy, ?_, h⟩
   intro rs ros hk
   unfold Zz.k at hk
   split at hk
   ·rw [← sj hk]; exact ⟨rfl, rfl⟩
   ·cases hk
 ·cases h
def qk2 : Env := ⟨th, gam [(70, qcW)], fun i => ⟨[], [], []⟩⟩
def qao.k (rs : List AV) (os : List Den.Obj) : Option Bool :=
 match rs, os with
 | [.d .bool r0], [] => some r0
 | _, _ => none
def qao.b (qj qs qH qe qf qG qg qr ql qq : Int) (qh : LR) (gen : Int) : Option Bool :=
 (match (veil (zZ.f BIG qj qs qH qe qf qG qg qr ql qq qh gen)) with | none => none | some y0 => some ((((((List.length y0)) : Nat) : Int) == (0 : Int))))
def qao.f (qa : Nat) (qj qs qH qe qf qG qg qr ql qq : Int) (qh : LR) (gen : Int) : Option Bool := qao.b qj qs qH qe qf qG qg qr ql qq qh gen
theorem qao.eq (qa : Nat) (qj qs qH qe qf qG qg qr ql qq : Int) (qh : LR) (gen : Int) : (denF qk2 loopN qa Tryz.f46 [.raw] [.agg [.d tQi qj, .d tQi qs, .d tQi qH, .d tQi qe, .d tQi qf, .d tQi qG, .d tQi qg, .d tQi qr, .d tQi ql, .d tQi qq, .d (.sl tQr) qh], .d tQi gen] [] qao.k) = qao.f qa qj qs qH qe qf qG qg qr ql qq qh gen := by
 kernel_rfl
def qbh : Den.Sum := ⟨[.dat (.pair tQi (.pair tQi (.pair tQi (.pair (.pair tQi tQi) (.pair tQi (.pair tQi (.pair tQi (.pair tQi (.pair tQi (.sl tQr)))))))))) true, .raw], fun qK qn κ => match qK, qn with
 | [.agg [.d (.int .i64) qj, .d (.int .i64) qs, .d (.int .i64) qH, .d (.int .i64) qe, .d (.int .i64) qf, .d (.int .i64) qG, .d (.int .i64) qg, .d (.int .i64) qr, .d (.int .i64) ql, .d (.int .i64) qq, .d (.sl (.pair (.int .i64) (.pair (.int .i64) (.pair (.int .i64) (.pair (.pair (.int .i64) (.int .i64)) (.pair .bool (.sl (.pair (.int .i64) (.sl (.int .u8)))))))))) qh], .d (.int .i64) gen], [] => (match veil (qao.f BIG qj qs qH qe qf qG qg qr ql qq qh gen) with | none => none | some y => κ [.d .bool y] [])
 | _, _ => none⟩
theorem qgU : SumDet qbh := zj fun _ _ _ _ => by
 unfold qbh
 simp only [veil_eq]
 split
 ·split <;> rfl
 ·rfl
theorem qhP : SumOk Tryz.prog 46 qbh := by
 have hE : EnvOk Tryz.prog qk2 := env_ok (l := [(70, qcW)]) th_ok qZ ⟨⟨qmT, qmt⟩, trivial⟩ _
 refine sum_ok hE Tryz.func46 rfl (by kernel_rfl) qbh [.raw] qao.k ?_
 intro R avs qn κ r h
 unfold qbh at h
 simp only [veil_eq] at h
 split at h
 ·rename_i qj qs qH qe qf qG qg qr ql qq qh gen
  split at h
  ·cases h
  ·rename_i y hy
   refine ⟨BIG, _, _, _, (qao.eq BIG qj qs qH qe qf qG qg qr ql qq qh gen).trans hy, ?_, h⟩
   intro rs ros hk
   unfold qao.k at hk
   split at hk
   ·rw [← sj hk]; exact ⟨rfl, rfl⟩
   ·cases hk
 ·cases h
def qfa : Env := ⟨th, gam [(52, Zg), (84, qaP), (133, qbv)], fun i => if i = 2 then ⟨[0, 1, 6], [(6, 5, (.int .u8))], []⟩ else ⟨[], [], []⟩⟩
def zk.k (rs : List AV) (os : List Den.Obj) : Option (Int × Bool × (List Int) × Int × Bool) :=
 match rs, os with
 | [.d (.int .i64) r0, .d .bool r1], [.box [.d (.sl (.int .u8)) r2, .d (.int .i64) r3, .d .bool r4]] => some (r0, r1, r2, r3, r4)
 | _, _ => none
def zk.s2 (bs : List Int) (at0 : Int) (bad : Bool) (zm x0 : Int) (x1 : Bool) (x2 : (List Int)) : St := ⟨[.ptr 0 0, .d tQi (zm), dD, dD, dD, dD, .row 64, dD, dD, dD, dD, dD, dD, dD, dD, dD, dD, dD, dD, dD, dD, dD, dD, dD, dD, dD, dD, dD, dD, dD, dD, dD, dD, dD, dD, dD, dD, dD, dD, dD, dD, dD, dD, dD, .dead], ofL [(0, .box [.d (.sl (.int .u8)) (bs), .d tQi x0, .d .bool x1]), (64, .row 5 (.int .u8) x2 false)], 1⟩
def zk.p2 (qa : Nat) (bs : List Int) (at0 : Int) (bad : Bool) (zm : Int) (k : Nat) := fun x0 x1 x2 => lp qfa qa Tryz.f121 [.raw, .raw] 1 zk.k 2 [] k (zk.s2 bs at0 bad zm x0 x1 x2)
def zk.b2 (bs : List Int) (at0 : Int) (bad : Bool) (zm : Int) (A2 : Int → Bool → (List Int) → Option (Int × Bool × (List Int) × Int × Bool)) (x0 : Int) (x1 : Bool) (x2 : (List Int)) : Option (Int × Bool × (List Int) × Int × Bool) :=
 (if (decide (((((List.length x2)) : Nat) : Int) < (10 : Int))) then (if (zt bs x0) then (match (veil (Option.some (qz bs (1 : Int) x0 x1))) with | none => none | some y3 => (if y3.2.2 then some ((0 : Int), false, bs, y3.2.1, y3.2.2) else (if ((((List.length x2) + (List.length ((IntKind.wrap .u8 y3.1) :: ([] : List Int)))) * (1 : Nat)) ≤ lim) then (if (decide (y3.1 < (128 : Int))) then (match (veil (zq.f BIG (x2 ++ ((IntKind.wrap .u8 y3.1) :: ([] : List Int))))) with | none => none | some y4 => (if (y4.2.2 != (0 : Int)) then some ((0 : Int), false, bs, y3.2.1, y3.2.2) else (if (decide (zm < (0 : Int))) then some ((0 : Int), false, bs, y3.2.1, y3.2.2) else (if (decide (y4.1 > (IntKind.wrap .u64 zm))) then some ((0 : Int), false, bs, y3.2.1, y3.2.2) else some ((IntKind.wrap .i64 y4.1), true, bs, y3.2.1, y3.2.2))))) else A2 y3.2.1 y3.2.2 (x2 ++ ((IntKind.wrap .u8 y3.1) :: ([] : List Int)))) else none))) else none) else (match (veil (zq.f BIG x2)) with | none => none | some y5 => (if (y5.2.2 != (0 : Int)) then some ((0 : Int), false, bs, x0, x1) else (if (decide (zm < (0 : Int))) then some ((0 : Int), false, bs, x0, x1) else (if (decide (y5.1 > (IntKind.wrap .u64 zm))) then some ((0 : Int), false, bs, x0, x1) else some ((IntKind.wrap .i64 y5.1), true, bs, x0, x1))))))
def zk.l2 (qa : Nat) (bs : List Int) (at0 : Int) (bad : Bool) (zm : Int) : Nat → Int → Bool → (List Int) → Option (Int × Bool × (List Int) × Int × Bool)
 | 0, _, _, _ => none
 | k + 1, x0, x1, x2 => zk.b2 bs at0 bad zm (zk.l2 qa bs at0 bad zm k) x0 x1 x2
def zk.b (bs : List Int) (at0 : Int) (bad : Bool) (zm : Int) (E2 : Int → Bool → (List Int) → Option (Int × Bool × (List Int) × Int × Bool)) : Option (Int × Bool × (List Int) × Int × Bool) :=
 E2 at0 bad ([] : List Int)
def zk.f (qa : Nat) (bs : List Int) (at0 : Int) (bad : Bool) (zm : Int) : Option (Int × Bool × (List Int) × Int × Bool) := zk.b bs at0 bad zm (zk.l2 qa bs at0 bad zm qa)
theorem zk.l2_eq (qa : Nat) (bs : List Int) (at0 : Int) (bad : Bool) (zm : Int) : ∀ k : Nat, zk.p2 qa bs at0 bad zm k = zk.l2 qa bs at0 bad zm k
 | 0 => by kernel_rfl
 | k + 1 => by
  refine Eq.trans (b := zk.b2 bs at0 bad zm (zk.p2 qa bs at0 bad zm k)) (by kernel_rfl) ?_
  rw [zk.l2_eq qa bs at0 bad zm k]
  kernel_rfl
theorem zk.eq (qa : Nat) (bs : List Int) (at0 : Int) (bad : Bool) (zm : Int) : (denF qfa loopN qa Tryz.f121 [.raw, .raw] [.ptr 0 0, .d tQi zm] [.box [.d (.sl (.int .u8)) bs, .d tQi at0, .d .bool bad]] zk.k) = zk.f qa bs at0 bad zm := by
 refine Eq.trans (b := zk.b bs at0 bad zm (zk.p2 qa bs at0 bad zm qa)) (by kernel_rfl) ?_
 rw [zk.l2_eq qa bs at0 bad zm qa]
 kernel_rfl
def qa4 : Den.Sum := ⟨[.pb [.frz none [] 0 (.int .u8)], .raw], fun qK qn κ => match qK, qn with
 | [.ptr 0 0, .d (.int .i64) zm], [.box [.d (.sl (.int .u8)) bs, .d (.int .i64) at0, .d .bool bad]] => (match veil (zk.f BIG bs at0 bad zm) with | none => none | some y => κ [.d (.int .i64) y.1, .d .bool y.2.1] [.box [.d (.sl (.int .u8)) y.2.2.1, .d (.int .i64) y.2.2.2.1, .d .bool y.2.2.2.2]])
 | _, _ => none⟩
theorem qiU : SumDet qa4 := zj fun _ _ _ _ => by
 unfold qa4
 simp only [veil_eq]
 split
 ·split <;> rfl
 ·rfl
theorem qjA : SumOk Tryz.prog 121 qa4 := by
 have hE : EnvOk Tryz.prog qfa := env_ok (l := [(52, Zg), (84, qaP), (133, qbv)]) th_ok qZ ⟨⟨qbd, qaL⟩, ⟨qcZ, qcj⟩, ⟨qkg, qjz⟩, trivial⟩ _
 refine sum_ok hE Tryz.func121 rfl (by kernel_rfl) qa4 [.raw, .raw] zk.k ?_
 intro R avs qn κ r h
 unfold qa4 at h
 simp only [veil_eq] at h
 split at h
 ·rename_i zm bs at0 bad
  split at h
  ·cases h
  ·rename_i y hy
   refine ⟨BIG, _, _, _, (zk.eq BIG bs at0 bad zm).trans hy, ?_, h⟩
   intro rs ros hk
   unfold zk.k at hk
   split at hk
   ·rw [← sj hk]; exact ⟨rfl, rfl⟩
   ·cases hk
 ·cases h
def qe6 : Env := ⟨th, gam [(121, qa4)], fun i => ⟨[], [], []⟩⟩
def qI.k (rs : List AV) (os : List Den.Obj) : Option (Int × Bool × (List Int) × Int × Bool) :=
 match rs, os with
 | [.d (.int .i64) r0], [.box [.ptr 1 0, .d .bool r1], .box [.d (.sl (.int .u8)) r2, .d (.int .i64) r3, .d .bool r4]] => some (r0, r1, r2, r3, r4)
 | _, _ => none
def qI.b (bs : List Int) (at0 : Int) (bad za : Bool) (limit : Int) : Option (Int × Bool × (List Int) × Int × Bool) :=
 (if za then some ((0 : Int), za, bs, at0, bad) else (match (veil (zk.f BIG bs at0 bad limit)) with | none => none | some y0 => some (y0.1, (!y0.2.1), y0.2.2.1, y0.2.2.2.1, y0.2.2.2.2)))
def qI.f (qa : Nat) (bs : List Int) (at0 : Int) (bad za : Bool) (limit : Int) : Option (Int × Bool × (List Int) × Int × Bool) := qI.b bs at0 bad za limit
theorem qI.eq (qa : Nat) (bs : List Int) (at0 : Int) (bad za : Bool) (limit : Int) : (denF qe6 loopN qa Tryz.f98 [.raw] [.ptr 0 0, .d tQi limit] [.box [.ptr 1 0, .d .bool za], .box [.d (.sl (.int .u8)) bs, .d tQi at0, .d .bool bad]] qI.k) = qI.f qa bs at0 bad za limit := by
 kernel_rfl
def zQ : Den.Sum := ⟨[.pb [.frz none [0] 0 (.int .u8)], .raw], fun qK qn κ => match qK, qn with
 | [.ptr 0 0, .d (.int .i64) limit], [.box [.ptr 1 0, .d .bool za], .box [.d (.sl (.int .u8)) bs, .d (.int .i64) at0, .d .bool bad]] => (match veil (qI.f BIG bs at0 bad za limit) with | none => none | some y => κ [.d (.int .i64) y.1] [.box [.ptr 1 0, .d .bool y.2.1], .box [.d (.sl (.int .u8)) y.2.2.1, .d (.int .i64) y.2.2.2.1, .d .bool y.2.2.2.2]])
 | _, _ => none⟩
theorem qae : SumDet zQ := zj fun _ _ _ _ => by
 unfold zQ
 simp only [veil_eq]
 split
 ·split <;> rfl
 ·rfl
theorem qap : SumOk Tryz.prog 98 zQ := by
 have hE : EnvOk Tryz.prog qe6 := env_ok (l := [(121, qa4)]) th_ok qZ ⟨⟨qjA, qiU⟩, trivial⟩ _
 refine sum_ok hE Tryz.func98 rfl (by kernel_rfl) zQ [.raw] qI.k ?_
 intro R avs qn κ r h
 unfold zQ at h
 simp only [veil_eq] at h
 split at h
 ·rename_i limit za bs at0 bad
  split at h
  ·cases h
  ·rename_i y hy
   refine ⟨BIG, _, _, _, (qI.eq BIG bs at0 bad za limit).trans hy, ?_, h⟩
   intro rs ros hk
   unfold qI.k at hk
   split at hk
   ·rw [← sj hk]; exact ⟨rfl, rfl⟩
   ·cases hk
 ·cases h
def qeB : Env := ⟨th, gam [(76, QK), (41, qah), (98, zQ), (52, Zg), (107, Qy), (84, qaP)], fun i => ⟨[], [], []⟩⟩
def zO.k (rs : List AV) (os : List Den.Obj) : Option (Int × Int × Int × Int × Int × Int × Int × Int × Int × Int × Bool × (List Int) × Int × Bool) :=
 match rs, os with
 | [.agg [.d (.int .i64) r0, .d (.int .i64) r1, .d (.int .i64) r2, .d (.int .i64) r3, .d (.int .i64) r4, .d (.int .i64) r5, .d (.int .i64) r6, .d (.int .i64) r7, .d (.int .i64) r8, .d (.int .i64) r9, .nilsl]], [.box [.ptr 1 0, .d .bool r10], .box [.d (.sl (.int .u8)) r11, .d (.int .i64) r12, .d .bool r13]] => some (r0, r1, r2, r3, r4, r5, r6, r7, r8, r9, r10, r11, r12, r13)
 | _, _ => none
end
end Go.Proofs.YtneiiplppcjjlaaGreatDoor
