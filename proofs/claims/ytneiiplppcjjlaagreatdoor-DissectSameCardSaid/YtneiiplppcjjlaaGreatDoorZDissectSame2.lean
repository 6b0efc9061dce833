/- DissectSame, part 2: what the row leans on. -/
import Derived.Test.YtneiiplppcjjlaaGreatDoorZDissectSame1
set_option linter.unusedVariables false
set_option linter.unusedSimpArgs false
set_option maxRecDepth 100000
namespace Go.Proofs.YtneiiplppcjjlaaGreatDoor
open Go.Den
noncomputable section
theorem qlw : ∀ (l : LF) (qe size : Int), qfS l qe size = true → 0 ≤ size → ∀ x ∈ l, qe ≤ x.1 ∧ x.1 ≤ 255 ∧ x.2.length ≤ 4096
 | [], _, _, _, _, x, hx => by simp at hx
 | y :: l, qe, size, h, h0, x, hx => by
  unfold qfS at h
  split at h
  ·cases h
  ·split at h
   ·cases h
   ·rename_i h1 h2
    simp at h1 h2
    rcases List.mem_cons.1 hx with rfl | hx
    ·omega
    ·have := qlw l y.1 _ h (by omega) x hx
     omega
theorem qbm {b : LF} (h : qbQ b = true) : ∀ x ∈ b, 32 ≤ x.1 ∧ x.1 ≤ 255 ∧ x.2.length ≤ 4096 := by
 unfold qbQ at h
 split at h
 ·cases h
 ·exact qlw b 32 0 h (by omega)
theorem qgT (r : Int × Int × Int × (Int × Int) × Bool × LF) : qjY r = true ↔ zw r = true ∧ zo r.2.2.2.2.2 = true := by unfold qjY; simp
theorem qql {r : Int × Int × Int × (Int × Int) × Bool × LF} (h : zw r = true) : (Q5 r).length ≤ 4212 := by
 have := qlo r
 have := Za (zE h).2.2.2.2.2.2.2.1
 omega
theorem qph (r : Int × Int × Int × (Int × Int) × Bool × LF) : ((qdR r).length : Int) = qdb r := by
 unfold qdR qdb
 rw [qg5]
 have := qlo r
 dsimp only
 omega
theorem qlr {v : Int} (h0 : 0 ≤ v) (h1 : v ≤ 4294967295) : z8 4 v = true := (qbA 4 v).2 ⟨by omega, by omega, h0, by simp; omega⟩
theorem qf1 (r : Int × Int × Int × (Int × Int) × Bool × LF) : qfc r = true ↔ qjY r = true ∧ r.2.1 ≤ 4294967295 := by unfold qfc; simp
theorem qaL.pure (id inc st lo hi : Int) (cut : Bool) (bag : LF) (hl : qfc (id, inc, st, (lo, hi), cut, bag) = true) :
  qaL.f 0 id inc st lo hi cut bag = some (qa9 (id, inc, st, (lo, hi), cut, bag)) := by
 obtain ⟨hf, hi4⟩ := (qf1 _).1 hl
 obtain ⟨hok, hs⟩ := (qgT _).1 hf
 obtain ⟨f1, f2, f3, f4, f5, f6, f7, f8, _⟩ := zE hok
 have f9 := (qag _ _).1 f7
 dsimp only at f1 f2 f3 f4 f5 f6 f7 f8 f9 hi4
 obtain ⟨b1, b2, b3⟩ := Za f8
 unfold qaL.f qaL.b
 rw [qet f7]
 cases cut
 ·rw [if_neg (by simp), if_pos (qbM f1 (by omega)), if_pos (qlr f3 hi4), if_pos (qa8 f5 (by omega)), if_pos (qa8 (by omega) (by omega)), if_pos (by simp [lim]; omega)]
  rfl
 ·have e' : IntKind.wrap .i64 (st + 128) = st + 128 := qV _ (by omega) (by omega)
  rw [if_pos rfl, e', if_pos (qbM f1 (by omega)), if_pos (qlr f3 hi4), if_pos (qa8 (by omega) (by omega)), if_pos (qa8 (by omega) (by omega)), if_pos (by simp [lim]; omega)]
  rfl
theorem qgX (l : LF) : qfC l = true ↔ l.length ≤ 300 ∧ ∀ x ∈ l, (0 ≤ x.1 ∧ x.1 ≤ 255) ∧ x.2.length ≤ 65535 := by
 unfold qfC
 simp only [Bool.and_eq_true, decide_eq_true_eq, List.all_eq_true, qoQ]
theorem sw8 : IntKind.wrap .i64 ((8 : Int) - IntKind.wrap .i64 ((8 : Int) * 0)) = 8 := rfl
theorem sw0 : IntKind.wrap .i64 ((8 : Int) - IntKind.wrap .i64 ((8 : Int) * 1)) = 0 := rfl
theorem wi1 : IntKind.wrap .i64 ((0 : Int) + 1) = 1 := rfl
theorem wi2 : IntKind.wrap .i64 ((1 : Int) + 1) = 2 := rfl
theorem sb8 (n : Nat) (h : n ≤ 65535) : IntKind.wrap .u8 (Int.fdiv (n : Int) ((2 : Int) ^ 8)) = ((n / 256 : Nat) : Int) := by
 rw [qlL, Int.fdiv_eq_ediv_of_nonneg _ (by decide), show (2 : Int) ^ 8 = 256 from rfl]; omega
theorem sb0 (n : Nat) : IntKind.wrap .u8 (Int.fdiv (n : Int) ((2 : Int) ^ 0)) = ((n % 256 : Nat) : Int) := by
 rw [qlL, Int.fdiv_eq_ediv_of_nonneg _ (by decide), show (2 : Int) ^ 0 = 1 from rfl]; omega
theorem zY.step (qa : Nat) (l : LF) (A3 : Int → Int → List Int → Option (List Int × Int)) (m : Nat) (x4 x5 : Int) (acc : List Int) (t : Int) (d : List Int) (hd : d.length ≤ 65535) (ha : acc.length < 100000000) :
  zY.l11 qa l A3 (m + 3) x4 x5 0 acc t d = A3 x4 (IntKind.wrap .i64 (x5 + 1)) (((acc ++ [((d.length / 256 : Nat) : Int)]) ++ [((d.length % 256 : Nat) : Int)]) ++ d) := by
 rw [zY.l11]; unfold zY.b11
 rw [if_pos (by decide), sw8, if_neg (by decide), show Min.min (Int.toNat 8) (IntKind.bits .i64) = 8 from rfl, sb8 d.length hd, if_pos (by simp [lim]; omega), wi1]
 rw [zY.l11]; unfold zY.b11
 rw [if_pos (by decide), sw0, if_neg (by decide), show Min.min (Int.toNat 0) (IntKind.bits .i64) = 0 from rfl, sb0 d.length, if_pos (by simp [lim]; omega), wi2]
 rw [zY.l11]; unfold zY.b11
 rw [if_neg (by decide), if_pos (by simp [lim]; omega)]
theorem zY.loop (m : Nat) (l : LF) (hb : l.length ≤ 300) (ht : ∀ x ∈ l, (0 ≤ x.1 ∧ x.1 ≤ 255) ∧ x.2.length ≤ 65535) : ∀ (k i : Nat) (acc : List Int), i ≤ l.length → l.length - i < k → acc.length + 70000 * (l.length - i) < 50000000 →
  zY.l3 (m + 3) l k (l.length : Int) (i : Int) acc = some (acc ++ (l.drop i).flatMap Qe, 0) := by
 intro k
 induction k with
 | zero => intro i acc h1 h2; omega
 | succ k ih =>
  intro i acc h1 h2 h3
  rw [zY.l3]
  unfold zY.b3
  by_cases hi' : i < l.length
  ·rw [if_pos (by simp; omega), Qh, List.getElem?_eq_getElem hi']
   dsimp only
   have hx := ht l[i] (List.getElem_mem hi')
   rw [List.drop_eq_getElem_cons hi', List.flatMap_cons]
   generalize l[i] = x at hx ⊢
   rw [if_neg (by simp; omega), if_neg (by simp; omega), if_neg (by simp; omega), if_pos (by simp [lim]; omega), qrO hx.1, zY.step (m + 3) l _ m _ _ _ _ _ hx.2 (by simp; omega), qV ((i : Int) + 1) (by omega) (by omega)]
   have := ih (i + 1) ((((acc ++ [x.1]) ++ [((x.2.length / 256 : Nat) : Int)]) ++ [((x.2.length % 256 : Nat) : Int)]) ++ x.2) (by omega) (by omega) (by simp; omega)
   rw [show ((i + 1 : Nat) : Int) = (i : Int) + 1 from by omega] at this
   rw [this]
   simp [Qe]
  ·rw [if_neg (by simp; omega), List.drop_of_length_le (by omega)]
   simp
theorem zY.pure (l : LF) (hl : qfC l = true) : zY.f (l.length + 3) l = some (l.flatMap Qe, 0) := by
 obtain ⟨h1, h2⟩ := (qgX l).1 hl
 unfold zY.f zY.b
 have := zY.loop l.length l h1 h2 (l.length + 3) 0 [] (by omega) (by omega) (by simp; omega)
 rw [show ((0 : Nat) : Int) = 0 from rfl] at this
 rw [this]
 simp
theorem qmF {r : Int × Int × Int × (Int × Int) × Bool × LF} (h : zw r = true) : qfC (qa9 r) = true := by
 have f8 := (zE h).2.2.2.2.2.2.2.1
 have b1 := (Za f8).1
 refine (qgX _).2 ⟨by unfold qa9; simp; omega, ?_⟩
 intro x hx
 unfold qa9 at hx
 rcases List.mem_append.1 hx with hx | hx
 ·simp at hx
  rcases hx with rfl | rfl | rfl | rfl <;> simp [zG]
 ·have := qbm f8 x hx
  omega
theorem qmG (r : Int × Int × Int × (Int × Int) × Bool × LF) : (qa9 r).flatMap Qe = Q5 r := by
 unfold qa9 Q5
 simp [Qe, itB, zG]
theorem qjf : ∀ (l : LR), qcK l = true → ∀ r ∈ l, r.2.1 ≤ 4294967295
 | [], h, r, hr => by simp at hr
 | x :: l, h, r, hr => by
  unfold qcK at h
  split at h
  ·cases h
  ·rename_i hc
   rcases List.mem_cons.1 hr with rfl | hr
   ·simpa using hc
   ·exact qjf l h r hr
theorem qf7 {qk qz inc lo hi seq qp qW qK qb : Int} {qd : LR} (h : qbp qk qz inc lo hi seq qp qW qK qb qd = true) :
  q0 qk qz inc lo hi seq qp qW qK qb qd = true ∧ qk ≠ 9 ∧ qK = 0 ∧ qex qk qz inc lo hi seq qp qW qK qb qd ≤ 65499 ∧ qcK qd = true := by
 unfold qbp at h
 split at h
 ·cases h
 ·rename_i hc
  simp at hc
  exact ⟨hc.1, hc.2.1, hc.2.2.1, hc.2.2.2, h⟩
theorem Qa.loop (qa : Nat) (qk qz inc lo hi seq qp qW qK qb : Int) (qd : LR) (hr : ∀ r ∈ qd, qfc r = true) (hlen : qd.length ≤ 255) : ∀ (k i : Nat) (acc : LF), i ≤ qd.length → qd.length - i < k → acc.length + (qd.length - i) ≤ 300 → (∀ x ∈ acc, (0 ≤ x.1 ∧ x.1 ≤ 255) ∧ x.2.length ≤ 65535) →
  Qa.l11 qa qk qz inc lo hi seq qp qW qK qb qd k (qd.length : Int) (i : Int) acc = some (acc.flatMap Qe ++ (qd.drop i).flatMap qdR, 0) := by
 intro k
 induction k with
 | zero => intro i acc h1 h2; omega
 | succ k ih =>
  intro i acc h1 h2 h3 h4
  rw [Qa.l11]
  unfold Qa.b11
  by_cases hi' : i < qd.length
  ·rw [if_pos (by simp; omega), Qh, List.getElem?_eq_getElem hi']
   dsimp only
   have hf := hr qd[i] (List.getElem_mem hi')
   rw [List.drop_eq_getElem_cons hi', List.flatMap_cons]
   generalize qd[i] = r at hf ⊢
   have hok := ((qgT r).1 ((qf1 r).1 hf).1).1
   simp only [qkM]
   rw [if_pos hf, if_pos (qmF hok), qmG, if_pos (by simp [lim]; omega), qV ((i : Int) + 1) (by omega) (by omega)]
   have := ih (i + 1) (acc ++ [(7, Q5 r)]) (by omega) (by omega) (by simp; omega) (by
    intro x hx
    rcases List.mem_append.1 hx with hx | hx
    ·exact h4 x hx
    ·have hq := qql hok
     simp at hx
     subst hx
     exact ⟨by simp, by simp; omega⟩)
   rw [show ((i + 1 : Nat) : Int) = (i : Int) + 1 from by omega] at this
   rw [this]
   simp [qdR]
  ·rw [if_neg (by simp; omega), List.drop_of_length_le (by omega), if_pos ((qgX acc).2 ⟨by omega, h4⟩)]
   simp
theorem Qa.pure (qk qz inc lo hi seq qp qW qK qb : Int) (qd : LR) (hl : za qd = true) :
  Qa.f (qd.length + 1) qk qz inc lo hi seq qp qW qK qb qd = some ((qd1 qk qz inc lo hi seq qp qW qK qb qd).1, (qd1 qk qz inc lo hi seq qp qW qK qb qd).2) := by
 unfold Qa.f Qa.b qd1
 rw [if_pos hl]
 cases hv0 : q0 qk qz inc lo hi seq qp qW qK qb qd
 ·rfl
 rw [if_neg (by simp), if_pos hl]
 cases hf : qbp qk qz inc lo hi seq qp qW qK qb qd
 ·rfl
 obtain ⟨hv, w1, w2, w3, w4⟩ := qf7 hf
 obtain ⟨v1, v2, v3, v4, v5, v6, v7, v8, v9, v10, v11, _, v12, v13⟩ := Qj hv
 have v14 := (qag _ _).1 v7
 have hs := ((QO qd).1 hl).2
 have h4 := qjf qd w4
 have hlp := fun acc ha hb => Qa.loop (qd.length + 1) qk qz inc lo hi seq qp qW qK qb qd (fun r hr => (qf1 r).2 ⟨(qgT r).2 ⟨v13 r hr, hs r hr⟩, h4 r hr⟩) v12 (qd.length + 1) 0 acc (by omega) (by omega) ha hb
 rw [show ((0 : Nat) : Int) = 0 from rfl] at hlp
 simp only [List.drop_zero] at hlp
 have n5 : z8 2 seq = true := qbM v8 (by omega)
 have n6 : z8 2 qp = true := qbM v10 (by omega)
 rw [if_neg (by simp), qet v7, if_pos (qa8 (by omega) (by omega)), if_pos (qbM v3 (by omega)), if_pos (qmn v5 (by omega)), if_pos (qa8 (by omega) (by omega))]
 cases h5 : qv qk 0 <;> cases h6 : qv qk 1
 ·rw [if_neg (by simp), if_neg (by simp), hlp _ (by simp; omega) (by simp [zG])]
  simp [qab, itB, Qe, zG, h5, h6, List.append_assoc]
 ·rw [if_neg (by simp), if_pos rfl, if_pos n6, hlp _ (by simp; omega) (by simp [zG])]
  simp [qab, itB, Qe, zG, h5, h6, List.append_assoc]
 ·rw [if_pos rfl, if_pos n5, if_neg (by simp), hlp _ (by simp; omega) (by simp [zG])]
  simp [qab, itB, Qe, zG, h5, h6, List.append_assoc]
 ·rw [if_pos rfl, if_pos n5, if_pos rfl, if_pos n6, hlp _ (by simp; omega) (by simp [zG])]
  simp [qab, itB, Qe, zG, h5, h6, List.append_assoc]
theorem qlA : SumDet qcA := zi fun _ _ _ _ => by
 unfold qcA
 simp only
 split
 ·first | rfl | (split <;> rfl)
 ·rfl
theorem qlY : SumOk Tryz.prog 90 qcA := by
 have hE : EnvOk Tryz.prog qly := env_ok (l := [(88, qdL), (80, qaD)]) th_ok qX ⟨⟨qk9, qjC⟩, ⟨qdx, qcU⟩, trivial⟩ _
 refine sum_ok hE Tryz.func90 rfl (by kernel_rfl) qcA [.dat (.sl (.pair tQi (.sl (.int .u8)))) false] qaL.k ?_
 intro R avs ql κ r h
 unfold qcA at h
 simp only at h
 split at h
 ·rename_i rid zB rst rlo rhi zD zu
  split at h
  case isFalse => cases h
  rename_i hl
  refine ⟨0, _, _, _, (qaL.eq (0) rid zB rst rlo rhi zD zu).trans (qaL.pure rid zB rst rlo rhi zD zu hl), ?_, h⟩
  intro rs ros hk
  unfold qaL.k at hk
  split at hk
  ·first | (cases hk; exact ⟨rfl, rfl⟩) | (rw [← Option.some.inj hk]; exact ⟨rfl, rfl⟩)
  ·cases hk
 ·cases h
theorem qn2 : SumDet qft := zi fun _ _ _ _ => by
 unfold qft
 simp only
 split
 ·first | rfl | (split <;> rfl)
 ·rfl
theorem qo5 : SumOk Tryz.prog 89 qft := by
 have hE : EnvOk Tryz.prog qks := env_ok (l := []) th_ok qX trivial _
 refine sum_ok hE Tryz.func89 rfl (by kernel_rfl) qft [.dat (.sl (.int .u8)) false, .raw] zY.k ?_
 intro R avs ql κ r h
 unfold qft at h
 simp only at h
 split at h
 ·rename_i l
  split at h
  case isFalse => cases h
  rename_i hl
  refine ⟨l.length + 3, _, _, _, (zY.eq (l.length + 3) l).trans (zY.pure l hl), ?_, h⟩
  intro rs ros hk
  unfold zY.k at hk
  split at hk
  ·first | (cases hk; exact ⟨rfl, rfl⟩) | (rw [← Option.some.inj hk]; exact ⟨rfl, rfl⟩)
  ·cases hk
 ·cases h
theorem qn7 : SumDet qfx := zi fun _ _ _ _ => by
 unfold qfx
 simp only
 split
 ·first | rfl | (split <;> rfl)
 ·rfl
theorem qo9 : SumOk Tryz.prog 61 qfx := by
 have hE : EnvOk Tryz.prog qh6 := env_ok (l := [(76, Q1), (87, qcS), (88, qdL), (80, qaD), (41, qaa), (90, qcA), (89, qft)]) th_ok qX ⟨⟨qaY, qav⟩, ⟨qjQ, qiA⟩, ⟨qk9, qjC⟩, ⟨qdx, qcU⟩, ⟨qbJ, qa5⟩, ⟨qlY, qlA⟩, ⟨qo5, qn2⟩, trivial⟩ _
 refine sum_ok hE Tryz.func61 rfl (by kernel_rfl) qfx [.dat (.sl (.int .u8)) false, .raw] Qa.k ?_
 intro R avs ql κ r h
 unfold qfx at h
 simp only at h
 split at h
 ·rename_i qG qu qQ mlo mhi qR qn qJ qx qI qt
  split at h
  case isFalse => cases h
  rename_i hl
  refine ⟨qt.length + 1, _, _, _, (Qa.eq (qt.length + 1) qG qu qQ mlo mhi qR qn qJ qx qI qt).trans (Qa.pure qG qu qQ mlo mhi qR qn qJ qx qI qt hl), ?_, h⟩
  intro rs ros hk
  unfold Qa.k at hk
  split at hk
  ·first | (cases hk; exact ⟨rfl, rfl⟩) | (rw [← Option.some.inj hk]; exact ⟨rfl, rfl⟩)
  ·cases hk
 ·cases h
theorem qlp : ∀ (l : LR), (((l.flatMap qdR).length : Nat) : Int) = qbr l
 | [] => rfl
 | r :: l => by
  have h1 := qlp l
  have h2 := qph r
  rw [List.flatMap_cons, List.length_append, qbr]
  omega
theorem qk8 {qk qz inc lo hi seq qp qW qK qb : Int} {qd : LR} (hv : q0 qk qz inc lo hi seq qp qW qK qb qd = true) :
  qex qk qz inc lo hi seq qp qW qK qb qd = ((qab qk qz inc lo hi seq qp qd).length : Int) := by
 have h := qlp qd
 unfold qex qab
 rw [hv, if_neg (by simp)]
 generalize qd.flatMap qdR = L at h ⊢
 simp only [List.length_append, qkR]
 cases qv qk 0 <;> cases qv qk 1 <;> simp [qkR] <;> omega
theorem qoA (qk qz inc lo hi seq qp qW qK qb : Int) (qd : LR) : qbp qk qz inc lo hi seq qp qW qK qb qd = qkf qk qz inc lo hi seq qp qW qK qb qd := by
 unfold qbp qkf
 cases hv : q0 qk qz inc lo hi seq qp qW qK qb qd
 ·rfl
 ·rw [qk8 hv]
  generalize hn : ((qab qk qz inc lo hi seq qp qd).length : Int) = n
  by_cases he : qK = 0
  ·subst he
   obtain ⟨_, _, _, _, _, _, _, _, _, _, _, hl, _⟩ := Qj hv
   obtain ⟨rfl, rfl⟩ := qj6 hl
   by_cases h9 : qk = 9
   ·simp [h9]
   ·by_cases hs : n > 65499
    ·simp [h9, hs]
    ·simp [h9, hs]
     omega
  ·by_cases h9 : qk = 9
   ·simp [h9]
   ·simp [he, h9]
def inS (l : List Int) : Bool := inB l && decide (l.length < 1000000000)
def n7 (n : Int) : Bool := decide (1 ≤ n) && decide (n ≤ 7)
def z7 (l : LF) : Bool := decide (l.length < 1099511600) && l.all fun x => inS x.2
def qeh (x : (Int × List Int)) (n : Int) : Int × Bool := if ((x.2.length : Int) == n) = true then (QY x.2, true) else (0, false)
def zy (l : LF) (bad : Bool) (t n : Int) : Int × LF × Bool :=
 match l with
 | [] => (0, [], true)
 | x :: m => if bad || x.1 != t then (0, x :: m, true) else ((qeh x n).1, m, !(qeh x n).2)
def Zr (l : LF) (bad : Bool) (t : Int) : Int × Int × LF × Bool :=
 ((zR Qp (zy l bad t 1).1).1, (zR Qp (zy l bad t 1).1).2.1, (zy l bad t 1).2.1, (zy l bad t 1).2.2)
def Zb : Nat → List Int → Option LF
 | _, [] => some []
 | k + 1, t :: h :: w :: m => if (h * 256 + w) > (m.length : Int) then none else (Zb k (m.drop (h * 256 + w).toNat)).map fun r => (t, m.take (h * 256 + w).toNat) :: r
 | _, _ => none
def Qd (l : List Int) : LF × Int := match Zb l.length l with | some r => (r, 0) | none => ([], 2)
def qlZ : Den.Sum := ⟨[.raw, .raw], fun qH ql κ => match qH, ql with
 | [.ptr 0 0, .d (.int .i64) n], [.box [.d (.sl (.int .u8)) l, .d (.int .i64) a, .d .bool bad]] => if zq l a = true then κ [.d (.sl (.int .u8)) (zd l n a bad).1] [.box [.d (.sl (.int .u8)) l, .d (.int .i64) (zd l n a bad).2.2.1, .d .bool (zd l n a bad).2.2.2]] else none
 | _, _ => none⟩
def qcj : Den.Sum := ⟨[.raw, .raw], fun qH ql κ => match qH, ql with
 | [.ptr 0 0, .d (.int .i64) n], [.box [.d (.sl (.int .u8)) l, .d (.int .i64) a, .d .bool bad]] => if zq l a = true then (match veil (some (zd l n a bad)) with | none => none | some y => κ [.d (.sl (.int .u8)) y.1] [.box [.d (.sl (.int .u8)) l, .d (.int .i64) y.2.2.1, .d .bool y.2.2.2]]) else none
 | _, _ => none⟩
def qkx : Den.Sum := ⟨[.dat (.sl (.int .u8)) false], fun qH ql κ => match qH, ql with
 | [.d (.sl (.int .u8)) l], [] => if inS l = true then κ [.d (.sl (.pair (.int .i64) (.sl (.int .u8)))) (Qd l).1, .d (.int .i64) (Qd l).2] [] else none
 | _, _ => none⟩
def qcB : Den.Sum := ⟨[.dat (.sl (.int .u8)) false], fun qH ql κ => match qH, ql with
 | [.d (.sl (.int .u8)) l], [] => if inS l = true then (match veil (some (Qd l)) with | none => none | some y => κ [.d (.sl (.pair (.int .i64) (.sl (.int .u8)))) y.1, .d (.int .i64) y.2] []) else none
 | _, _ => none⟩
def qei : Den.Sum := ⟨[.dat (.pair tQi (.sl (.int .u8))) true, .raw], fun qH ql κ => match qH, ql with
 | [.agg [.d (.int .i64) t, .d (.sl (.int .u8)) d], .d (.int .i64) n], [] => if (inB d && n7 n) = true then κ [.d (.int .i64) (qeh (t, d) n).1, .d .bool (qeh (t, d) n).2] [] else none
 | _, _ => none⟩
def ql3 : Den.Sum := ⟨[.raw, .raw, .raw], fun qH ql κ => match qH, ql with
 | [.ptr 0 0, .d (.int .i64) t, .d (.int .i64) n], [.box [.d (.sl (.pair (.int .i64) (.sl (.int .u8)))) l, .d .bool bad]] => if (z7 l && n7 n) = true then κ [.d (.int .i64) (zy l bad t n).1] [.box [.d (.sl (.pair (.int .i64) (.sl (.int .u8)))) (zy l bad t n).2.1, .d .bool (zy l bad t n).2.2]] else none
 | _, _ => none⟩
def qbq : Den.Sum := ⟨[.raw, .raw, .raw], fun qH ql κ => match qH, ql with
 | [.ptr 0 0, .d (.int .i64) t, .d (.int .i64) n], [.box [.d (.sl (.pair (.int .i64) (.sl (.int .u8)))) l, .d .bool bad]] => if (z7 l && n7 n) = true then (match veil (some (zy l bad t n)) with | none => none | some y => κ [.d (.int .i64) y.1] [.box [.d (.sl (.pair (.int .i64) (.sl (.int .u8)))) y.2.1, .d .bool y.2.2]]) else none
 | _, _ => none⟩
def qkG : Den.Sum := ⟨[.raw, .raw], fun qH ql κ => match qH, ql with
 | [.ptr 0 0, .d (.int .i64) t], [.box [.d (.sl (.pair (.int .i64) (.sl (.int .u8)))) l, .d .bool bad]] => if z7 l = true then κ [.agg [.d (.int .i64) (Zr l bad t).1, .d (.int .i64) (Zr l bad t).2.1]] [.box [.d (.sl (.pair (.int .i64) (.sl (.int .u8)))) (Zr l bad t).2.2.1, .d .bool (Zr l bad t).2.2.2]] else none
 | _, _ => none⟩
def qcC : Den.Sum := ⟨[.raw, .raw], fun qH ql κ => match qH, ql with
 | [.ptr 0 0, .d (.int .i64) t], [.box [.d (.sl (.pair (.int .i64) (.sl (.int .u8)))) l, .d .bool bad]] => if z7 l = true then (match veil (some (Zr l bad t)) with | none => none | some y => κ [.agg [.d (.int .i64) y.1, .d (.int .i64) y.2.1]] [.box [.d (.sl (.pair (.int .i64) (.sl (.int .u8)))) y.2.2.1, .d .bool y.2.2.2]]) else none
 | _, _ => none⟩
def qnt : Env := ⟨th, gam [(73, qdN)], fun i => ⟨[], [], []⟩⟩
def qcp.k (rs : List AV) (os : List Den.Obj) : Option ((List Int) × (List Int) × Int × Bool) :=
 match rs, os with
 | [.d (.sl (.int .u8)) r0], [.box [.d (.sl (.int .u8)) r1, .d (.int .i64) r2, .d .bool r3]] => some (r0, r1, r2, r3)
 | _, _ => none
def qcp.b (n : Int) (l : List Int) (a : Int) (bad : Bool) : Option ((List Int) × (List Int) × Int × Bool) :=
 (if (zq l a) then (if (!(zd l n a bad).2.1) then some (([] : List Int), l, (zd l n a bad).2.2.1, (zd l n a bad).2.2.2) else (if (((0 : Int) ≤ ((((List.length (zd l n a bad).1)) : Nat) : Int)) ∧ ((((((List.length (zd l n a bad).1)) : Nat) : Int) ≤ ((((List.length (zd l n a bad).1)) : Nat) : Int)) ∧ (((((((List.length (zd l n a bad).1)) : Nat) : Int) * ((((1 : Nat)) : Nat) : Int)) ≤ (1099511627776 : Int)) ∧ (((((List.length (zd l n a bad).1)) : Nat) : Int) ≤ (1099511627776 : Int))))) then (if ((false = false) ∧ ((List.length (zd l n a bad).1) ≤ (List.length (List.replicate (Int.toNat ((((List.length (zd l n a bad).1)) : Nat) : Int)) (zeroI (Go.Den.Ty.int .u8)))))) then some (((zd l n a bad).1 ++ (List.drop (List.length (zd l n a bad).1) (List.replicate (Int.toNat ((((List.length (zd l n a bad).1)) : Nat) : Int)) (zeroI (Go.Den.Ty.int .u8))))), l, (zd l n a bad).2.2.1, (zd l n a bad).2.2.2) else none) else none)) else none)
def qcp.f (qa : Nat) (n : Int) (l : List Int) (a : Int) (bad : Bool) : Option ((List Int) × (List Int) × Int × Bool) := qcp.b n l a bad
theorem qcp.eq (qa : Nat) (n : Int) (l : List Int) (a : Int) (bad : Bool) : (denF qnt loopN qa Tryz.f53 [.dat (.sl (.int .u8)) false] [.ptr 0 0, .d tQi n] [.box [.d (.sl (.int .u8)) l, .d tQi a, .d .bool bad]] qcp.k) = qcp.f qa n l a bad := by
 kernel_rfl
def qkX : Env := ⟨th, gam [(51, qaC), (113, qdQ), (52, Zc), (53, qcj), (84, qaA)], fun i => if i = 3 then ⟨[4, 5], [(4, 86, (.pair tQi (.sl (.int .u8))))], []⟩ else ⟨[], [], []⟩⟩
def QH.k (rs : List AV) (os : List Den.Obj) : Option (LF × Int) :=
 match rs, os with
 | [.d (.sl (.pair (.int .i64) (.sl (.int .u8)))) r0, .d (.int .i64) r1], [] => some (r0, r1)
 | _, _ => none
def QH.s3 (l : List Int) (x0 : LF) (x1 : Int) (x2 : Bool) : St := ⟨[dD, dD, dD, dD, .row 64, .ptr 65 0, dD, dD, dD, dD, dD, dD, dD, dD, dD, dD, dD, dD, dD, dD, dD, dD, dD, dD, dD, dD, .dead], ofL [(64, .row 86 (.pair tQi (.sl (.int .u8))) x0 false), (65, .box [.d (.sl (.int .u8)) (l), .d tQi x1, .d .bool x2])], 0⟩
def QH.p3 (qa : Nat) (l : List Int) (k : Nat) := fun x0 x1 x2 => lp qkX qa Tryz.f91 [.dat (.sl (.pair tQi (.sl (.int .u8)))) false, .raw] 0 QH.k 3 [] k (QH.s3 l x0 x1 x2)
def QH.b3 (l : List Int) (A3 : LF → Int → Bool → Option (LF × Int)) (x0 : LF) (x1 : Int) (x2 : Bool) : Option (LF × Int) :=
 (if (zq l x1) then (if (decide ((ZT l x1 x2) > (0 : Int))) then (if (zq l x1) then (match (veil (Option.some (qy l (1 : Int) x1 x2))) with | none => none | some y3 => (if (zq l y3.2.1) then (match (veil (Option.some (qy l (2 : Int) y3.2.1 y3.2.2))) with | none => none | some y4 => (if (zq l y4.2.1) then (match (veil (Option.some (zd l y4.1 y4.2.1 y4.2.2))) with | none => none | some y5 => (if y5.2.2.2 then some (([] : LF), (2 : Int)) else (if ((((List.length x0) + (List.length ((y3.1, y5.1) :: ([] : LF)))) * (32 : Nat)) ≤ lim) then A3 (x0 ++ ((y3.1, y5.1) :: ([] : LF))) y5.2.2.1 y5.2.2.2 else none))) else none)) else none)) else none) else some (x0, (0 : Int))) else none)
def QH.l3 (qa : Nat) (l : List Int) : Nat → LF → Int → Bool → Option (LF × Int)
 | 0, _, _, _ => none
 | k + 1, x0, x1, x2 => QH.b3 l (QH.l3 qa l k) x0 x1 x2
def QH.b (l : List Int) (E3 : LF → Int → Bool → Option (LF × Int)) : Option (LF × Int) :=
 (if (inB l) then E3 ([] : LF) 0 false else none)
def QH.f (qa : Nat) (l : List Int) : Option (LF × Int) := QH.b l (QH.l3 qa l qa)
theorem QH.l3_eq (qa : Nat) (l : List Int) : ∀ k : Nat, QH.p3 qa l k = QH.l3 qa l k
 | 0 => by kernel_rfl
 | k + 1 => by
  refine Eq.trans (b := QH.b3 l (QH.p3 qa l k)) (by kernel_rfl) ?_
  rw [QH.l3_eq qa l k]
  kernel_rfl
theorem QH.eq (qa : Nat) (l : List Int) : (denF qkX loopN qa Tryz.f91 [.dat (.sl (.pair tQi (.sl (.int .u8)))) false, .raw] [.d (.sl (.int .u8)) l] [] QH.k) = QH.f qa l := by
 refine Eq.trans (b := QH.b l (QH.p3 qa l qa)) (by kernel_rfl) ?_
 rw [QH.l3_eq qa l qa]
 kernel_rfl
def qnr : Env := ⟨th, gam [(51, qaC), (52, qdO), (86, qcD)], fun i => ⟨[], [], []⟩⟩
def Value.k (rs : List AV) (os : List Den.Obj) : Option (Int × Bool) :=
 match rs, os with
 | [.d (.int .i64) r0, .d .bool r1], [] => some (r0, r1)
 | _, _ => none
def Value.b (t : Int) (d : List Int) (n : Int) : Option (Int × Bool) :=
 (if (inB d) then (if (zq d 0) then (if (zq d (qy d n 0 false).2.1) then (if (!((!(qy d n 0 false).2.2) && ((ZT d (qy d n 0 false).2.1 (qy d n 0 false).2.2) == (0 : Int)))) then some ((0 : Int), false) else some ((qy d n 0 false).1, true)) else none) else none) else none)
def Value.f (qa : Nat) (t : Int) (d : List Int) (n : Int) : Option (Int × Bool) := Value.b t d n
theorem Value.eq (qa : Nat) (t : Int) (d : List Int) (n : Int) : (denF qnr loopN qa Tryz.f115 [.raw, .raw] [.agg [.d tQi t, .d (.sl (.int .u8)) d], .d tQi n] [] Value.k) = Value.f qa t d n := by
 kernel_rfl
def qpR : Env := ⟨th, gam [(115, qei)], fun i => ⟨[], [], []⟩⟩
def qeb.k (rs : List AV) (os : List Den.Obj) : Option (Int × LF × Bool) :=
 match rs, os with
 | [.d (.int .i64) r0], [.box [.d (.sl (.pair (.int .i64) (.sl (.int .u8)))) r1, .d .bool r2]] => some (r0, r1, r2)
 | _, _ => none
def qeb.b (t n : Int) (l : LF) (bad : Bool) : Option (Int × LF × Bool) :=
 (if bad then some ((0 : Int), l, true) else (if (((((List.length l)) : Nat) : Int) == (0 : Int)) then some ((0 : Int), l, true) else (match (idx l (0 : Int)) with | none => none | some y0 => (if (y0.1 != t) then some ((0 : Int), l, true) else (match (idx l (0 : Int)) with | none => none | some y1 => (if ((inB y1.2) && (n7 n)) then (if (((0 : Int) ≤ (1 : Int)) ∧ ((1 : Int) ≤ ((((List.length l)) : Nat) : Int))) then some ((qeh (y1.1, y1.2) n).1, (List.drop (Int.toNat (1 : Int)) (List.take (List.length l) l)), (!(qeh (y1.1, y1.2) n).2)) else none) else none))))))
def qeb.f (qa : Nat) (t n : Int) (l : LF) (bad : Bool) : Option (Int × LF × Bool) := qeb.b t n l bad
theorem qeb.eq (qa : Nat) (t n : Int) (l : LF) (bad : Bool) : (denF qpR loopN qa Tryz.f92 [.raw] [.ptr 0 0, .d tQi t, .d tQi n] [.box [.d (.sl (.pair tQi (.sl (.int .u8)))) l, .d .bool bad]] qeb.k) = qeb.f qa t n l bad := by
 kernel_rfl
def qnA : Env := ⟨th, gam [(92, qbq), (83, qc8)], fun i => ⟨[], [], []⟩⟩
def qcw.k (rs : List AV) (os : List Den.Obj) : Option (Int × Int × LF × Bool) :=
 match rs, os with
 | [.agg [.d (.int .i64) r0, .d (.int .i64) r1]], [.box [.d (.sl (.pair (.int .i64) (.sl (.int .u8)))) r2, .d .bool r3]] => some (r0, r1, r2, r3)
 | _, _ => none
def qcw.b (t : Int) (l : LF) (bad : Bool) : Option (Int × Int × LF × Bool) :=
 (if ((z7 l) && (n7 (1 : Int))) then (match (veil (Option.some (zy l bad t (1 : Int)))) with | none => none | some y0 => (match (veil (Option.some (zR Qp y0.1))) with | none => none | some y1 => some (y1.1, y1.2.1, y0.2.1, y0.2.2))) else none)
def qcw.f (qa : Nat) (t : Int) (l : LF) (bad : Bool) : Option (Int × Int × LF × Bool) := qcw.b t l bad
theorem qcw.eq (qa : Nat) (t : Int) (l : LF) (bad : Bool) : (denF qnA loopN qa Tryz.f94 [.dat (.pair tQi tQi) true] [.ptr 0 0, .d tQi t] [.box [.d (.sl (.pair tQi (.sl (.int .u8)))) l, .d .bool bad]] qcw.k) = qcw.f qa t l bad := by
 kernel_rfl
theorem qbt (l : List Int) : inS l = true ↔ inB l = true ∧ l.length < 1000000000 := by unfold inS; simp
theorem qri (n : Int) : n7 n = true ↔ 1 ≤ n ∧ n ≤ 7 := by unfold n7; simp
theorem qaB (l : LF) : z7 l = true ↔ l.length < 1099511600 ∧ ∀ x ∈ l, inS x.2 = true := by unfold z7; simp [List.all_eq_true]
theorem qpZ (l : List Int) (n a : Int) (bad : Bool) : (zd l n a bad).1.length ≤ l.length := by
 unfold zd
 split
 ·simp
 ·split
  ·simp
  ·unfold seg; simp; omega
theorem qoR (l : List Int) (n a : Int) (bad : Bool) (h : (zd l n a bad).2.1 = false) : (zd l n a bad).1 = [] := by
 unfold zd at h ⊢
 split
 ·rfl
 ·rename_i c
  rw [if_neg c] at h
  split
  ·rfl
  ·rename_i c2
   rw [if_neg c2] at h
   cases h
theorem qcp.pure (n : Int) (l : List Int) (a : Int) (bad : Bool) (hl : zq l a = true) : qcp.f 0 n l a bad = some ((zd l n a bad).1, l, (zd l n a bad).2.2.1, (zd l n a bad).2.2.2) := by
 unfold qcp.f qcp.b
 rw [if_pos hl]
 have h1 := qpZ l n a bad
 obtain ⟨k1, k2, k3⟩ := (zI l a).1 hl
 have h2 := ((QP l).1 k1).1
 cases hs : (zd l n a bad).2.1
 ·rw [if_pos (by simp), qoR l n a bad hs]
 ·rw [if_neg (by simp), if_pos (by refine ⟨by omega, by omega, by omega, by omega⟩), if_pos (by simp)]
  simp
theorem Value.pure (t n : Int) (d : List Int) (hl : (inB d && n7 n) = true) : Value.f 0 t d n = some ((qeh (t, d) n).1, (qeh (t, d) n).2) := by
 rw [Bool.and_eq_true] at hl
 obtain ⟨hb, hn⟩ := hl
 obtain ⟨n1, n7⟩ := (qri n).1 hn
 have h0 : zq d 0 = true := (zI d 0).2 ⟨hb, by omega, by omega⟩
 have h1 := QA d n 0 false h0
 unfold Value.f Value.b
 rw [if_pos hb, if_pos h0, if_pos h1]
 have hn' : (if (decide (n < 1) || decide (n > 7)) = true then (-1 : Int) else n) = n := if_neg (by simp; omega)
 unfold qeh
 by_cases c : n ≤ (d.length : Int)
 ·have hst : zd d n 0 false = (seg d 0 n, true, 0 + n, false) := by
   unfold zd
   rw [if_neg (by simp), if_neg (by simp; omega)]
  have hr : qy d n 0 false = (QY (seg d 0 n), 0 + n, false) := by
   unfold qy
   dsimp only
   rw [hn', hst]
   rfl
  rw [hr]
  by_cases c2 : (d.length : Int) = n
  ·have hseg : seg d 0 n = d := by
    unfold seg
    rw [show (0 : Int).toNat = 0 from rfl, List.drop_zero, List.take_of_length_le (by omega)]
   rw [hseg]
   simp [ZT, c2]
  ·have c3 : ¬ ((d.length : Int) - (0 + n) = 0) := by omega
   simp [ZT, c2]
   omega
 ·have hst : zd d n 0 false = ([], false, 0, true) := by
   unfold zd
   rw [if_neg (by simp), if_pos (by simp; omega)]
  have hr : qy d n 0 false = (0, 0, true) := by
   unfold qy
   dsimp only
   rw [hn', hst]
   rfl
  rw [hr]
  have c2 : ¬ ((d.length : Int) = n) := by omega
  simp [c2]
theorem qlK {α : Type} (x : α) (m : List α) : idx (x :: m) (0 : Int) = some x := rfl
theorem qeb.pure (t n : Int) (l : LF) (bad : Bool) (hl : (z7 l && n7 n) = true) : qeb.f 0 t n l bad = some ((zy l bad t n).1, (zy l bad t n).2.1, (zy l bad t n).2.2) := by
 rw [Bool.and_eq_true] at hl
 obtain ⟨hf, hn⟩ := hl
 obtain ⟨f1, f2⟩ := (qaB l).1 hf
 unfold qeb.f qeb.b zy
 cases bad
 ·cases l with
  | nil => rfl
  | cons x m =>
   have hx : inB x.2 = true := ((qbt _).1 (f2 x (by simp))).1
   rw [if_neg (by simp), if_neg (by simp; omega), qlK]
   dsimp only
   by_cases c : x.1 = t
   ·rw [if_neg (by simpa using c), if_pos (by rw [hx, hn]; rfl), if_pos (by simp; omega), if_neg (by simp [c])]
    simp
   ·rw [if_pos (by simpa using c), if_pos (by simp [c])]
 ·rw [if_pos rfl]
  cases l <;> simp
theorem qcw.pure (t : Int) (l : LF) (bad : Bool) (hl : z7 l = true) : qcw.f 0 t l bad = some ((Zr l bad t).1, (Zr l bad t).2.1, (Zr l bad t).2.2.1, (Zr l bad t).2.2.2) := by
 unfold qcw.f qcw.b Zr
 simp only [veil_eq]
 rw [hl, if_pos (by rfl)]
theorem qjZ (l : List Int) (n a : Int) (rest : List Int) (h1 : 1 ≤ n) (h7 : n ≤ 7) (h0 : 0 ≤ a) (hd : l.drop a.toNat = rest) (ha : a ≤ (l.length : Int)) (hr : (rest.length : Int) < n) : qy l n a false = (0, a, true) := by
 have hn' : (if (decide (n < 1) || decide (n > 7)) = true then (-1 : Int) else n) = n := if_neg (by simp; omega)
 have hlen : rest.length = l.length - a.toNat := by rw [← hd]; simp
 have hst : zd l n a false = ([], false, a, true) := by
  unfold zd
  rw [if_neg (by simp), if_pos (by simp; omega)]
 unfold qy
 dsimp only
 rw [hn', hst]
 rfl
theorem be2 (h w : Int) (h0 : 0 ≤ h) (h1 : h < 256) (w0 : 0 ≤ w) (w1 : w < 256) : be 2 (h * 256 + w) = [h, w] := by
 show be 1 ((h * 256 + w) / 256) ++ [(h * 256 + w) % 256] = [h, w]
 rw [show (h * 256 + w) / 256 = h from by omega, show (h * 256 + w) % 256 = w from by omega, be1 h h0 h1]
 rfl
theorem QH.loop (qa : Nat) (l : List Int) (hl : inS l = true) : ∀ (k m : Nat) (a : Int) (acc : LF), zq l a = true → l.length - a.toNat < k → l.length - a.toNat ≤ m → acc.length ≤ a.toNat →
  QH.l3 qa l k acc a false = (match Zb m (l.drop a.toNat) with | some r => some (acc ++ r, 0) | none => some ([], 2)) := by
 obtain ⟨hb, hlen⟩ := (qbt l).1 hl
 intro k
 induction k with
 | zero => intro m a acc h1 h2; omega
 | succ k ih =>
  intro m a acc h1 h2 h3 h4
  obtain ⟨k1, k2, k3⟩ := (zI l a).1 h1
  rw [QH.l3]
  unfold QH.b3
  simp only [veil_eq]
  rw [if_pos h1]
  generalize hd : l.drop a.toNat = rest
  have hrl : rest.length = l.length - a.toNat := by rw [← hd]; simp
  have hmem : ∀ c ∈ rest, 0 ≤ c ∧ c ≤ 255 := fun c hc => ((QP l).1 hb).2 c (List.mem_of_mem_drop (hd ▸ hc))
  cases rest with
  | nil =>
   simp at hrl
   rw [if_neg (by simp [ZT]; omega)]
   cases m <;> simp [Zb]
  | cons t rest =>
   simp at hrl
   obtain ⟨m, rfl⟩ : ∃ m', m = m' + 1 := ⟨m - 1, by omega⟩
   have ht := hmem t (by simp)
   rw [if_pos (by simp [ZT]; omega), if_pos h1]
   have hr1 := qbs l 1 a t rest h1 (by omega) (by omega) ht.1 (by simp; omega) (by rw [hd, n1, be1 t ht.1 (by omega)]; rfl)
   obtain ⟨r1, r2, r3⟩ := hr1
   rw [r1]
   dsimp only
   rw [if_pos r3]
   match rest, hrl, hmem, hd, r2 with
   | [], hrl, hmem, hd, r2 =>
    rw [qjZ l 2 (a + 1) [] (by omega) (by omega) (by omega) r2 (by simp at hrl; omega) (by simp)]
    dsimp only
    rw [if_pos r3]
    simp [zd, Zb]
   | [h], hrl, hmem, hd, r2 =>
    rw [qjZ l 2 (a + 1) [h] (by omega) (by omega) (by omega) r2 (by simp at hrl; omega) (by simp)]
    dsimp only
    rw [if_pos r3]
    simp [zd, Zb]
   | h :: w :: rest, hrl, hmem, hd, r2 =>
    have hh := hmem h (by simp)
    have hw := hmem w (by simp)
    simp at hrl
    obtain ⟨q1, q2, q3⟩ := qbs l 2 (a + 1) (h * 256 + w) rest r3 (by omega) (by omega) (by omega) (by simp; omega) (by rw [r2, n2, be2 h w hh.1 (by omega) hw.1 (by omega)]; rfl)
    rw [q1]
    dsimp only
    rw [if_pos q3]
    rw [Zb]
    have e3 : a + 1 + 2 = a + 3 := by omega
    rw [e3] at q2 q3 ⊢
    by_cases c : h * 256 + w > (rest.length : Int)
    ·have hst : zd l (h * 256 + w) (a + 3) false = ([], false, a + 3, true) := by
      unfold zd
      rw [if_neg (by simp), if_pos (by simp; omega)]
     rw [hst, if_pos c]
     rfl
    ·have hst : zd l (h * 256 + w) (a + 3) false = (seg l (a + 3) (h * 256 + w), true, a + 3 + (h * 256 + w), false) := by
      unfold zd
      rw [if_neg (by simp), if_neg (by simp; omega)]
     have hseg : seg l (a + 3) (h * 256 + w) = rest.take (h * 256 + w).toNat := by
      unfold seg
      rw [List.drop_take, show (a + 3 + (h * 256 + w)).toNat = (a + 3).toNat + (h * 256 + w).toNat from by omega, Nat.add_sub_cancel_left, q2]
     have hdr : l.drop (a + 3 + (h * 256 + w)).toNat = rest.drop (h * 256 + w).toNat := by
      rw [show (a + 3 + (h * 256 + w)).toNat = (a + 3).toNat + (h * 256 + w).toNat from by omega, ← List.drop_drop, q2]
     rw [hst, if_neg c]
     dsimp only
     rw [if_neg (by simp), if_pos (by simp [lim]; omega)]
     rw [ih m (a + 3 + (h * 256 + w)) _ ((zI _ _).2 ⟨hb, by omega, by omega⟩) (by omega) (by omega) (by simp; omega), hdr, hseg]
     cases Zb m (rest.drop (h * 256 + w).toNat) <;> simp
theorem QH.pure (l : List Int) (hl : inS l = true) : QH.f (l.length + 1) l = some ((Qd l).1, (Qd l).2) := by
 obtain ⟨hb, hlen⟩ := (qbt l).1 hl
 unfold QH.f QH.b
 rw [if_pos hb, QH.loop (l.length + 1) l hl (l.length + 1) l.length 0 [] ((zI _ _).2 ⟨hb, by omega, by omega⟩) (by simp) (by simp) (by simp)]
 unfold Qd
 rw [show (0 : Int).toNat = 0 from rfl, List.drop_zero]
 cases Zb l.length l <;> rfl
theorem qla : SumOk Tryz.prog 53 qlZ := by
 have hE : EnvOk Tryz.prog qnt := env_ok (l := [(73, qdN)]) th_ok qX ⟨⟨qlb, qjD⟩, trivial⟩ _
 refine sum_ok hE Tryz.func53 rfl (by kernel_rfl) qlZ [.dat (.sl (.int .u8)) false] qcp.k ?_
 intro R avs ql κ r h
 unfold qlZ at h
 simp only at h
 split at h
 ·rename_i n l a bad
  split at h
  case isFalse => cases h
  rename_i hl
  refine ⟨0, _, _, _, (qcp.eq (0) n l a bad).trans (qcp.pure n l a bad hl), ?_, h⟩
  intro rs ros hk
  unfold qcp.k at hk
  split at hk
  ·first | (cases hk; exact ⟨rfl, rfl⟩) | (rw [← Option.some.inj hk]; exact ⟨rfl, rfl⟩)
  ·cases hk
 ·cases h
theorem qfV : SumDet qcj := zi fun _ _ _ _ => by
 unfold qcj
 simp only [veil_eq]
 split
 ·first | rfl | (split <;> rfl)
 ·rfl
theorem qgI : SumOk Tryz.prog 53 qcj := ⟨qla.1, fun avs ql κ r hr => qla.2 avs ql κ r (by
 unfold qcj at hr
 simp only [veil_eq] at hr
 split at hr
 ·exact hr
 ·cases hr)⟩
theorem qjE : SumOk Tryz.prog 91 qkx := by
 have hE : EnvOk Tryz.prog qkX := env_ok (l := [(51, qaC), (113, qdQ), (52, Zc), (53, qcj), (84, qaA)]) th_ok qX ⟨⟨qdu, qcP⟩, ⟨qld, qjJ⟩, ⟨qaZ, qax⟩, ⟨qgI, qfV⟩, ⟨qcF, qb1⟩, trivial⟩ _
 refine sum_ok hE Tryz.func91 rfl (by kernel_rfl) qkx [.dat (.sl (.pair tQi (.sl (.int .u8)))) false, .raw] QH.k ?_
 intro R avs ql κ r h
 unfold qkx at h
 simp only at h
 split at h
 ·rename_i l
  split at h
  case isFalse => cases h
  rename_i hl
  refine ⟨l.length + 1, _, _, _, (QH.eq (l.length + 1) l).trans (QH.pure l hl), ?_, h⟩
  intro rs ros hk
  unfold QH.k at hk
  split at hk
  ·first | (cases hk; exact ⟨rfl, rfl⟩) | (rw [← Option.some.inj hk]; exact ⟨rfl, rfl⟩)
  ·cases hk
 ·cases h
theorem qhF : SumDet qcB := zi fun _ _ _ _ => by
 unfold qcB
 simp only [veil_eq]
 split
 ·first | rfl | (split <;> rfl)
 ·rfl
theorem qiw : SumOk Tryz.prog 91 qcB := ⟨qjE.1, fun avs ql κ r hr => qjE.2 avs ql κ r (by
 unfold qcB at hr
 simp only [veil_eq] at hr
 split at hr
 ·exact hr
 ·cases hr)⟩
theorem qmK : SumDet qei := zi fun _ _ _ _ => by
 unfold qei
 simp only
 split
 ·first | rfl | (split <;> rfl)
 ·rfl
theorem qnO : SumOk Tryz.prog 115 qei := by
 have hE : EnvOk Tryz.prog qnr := env_ok (l := [(51, qaC), (52, qdO), (86, qcD)]) th_ok qX ⟨⟨qdu, qcP⟩, ⟨qfL, qjF⟩, ⟨qhI, qgO⟩, trivial⟩ _
 refine sum_ok hE Tryz.func115 rfl (by kernel_rfl) qei [.raw, .raw] Value.k ?_
 intro R avs ql κ r h
 unfold qei at h
 simp only at h
 split at h
 ·rename_i t d n
  split at h
  case isFalse => cases h
  rename_i hl
  refine ⟨0, _, _, _, (Value.eq (0) t d n).trans (Value.pure t n d hl), ?_, h⟩
  intro rs ros hk
  unfold Value.k at hk
  split at hk
  ·first | (cases hk; exact ⟨rfl, rfl⟩) | (rw [← Option.some.inj hk]; exact ⟨rfl, rfl⟩)
  ·cases hk
 ·cases h
theorem qle : SumOk Tryz.prog 92 ql3 := by
 have hE : EnvOk Tryz.prog qpR := env_ok (l := [(115, qei)]) th_ok qX ⟨⟨qnO, qmK⟩, trivial⟩ _
 refine sum_ok hE Tryz.func92 rfl (by kernel_rfl) ql3 [.raw] qeb.k ?_
 intro R avs ql κ r h
 unfold ql3 at h
 simp only at h
 split at h
 ·rename_i t n l bad
  split at h
  case isFalse => cases h
  rename_i hl
  refine ⟨0, _, _, _, (qeb.eq (0) t n l bad).trans (qeb.pure t n l bad hl), ?_, h⟩
  intro rs ros hk
  unfold qeb.k at hk
  split at hk
  ·first | (cases hk; exact ⟨rfl, rfl⟩) | (rw [← Option.some.inj hk]; exact ⟨rfl, rfl⟩)
  ·cases hk
 ·cases h
theorem qey : SumDet qbq := zi fun _ _ _ _ => by
 unfold qbq
 simp only [veil_eq]
 split
 ·first | rfl | (split <;> rfl)
 ·rfl
theorem qe1 : SumOk Tryz.prog 92 qbq := ⟨qle.1, fun avs ql κ r hr => qle.2 avs ql κ r (by
 unfold qbq at hr
 simp only [veil_eq] at hr
 split at hr
 ·exact hr
 ·cases hr)⟩
theorem qjM : SumOk Tryz.prog 94 qkG := by
 have hE : EnvOk Tryz.prog qnA := env_ok (l := [(92, qbq), (83, qc8)]) th_ok qX ⟨⟨qe1, qey⟩, ⟨qhG, qgJ⟩, trivial⟩ _
 refine sum_ok hE Tryz.func94 rfl (by kernel_rfl) qkG [.dat (.pair tQi tQi) true] qcw.k ?_
 intro R avs ql κ r h
 unfold qkG at h
 simp only at h
 split at h
 ·rename_i t l bad
  split at h
  case isFalse => cases h
  rename_i hl
  refine ⟨0, _, _, _, (qcw.eq (0) t l bad).trans (qcw.pure t l bad hl), ?_, h⟩
  intro rs ros hk
  unfold qcw.k at hk
  split at hk
  ·first | (cases hk; exact ⟨rfl, rfl⟩) | (rw [← Option.some.inj hk]; exact ⟨rfl, rfl⟩)
  ·cases hk
 ·cases h
theorem qhH : SumDet qcC := zi fun _ _ _ _ => by
 unfold qcC
 simp only [veil_eq]
 split
 ·first | rfl | (split <;> rfl)
 ·rfl
theorem qiz : SumOk Tryz.prog 94 qcC := ⟨qjM.1, fun avs ql κ r hr => qjM.2 avs ql κ r (by
 unfold qcC at hr
 simp only [veil_eq] at hr
 split at hr
 ·exact hr
 ·cases hr)⟩
def QX (b : List Int) : (Int × Int × Int × (Int × Int) × Bool × LF) × Bool :=
 let y := Qd b
 let y1 := zy y.1 (y.2 != 0) 1 2
 let y2 := zy y1.2.1 y1.2.2 2 4
 let y3 := zy y2.2.1 y2.2.2 3 1
 let y4 := Zr y3.2.1 y3.2.2 4
 ((y1.1, y2.1, y3.1 % 128, (y4.1, y4.2.1), decide (y3.1 ≥ 128), y4.2.2.1), !y4.2.2.2)
def Qv (qk p : Int) (l : LF) (bad : Bool) (t : Int) : Int × LF × Bool := if qv qk p then zy l bad t 2 else (0, l, bad)
def ql1 : Den.Sum := ⟨[.dat (.sl (.int .u8)) false], fun qH ql κ => match qH, ql with
 | [.d (.sl (.int .u8)) b], [] => if inS b = true then κ [.agg [.d (.int .i64) (QX b).1.1, .d (.int .i64) (QX b).1.2.1, .d (.int .i64) (QX b).1.2.2.1, .d (.int .i64) (QX b).1.2.2.2.1.1, .d (.int .i64) (QX b).1.2.2.2.1.2, .d .bool (QX b).1.2.2.2.2.1, .d (.sl (.pair (.int .i64) (.sl (.int .u8)))) (QX b).1.2.2.2.2.2], .d .bool (QX b).2] [] else none
 | _, _ => none⟩
def qe9 : Den.Sum := ⟨[.dat (.sl (.int .u8)) false], fun qH ql κ => match qH, ql with
 | [.d (.sl (.int .u8)) b], [] => if inS b = true then (match veil (some (QX b)) with | none => none | some y => κ [.agg [.d (.int .i64) y.1.1, .d (.int .i64) y.1.2.1, .d (.int .i64) y.1.2.2.1, .d (.int .i64) y.1.2.2.2.1.1, .d (.int .i64) y.1.2.2.2.1.2, .d .bool y.1.2.2.2.2.1, .d (.sl (.pair (.int .i64) (.sl (.int .u8)))) y.1.2.2.2.2.2], .d .bool y.2] []) else none
 | _, _ => none⟩
def qp4 : Den.Sum := ⟨[.raw, .raw, .raw, .raw], fun qH ql κ => match qH, ql with
 | [.d (.int .i64) p, .d (.int .i64) t, .ptr 0 0, .ptr 1 0], [.box [.d (.int .i64) qk, .d (.int .i64) qz, .d (.int .i64) inc, .d (.int .i64) lo, .d (.int .i64) hi, .d (.int .i64) seq, .d (.int .i64) qp, .d (.int .i64) qW, .d (.int .i64) qK, .d (.int .i64) qb, .nilsl], .box [.ptr 2 0], .box [.d (.sl (.pair (.int .i64) (.sl (.int .u8)))) l, .d .bool bad]] => if z7 l = true then κ [.d (.int .i64) (Qv qk p l bad t).1] [.box [.d (.int .i64) qk, .d (.int .i64) qz, .d (.int .i64) inc, .d (.int .i64) lo, .d (.int .i64) hi, .d (.int .i64) seq, .d (.int .i64) qp, .d (.int .i64) qW, .d (.int .i64) qK, .d (.int .i64) qb, .nilsl], .box [.ptr 2 0], .box [.d (.sl (.pair (.int .i64) (.sl (.int .u8)))) (Qv qk p l bad t).2.1, .d .bool (Qv qk p l bad t).2.2]] else none
 | _, _ => none⟩
def qic : Den.Sum := ⟨[.raw, .raw, .raw, .raw], fun qH ql κ => match qH, ql with
 | [.d (.int .i64) p, .d (.int .i64) t, .ptr 0 0, .ptr 1 0], [.box [.d (.int .i64) qk, .d (.int .i64) qz, .d (.int .i64) inc, .d (.int .i64) lo, .d (.int .i64) hi, .d (.int .i64) seq, .d (.int .i64) qp, .d (.int .i64) qW, .d (.int .i64) qK, .d (.int .i64) qb, .nilsl], .box [.ptr 2 0], .box [.d (.sl (.pair (.int .i64) (.sl (.int .u8)))) l, .d .bool bad]] => if z7 l = true then (match veil (some (Qv qk p l bad t)) with | none => none | some y => κ [.d (.int .i64) y.1] [.box [.d (.int .i64) qk, .d (.int .i64) qz, .d (.int .i64) inc, .d (.int .i64) lo, .d (.int .i64) hi, .d (.int .i64) seq, .d (.int .i64) qp, .d (.int .i64) qW, .d (.int .i64) qK, .d (.int .i64) qb, .nilsl], .box [.ptr 2 0], .box [.d (.sl (.pair (.int .i64) (.sl (.int .u8)))) y.2.1, .d .bool y.2.2]]) else none
 | _, _ => none⟩
def qpO : Env := ⟨th, gam [(91, qcB), (92, qbq), (94, qcC)], fun i => ⟨[], [], []⟩⟩
def qd8.k (rs : List AV) (os : List Den.Obj) : Option (Int × Int × Int × Int × Int × Bool × LF × Bool) :=
 match rs, os with
 | [.agg [.d (.int .i64) r0, .d (.int .i64) r1, .d (.int .i64) r2, .d (.int .i64) r3, .d (.int .i64) r4, .d .bool r5, .d (.sl (.pair (.int .i64) (.sl (.int .u8)))) r6], .d .bool r7], [] => some (r0, r1, r2, r3, r4, r5, r6, r7)
 | _, _ => none
def qd8.b (b : List Int) : Option (Int × Int × Int × Int × Int × Bool × LF × Bool) :=
 (if (inS b) then (match (veil (Option.some (Qd b))) with | none => none | some y0 => (if ((z7 y0.1) && (n7 (2 : Int))) then (match (veil (Option.some (zy y0.1 (y0.2 != (0 : Int)) (1 : Int) (2 : Int)))) with | none => none | some y1 => (if ((z7 y1.2.1) && (n7 (4 : Int))) then (match (veil (Option.some (zy y1.2.1 y1.2.2 (2 : Int) (4 : Int)))) with | none => none | some y2 => (if ((z7 y2.2.1) && (n7 (1 : Int))) then (match (veil (Option.some (zy y2.2.1 y2.2.2 (3 : Int) (1 : Int)))) with | none => none | some y3 => (if (z7 y3.2.1) then (match (veil (Option.some (Zr y3.2.1 y3.2.2 (4 : Int)))) with | none => none | some y4 => (if (((((List.length y4.2.2.1)) : Nat) : Int) == (0 : Int)) then some (y1.1, y2.1, (bits BinOp.andNot .i64 y3.1 (128 : Int)), y4.1, y4.2.1, (decide (y3.1 ≥ (128 : Int))), ([] : LF), (!y4.2.2.2)) else some (y1.1, y2.1, (bits BinOp.andNot .i64 y3.1 (128 : Int)), y4.1, y4.2.1, (decide (y3.1 ≥ (128 : Int))), y4.2.2.1, (!y4.2.2.2)))) else none)) else none)) else none)) else none)) else none)
def qd8.f (qa : Nat) (b : List Int) : Option (Int × Int × Int × Int × Int × Bool × LF × Bool) := qd8.b b
theorem qd8.eq (qa : Nat) (b : List Int) : (denF qpO loopN qa Tryz.f95 [.dat tQr true, .raw] [.d (.sl (.int .u8)) b] [] qd8.k) = qd8.f qa b := by
 kernel_rfl
def qro : Env := ⟨th, gam [(41, qaa), (92, qbq)], fun i => ⟨[], [], []⟩⟩
def Tk.k (rs : List AV) (os : List Den.Obj) : Option (Int × Int × Int × Int × Int × Int × Int × Int × Int × Int × Int × LF × Bool) :=
 match rs, os with
 | [.d (.int .i64) r0], [.box [.d (.int .i64) r1, .d (.int .i64) r2, .d (.int .i64) r3, .d (.int .i64) r4, .d (.int .i64) r5, .d (.int .i64) r6, .d (.int .i64) r7, .d (.int .i64) r8, .d (.int .i64) r9, .d (.int .i64) r10, .nilsl], .box [.ptr 2 0], .box [.d (.sl (.pair (.int .i64) (.sl (.int .u8)))) r11, .d .bool r12]] => some (r0, r1, r2, r3, r4, r5, r6, r7, r8, r9, r10, r11, r12)
 | _, _ => none
def Tk.b (p t qk qz inc lo hi seq qp qW qK qb : Int) (l : LF) (bad : Bool) : Option (Int × Int × Int × Int × Int × Int × Int × Int × Int × Int × Int × LF × Bool) :=
 (if (!(qv qk p)) then some ((0 : Int), qk, qz, inc, lo, hi, seq, qp, qW, qK, qb, l, bad) else (if ((z7 l) && (n7 (2 : Int))) then (match (veil (Option.some (zy l bad t (2 : Int)))) with | none => none | some y0 => some (y0.1, qk, qz, inc, lo, hi, seq, qp, qW, qK, qb, y0.2.1, y0.2.2)) else none))
def Tk.f (qa : Nat) (p t qk qz inc lo hi seq qp qW qK qb : Int) (l : LF) (bad : Bool) : Option (Int × Int × Int × Int × Int × Int × Int × Int × Int × Int × Int × LF × Bool) := Tk.b p t qk qz inc lo hi seq qp qW qK qb l bad
theorem Tk.eq (qa : Nat) (p t qk qz inc lo hi seq qp qW qK qb : Int) (l : LF) (bad : Bool) : (denF qro loopN qa Tryz.f93 [.raw] [.d tQi p, .d tQi t, .ptr 0 0, .ptr 1 0] [.box [.d tQi qk, .d tQi qz, .d tQi inc, .d tQi lo, .d tQi hi, .d tQi seq, .d tQi qp, .d tQi qW, .d tQi qK, .d tQi qb, .nilsl], .box [.ptr 2 0], .box [.d (.sl (.pair tQi (.sl (.int .u8)))) l, .d .bool bad]] Tk.k) = Tk.f qa p t qk qz inc lo hi seq qp qW qK qb l bad := by
 kernel_rfl
theorem qdI : ∀ (k : Nat) (l : List Int) (r : LF), (∀ c ∈ l, 0 ≤ c ∧ c ≤ 255) → Zb k l = some r →
  r.flatMap Qe = l ∧ 3 * r.length ≤ l.length ∧ ∀ x ∈ r, (0 ≤ x.1 ∧ x.1 ≤ 255) ∧ x.2.length ≤ 65535 ∧ x.2.length ≤ l.length ∧ ∀ c ∈ x.2, 0 ≤ c ∧ c ≤ 255
 | k, [], r, hl, h => by
  have : r = [] := by cases k <;> simp [Zb] at h <;> exact h.symm ▸ rfl
  subst this
  simp
 | 0, t :: l, r, hl, h => by simp [Zb] at h
 | k + 1, [t], r, hl, h => by simp [Zb] at h
 | k + 1, [t, a], r, hl, h => by simp [Zb] at h
 | k + 1, t :: a :: w :: m, r, hl, h => by
  rw [Zb] at h
  have ht := hl t (by simp)
  have ha := hl a (by simp)
  have hw := hl w (by simp)
  split at h
  ·cases h
  ·rename_i c
   generalize hn : (a * 256 + w).toNat = n at h
   have hnn : (n : Int) = a * 256 + w := by omega
   cases hs : Zb k (m.drop n) with
   | none => rw [hs] at h; cases h
   | some q =>
    rw [hs] at h
    simp at h
    subst h
    obtain ⟨i1, i2, i3⟩ := qdI k (m.drop n) q (fun c hc => hl c (by simp [List.mem_of_mem_drop hc])) hs
    have hlen : (m.take n).length = n := by rw [List.length_take]; omega
    refine ⟨?_, ?_, ?_⟩
    ·rw [List.flatMap_cons, i1]
     unfold Qe
     rw [hlen]
     have e1 : ((n / 256 : Nat) : Int) = a := by omega
     have e2 : ((n % 256 : Nat) : Int) = w := by omega
     simp only [e1, e2]
     simp
    ·simp at i2 ⊢; omega
    ·intro x hx
     rcases List.mem_cons.1 hx with rfl | hx
     ·refine ⟨ht, by rw [hlen]; omega, by rw [hlen]; simp; omega, fun c hc => hl c (by simp [List.mem_of_mem_take hc])⟩
     ·obtain ⟨j1, j2, j3, j4⟩ := i3 x hx
      refine ⟨j1, j2, ?_, j4⟩
      simp at j3 ⊢
      omega
theorem qdB {l : List Int} (h : inB l = true) : ∀ c ∈ l, 0 ≤ c ∧ c ≤ 255 := ((QP l).1 h).2
theorem qmh {l : List Int} (h : ∀ c ∈ l, 0 ≤ c ∧ c ≤ 255) (hl : l.length < 1000000000) : inS l = true := (qbt l).2 ⟨(QP l).2 ⟨by omega, h⟩, hl⟩
theorem qdH (b : List Int) (h : inS b = true) : z7 (Qd b).1 = true := by
 obtain ⟨hb, hl⟩ := (qbt b).1 h
 unfold Qd
 cases hs : Zb b.length b with
 | none => rfl
 | some r =>
  obtain ⟨i1, i2, i3⟩ := qdI b.length b r (qdB hb) hs
  refine (qaB _).2 ⟨by show r.length < _; omega, fun x hx => ?_⟩
  obtain ⟨j1, j2, j3, j4⟩ := i3 x hx
  exact qmh j4 (by omega)
theorem QE {l : LF} (h : z7 l = true) (bad : Bool) (t n : Int) : z7 (zy l bad t n).2.1 = true := by
 unfold zy
 cases l with
 | nil => rfl
 | cons x m =>
  dsimp only
  split
  ·exact h
  ·obtain ⟨h1, h2⟩ := (qaB _).1 h
   refine (qaB _).2 ⟨?_, fun y hy => h2 y (by simp [hy])⟩
   simp at h1
   show m.length < _
   omega
theorem qhB {l : LF} (h : z7 l = true) (bad : Bool) (t : Int) : z7 (Zr l bad t).2.2.1 = true := QE h bad t 1
theorem qk4 {l : LF} (h : z7 l = true) (bad : Bool) (t : Int) : 0 ≤ (zy l bad t 1).1 ∧ (zy l bad t 1).1 ≤ 255 := by
 unfold zy
 cases l with
 | nil => simp
 | cons x m =>
  dsimp only
  split
  ·simp
  ·unfold qeh
   split
   ·rename_i c
    have hx := ((qbt _).1 (((qaB _).1 h).2 x (by simp))).1
    have hb := qdB hx
    obtain ⟨a, v⟩ := x
    simp at c
    match v, c with
    | [c0], _ =>
     have := hb c0 (by simp)
     simp [QY]
     omega
   ·simp
theorem qpJ (v : Int) (h0 : 0 ≤ v) (h1 : v ≤ 255) : bits BinOp.andNot .i64 v 128 = v % 128 := by
 have key : ∀ i : Fin 256, bits BinOp.andNot .i64 ((i.val : Nat) : Int) 128 = ((i.val : Nat) : Int) % 128 := by decide +kernel
 have := key ⟨v.toNat, by omega⟩
 simp only [Int.toNat_of_nonneg h0] at this
 exact this
theorem qd8.pure (b : List Int) (hl : inS b = true) : qd8.f 0 b = some ((QX b).1.1, (QX b).1.2.1, (QX b).1.2.2.1, (QX b).1.2.2.2.1.1, (QX b).1.2.2.2.1.2, (QX b).1.2.2.2.2.1, (QX b).1.2.2.2.2.2, (QX b).2) := by
 unfold qd8.f qd8.b
 simp only [veil_eq]
 have h0 := qdH b hl
 have h1 := QE h0 ((Qd b).2 != 0) 1 2
 unfold QX
 dsimp only
 generalize zy (Qd b).1 ((Qd b).2 != 0) 1 2 = y1 at h1 ⊢
 have h2 := QE h1 y1.2.2 2 4
 generalize zy y1.2.1 y1.2.2 2 4 = y2 at h2 ⊢
 have h3 := QE h2 y2.2.2 3 1
 have h3b := qk4 h2 y2.2.2 3
 generalize zy y2.2.1 y2.2.2 3 1 = y3 at h3 h3b ⊢
 generalize Zr y3.2.1 y3.2.2 4 = y4
 rw [hl, h0, h1, h2, h3, qpJ _ h3b.1 h3b.2]
 have k2 : n7 2 = true := rfl
 have k4 : n7 4 = true := rfl
 have k1 : n7 1 = true := rfl
 rw [k2, k4, k1]
 simp only [Bool.and_self, if_true]
 split
 ·rename_i c
  have : y4.2.2.1 = [] := by simpa using c
  rw [this]
 ·rfl
theorem Tk.pure (p t qk qz inc lo hi seq qp qW qK qb : Int) (l : LF) (bad : Bool) (hl : z7 l = true) :
  Tk.f 0 p t qk qz inc lo hi seq qp qW qK qb l bad = some ((Qv qk p l bad t).1, qk, qz, inc, lo, hi, seq, qp, qW, qK, qb, (Qv qk p l bad t).2.1, (Qv qk p l bad t).2.2) := by
 unfold Tk.f Tk.b Qv
 simp only [veil_eq]
 have k2 : n7 2 = true := rfl
 rw [hl, k2]
 cases qv qk p <;> rfl
theorem qlc : SumOk Tryz.prog 95 ql1 := by
 have hE : EnvOk Tryz.prog qpO := env_ok (l := [(91, qcB), (92, qbq), (94, qcC)]) th_ok qX ⟨⟨qiw, qhF⟩, ⟨qe1, qey⟩, ⟨qiz, qhH⟩, trivial⟩ _
 refine sum_ok hE Tryz.func95 rfl (by kernel_rfl) ql1 [.dat tQr true, .raw] qd8.k ?_
 intro R avs ql κ r h
 unfold ql1 at h
 simp only at h
 split at h
 ·rename_i b
  split at h
  case isFalse => cases h
  rename_i hl
  refine ⟨0, _, _, _, (qd8.eq (0) b).trans (qd8.pure b hl), ?_, h⟩
  intro rs ros hk
  unfold qd8.k at hk
  split at hk
  ·first | (cases hk; exact ⟨rfl, rfl⟩) | (rw [← Option.some.inj hk]; exact ⟨rfl, rfl⟩)
  ·cases hk
 ·cases h
theorem qmP : SumDet qe9 := zi fun _ _ _ _ => by
 unfold qe9
 simp only [veil_eq]
 split
 ·first | rfl | (split <;> rfl)
 ·rfl
theorem qnY : SumOk Tryz.prog 95 qe9 := ⟨qlc.1, fun avs ql κ r hr => qlc.2 avs ql κ r (by
 unfold qe9 at hr
 simp only [veil_eq] at hr
 split at hr
 ·exact hr
 ·cases hr)⟩
theorem qnb : SumOk Tryz.prog 93 qp4 := by
 have hE : EnvOk Tryz.prog qro := env_ok (l := [(41, qaa), (92, qbq)]) th_ok qX ⟨⟨qbJ, qa5⟩, ⟨qe1, qey⟩, trivial⟩ _
 refine sum_ok hE Tryz.func93 rfl (by kernel_rfl) qp4 [.raw] Tk.k ?_
 intro R avs ql κ r h
 unfold qp4 at h
 simp only at h
 split at h
 ·rename_i p t qk qz inc lo hi seq qp qW qK qb l bad
  split at h
  case isFalse => cases h
  rename_i hl
  refine ⟨0, _, _, _, (Tk.eq (0) p t qk qz inc lo hi seq qp qW qK qb l bad).trans (Tk.pure p t qk qz inc lo hi seq qp qW qK qb l bad hl), ?_, h⟩
  intro rs ros hk
  unfold Tk.k at hk
  split at hk
  ·first | (cases hk; exact ⟨rfl, rfl⟩) | (rw [← Option.some.inj hk]; exact ⟨rfl, rfl⟩)
  ·cases hk
 ·cases h
theorem qoZ : SumDet qic := zi fun _ _ _ _ => by
 unfold qic
 simp only [veil_eq]
 split
 ·first | rfl | (split <;> rfl)
 ·rfl
theorem qp3 : SumOk Tryz.prog 93 qic := ⟨qnb.1, fun avs ql κ r hr => qnb.2 avs ql κ r (by
 unfold qic at hr
 simp only [veil_eq] at hr
 split at hr
 ·exact hr
 ·cases hr)⟩
def qcc : LF → Option LR
 | [] => some []
 | x :: m => if !(QX x.2).2 || x.1 != 7 then none else (qcc m).map fun r => (QX x.2).1 :: r
def qg6 (bad : Bool) (qk qz inc lo hi seq qp : Int) (qd : Option LR) : Int × Int × Int × Int × Int × Int × Int × LR × Int :=
 match qd with
 | none => (0, 0, 0, 0, 0, 0, 0, [], 4)
 | some r => if !bad && qbp qk qz inc lo hi seq qp 0 0 0 r then (qk, qz, inc, lo, hi, seq, qp, r, 0) else (0, 0, 0, 0, 0, 0, 0, [], 4)
def zN (b : List Int) : Int × Int × Int × Int × Int × Int × Int × LR × Int :=
 let y := Qd b
 let y1 := zy y.1 (y.2 != 0 || decide ((b.length : Int) > 65499)) 1 1
 let y2 := zy y1.2.1 y1.2.2 2 2
 let y3 := zy y2.2.1 y2.2.2 3 6
 let y4 := Zr y3.2.1 y3.2.2 4
 let y5 := Qv y1.1 0 y4.2.2.1 y4.2.2.2 5
 let y6 := Qv y1.1 1 y5.2.1 y5.2.2 6
 qg6 y6.2.2 y1.1 y2.1 y3.1 y4.1 y4.2.1 y5.1 y6.1 (qcc y6.2.1)
def ql5 : Den.Sum := ⟨[.dat (.sl (.int .u8)) false], fun qH ql κ => match qH, ql with
 | [.d (.sl (.int .u8)) b], [] => if inS b = true then κ [.agg [.d (.int .i64) (zN b).1, .d (.int .i64) (zN b).2.1, .d (.int .i64) (zN b).2.2.1, .d (.int .i64) (zN b).2.2.2.1, .d (.int .i64) (zN b).2.2.2.2.1, .d (.int .i64) (zN b).2.2.2.2.2.1, .d (.int .i64) (zN b).2.2.2.2.2.2.1, .d (.int .i64) 0, .d (.int .i64) 0, .d (.int .i64) 0, .d (.sl (.pair (.int .i64) (.pair (.int .i64) (.pair (.int .i64) (.pair (.pair (.int .i64) (.int .i64)) (.pair .bool (.sl (.pair (.int .i64) (.sl (.int .u8)))))))))) ((zN b).2.2.2.2.2.2.2.1)], .d (.int .i64) ((zN b).2.2.2.2.2.2.2.2)] [] else none
 | _, _ => none⟩
def qfb : Den.Sum := ⟨[.dat (.sl (.int .u8)) false], fun qH ql κ => match qH, ql with
 | [.d (.sl (.int .u8)) b], [] => if inS b = true then (match veil (some (zN b)) with | none => none | some y => κ [.agg [.d (.int .i64) y.1, .d (.int .i64) y.2.1, .d (.int .i64) y.2.2.1, .d (.int .i64) y.2.2.2.1, .d (.int .i64) y.2.2.2.2.1, .d (.int .i64) y.2.2.2.2.2.1, .d (.int .i64) y.2.2.2.2.2.2.1, .d (.int .i64) 0, .d (.int .i64) 0, .d (.int .i64) 0, .d (.sl (.pair (.int .i64) (.pair (.int .i64) (.pair (.int .i64) (.pair (.pair (.int .i64) (.int .i64)) (.pair .bool (.sl (.pair (.int .i64) (.sl (.int .u8)))))))))) (y.2.2.2.2.2.2.2.1)], .d (.int .i64) (y.2.2.2.2.2.2.2.2)] []) else none
 | _, _ => none⟩
def qh8 : Env := ⟨th, gam [(91, qcB), (93, qic), (95, qe9), (87, qcS), (92, qbq), (94, qcC)], fun i => if i = 11 then ⟨[2, 6, 7, 50, 51, 52], [(1458, 54, tQr)], []⟩ else ⟨[], [], []⟩⟩
def zV.k (rs : List AV) (os : List Den.Obj) : Option (Int × Int × Int × Int × Int × Int × Int × Int × Int × Int × LR × Int) :=
 match rs, os with
 | [.agg [.d (.int .i64) r0, .d (.int .i64) r1, .d (.int .i64) r2, .d (.int .i64) r3, .d (.int .i64) r4, .d (.int .i64) r5, .d (.int .i64) r6, .d (.int .i64) r7, .d (.int .i64) r8, .d (.int .i64) r9, .d (.sl (.pair (.int .i64) (.pair (.int .i64) (.pair (.int .i64) (.pair (.pair (.int .i64) (.int .i64)) (.pair .bool (.sl (.pair (.int .i64) (.sl (.int .u8)))))))))) r10], .d (.int .i64) r11], [] => some (r0, r1, r2, r3, r4, r5, r6, r7, r8, r9, r10, r11)
 | _, _ => none
def zV.s11 (b : List Int) (x7 : LF) (x8 x9 : Int) (x10 : LF) (x11 : Bool) (x12 x13 x14 x15 x16 x17 x18 : Int) (x19 : LR) : St := ⟨[.dead, .dead, .ptr 64 0, dD, dD, dD, .ptr 65 0, .ptr 67 0, dD, dD, dD, dD, dD, dD, dD, dD, dD, dD, dD, dD, dD, dD, dD, dD, dD, dD, dD, dD, dD, dD, dD, dD, dD, dD, dD, dD, dD, dD, dD, dD, dD, dD, dD, dD, dD, dD, dD, dD, dD, dD, .d (.sl (.pair tQi (.sl (.int .u8)))) x7, .d tQi x8, .d tQi x9, dD, dD, dD, dD, dD, dD, dD, dD, dD, dD, dD, dD, dD, dD, dD, dD, dD, dD, dD, dD, dD, dD, dD, dD, dD, dD, dD, dD, dD, dD, dD, dD, dD, dD, .dead], ofL [(64, .box [.d tQi (0), .d tQi (0), .d tQi (0), .d tQi (0), .d tQi (0), .d tQi (0), .d tQi (0), .d tQi (0), .d tQi (0), .d tQi (0), .nilsl]), (65, .box [.ptr 66 0]), (66, .box [.d (.sl (.pair tQi (.sl (.int .u8)))) x10, .d .bool x11]), (67, .box [.d tQi x12, .d tQi x13, .d tQi x14, .d tQi x15, .d tQi x16, .d tQi x17, .d tQi x18, .d tQi (0), .d tQi (0), .d tQi (0), .row 68]), (68, .row 54 tQr x19 false)], 0⟩
def zV.p11 (qa : Nat) (b : List Int) (k : Nat) := fun x7 x8 x9 x10 x11 x12 x13 x14 x15 x16 x17 x18 x19 => lp qh8 qa Tryz.f63 [.dat (.pair tQi (.pair tQi (.pair tQi (.pair (.pair tQi tQi) (.pair tQi (.pair tQi (.pair tQi (.pair tQi (.pair tQi (.sl tQr)))))))))) true, .raw] 0 zV.k 11 [] k (zV.s11 b x7 x8 x9 x10 x11 x12 x13 x14 x15 x16 x17 x18 x19)
def zV.b11 (b : List Int) (A11 : LF → Int → Int → LF → Bool → Int → Int → Int → Int → Int → Int → Int → LR → Option (Int × Int × Int × Int × Int × Int × Int × Int × Int × Int × LR × Int)) (x7 : LF) (x8 : Int) (x9 : Int) (x10 : LF) (x11 : Bool) (x12 : Int) (x13 : Int) (x14 : Int) (x15 : Int) (x16 : Int) (x17 : Int) (x18 : Int) (x19 : LR) : Option (Int × Int × Int × Int × Int × Int × Int × Int × Int × Int × LR × Int) :=
 (if (decide (x9 < x8)) then (match (idx x7 x9) with | none => none | some y20 => (if (inS y20.2) then (match (veil (Option.some (QX y20.2))) with | none => none | some y21 => (if (!y21.2) then some (0, 0, 0, 0, 0, 0, 0, 0, 0, 0, ([] : LR), (4 : Int)) else (if (y20.1 != (7 : Int)) then some (0, 0, 0, 0, 0, 0, 0, 0, 0, 0, ([] : LR), (4 : Int)) else (if ((((List.length x19) + (List.length ((y21.1.1, (y21.1.2.1, (y21.1.2.2.1, ((y21.1.2.2.2.1.1, y21.1.2.2.2.1.2), (y21.1.2.2.2.2.1, y21.1.2.2.2.2.2))))) :: ([] : LR)))) * (72 : Nat)) ≤ lim) then A11 x7 x8 (IntKind.wrap .i64 (x9 + (1 : Int))) x10 x11 x12 x13 x14 x15 x16 x17 x18 (x19 ++ ((y21.1.1, (y21.1.2.1, (y21.1.2.2.1, ((y21.1.2.2.2.1.1, y21.1.2.2.2.1.2), (y21.1.2.2.2.2.1, y21.1.2.2.2.2.2))))) :: ([] : LR))) else none)))) else none)) else (if x11 then some (0, 0, 0, 0, 0, 0, 0, 0, 0, 0, ([] : LR), (4 : Int)) else (if (za x19) then (if (!(qbp x12 x13 x14 x15 x16 x17 x18 0 0 0 x19)) then some (0, 0, 0, 0, 0, 0, 0, 0, 0, 0, ([] : LR), (4 : Int)) else some (x12, x13, x14, x15, x16, x17, x18, 0, 0, 0, x19, (0 : Int))) else none)))
def zV.l11 (qa : Nat) (b : List Int) : Nat → LF → Int → Int → LF → Bool → Int → Int → Int → Int → Int → Int → Int → LR → Option (Int × Int × Int × Int × Int × Int × Int × Int × Int × Int × LR × Int)
 | 0, _, _, _, _, _, _, _, _, _, _, _, _, _ => none
 | k + 1, x7, x8, x9, x10, x11, x12, x13, x14, x15, x16, x17, x18, x19 => zV.b11 b (zV.l11 qa b k) x7 x8 x9 x10 x11 x12 x13 x14 x15 x16 x17 x18 x19
def zV.b (b : List Int) (E11 : LF → Int → Int → LF → Bool → Int → Int → Int → Int → Int → Int → Int → LR → Option (Int × Int × Int × Int × Int × Int × Int × Int × Int × Int × LR × Int)) : Option (Int × Int × Int × Int × Int × Int × Int × Int × Int × Int × LR × Int) :=
 (if (inS b) then (match (veil (Option.some (Qd b))) with | none => none | some y0 => (if (y0.2 != (0 : Int)) then (if ((z7 y0.1) && (n7 (1 : Int))) then (match (veil (Option.some (zy y0.1 true (1 : Int) (1 : Int)))) with | none => none | some y1 => (if ((z7 y1.2.1) && (n7 (2 : Int))) then (match (veil (Option.some (zy y1.2.1 y1.2.2 (2 : Int) (2 : Int)))) with | none => none | some y2 => (if ((z7 y2.2.1) && (n7 (6 : Int))) then (match (veil (Option.some (zy y2.2.1 y2.2.2 (3 : Int) (6 : Int)))) with | none => none | some y3 => (if (z7 y3.2.1) then (match (veil (Option.some (Zr y3.2.1 y3.2.2 (4 : Int)))) with | none => none | some y4 => (if (z7 y4.2.2.1) then (match (veil (Option.some (Qv y1.1 (0 : Int) y4.2.2.1 y4.2.2.2 (5 : Int)))) with | none => none | some y5 => (if (z7 y5.2.1) then (match (veil (Option.some (Qv y1.1 (1 : Int) y5.2.1 y5.2.2 (6 : Int)))) with | none => none | some y6 => E11 y6.2.1 ((((List.length y6.2.1)) : Nat) : Int) (0 : Int) y6.2.1 y6.2.2 y1.1 y2.1 y3.1 y4.1 y4.2.1 y5.1 y6.1 ([] : LR)) else none)) else none)) else none)) else none)) else none)) else none) else (if ((z7 y0.1) && (n7 (1 : Int))) then (match (veil (Option.some (zy y0.1 (decide (((((List.length b)) : Nat) : Int) > (65499 : Int))) (1 : Int) (1 : Int)))) with | none => none | some y22 => (if ((z7 y22.2.1) && (n7 (2 : Int))) then (match (veil (Option.some (zy y22.2.1 y22.2.2 (2 : Int) (2 : Int)))) with | none => none | some y23 => (if ((z7 y23.2.1) && (n7 (6 : Int))) then (match (veil (Option.some (zy y23.2.1 y23.2.2 (3 : Int) (6 : Int)))) with | none => none | some y24 => (if (z7 y24.2.1) then (match (veil (Option.some (Zr y24.2.1 y24.2.2 (4 : Int)))) with | none => none | some y25 => (if (z7 y25.2.2.1) then (match (veil (Option.some (Qv y22.1 (0 : Int) y25.2.2.1 y25.2.2.2 (5 : Int)))) with | none => none | some y26 => (if (z7 y26.2.1) then (match (veil (Option.some (Qv y22.1 (1 : Int) y26.2.1 y26.2.2 (6 : Int)))) with | none => none | some y27 => E11 y27.2.1 ((((List.length y27.2.1)) : Nat) : Int) (0 : Int) y27.2.1 y27.2.2 y22.1 y23.1 y24.1 y25.1 y25.2.1 y26.1 y27.1 ([] : LR)) else none)) else none)) else none)) else none)) else none)) else none))) else none)
def zV.f (qa : Nat) (b : List Int) : Option (Int × Int × Int × Int × Int × Int × Int × Int × Int × Int × LR × Int) := zV.b b (zV.l11 qa b qa)
theorem zV.l11_eq (qa : Nat) (b : List Int) : ∀ k : Nat, zV.p11 qa b k = zV.l11 qa b k
 | 0 => by kernel_rfl
 | k + 1 => by
  refine Eq.trans (b := zV.b11 b (zV.p11 qa b k)) (by kernel_rfl) ?_
  rw [zV.l11_eq qa b k]
  kernel_rfl
theorem zV.eq (qa : Nat) (b : List Int) : (denF qh8 loopN qa Tryz.f63 [.dat (.pair tQi (.pair tQi (.pair tQi (.pair (.pair tQi tQi) (.pair tQi (.pair tQi (.pair tQi (.pair tQi (.pair tQi (.sl tQr)))))))))) true, .raw] [.d (.sl (.int .u8)) b] [] zV.k) = zV.f qa b := by
 refine Eq.trans (b := zV.b b (zV.p11 qa b qa)) (by kernel_rfl) ?_
 rw [zV.l11_eq qa b qa]
 kernel_rfl
def qrf (e : Int × Int × Int × Int × Int × Int × Int × LR × Int) : Int × Int × Int × Int × Int × Int × Int × Int × Int × Int × LR × Int :=
 (e.1, e.2.1, e.2.2.1, e.2.2.2.1, e.2.2.2.2.1, e.2.2.2.2.2.1, e.2.2.2.2.2.2.1, 0, 0, 0, e.2.2.2.2.2.2.2.1, e.2.2.2.2.2.2.2.2)
theorem qkc {l : LF} (h : z7 l = true) : zo l = true := by
 obtain ⟨h1, h2⟩ := (qaB l).1 h
 refine (Z6 l).2 ⟨by omega, fun x hx => ?_⟩
 have := ((qbt _).1 (h2 x hx)).2
 omega
theorem qlj (b : List Int) (hl : inS b = true) : z7 (QX b).1.2.2.2.2.2 = true := by
 unfold QX
 dsimp only
 exact qhB (QE (QE (QE (qdH b hl) _ _ _) _ _ _) _ _ _) _ _
theorem zV.loop (qa : Nat) (b : List Int) (fs fs' : LF) (bad : Bool) (qk qz inc lo hi seq qp : Int) (hf : z7 fs = true) : ∀ (k i : Nat) (acc : LR), i ≤ fs.length → fs.length - i < k → acc.length + (fs.length - i) < 2000000000 → (∀ r ∈ acc, zo r.2.2.2.2.2 = true) →
  zV.l11 qa b k fs (fs.length : Int) (i : Int) fs' bad qk qz inc lo hi seq qp acc = some (qrf (qg6 bad qk qz inc lo hi seq qp ((qcc (fs.drop i)).map fun r => acc ++ r))) := by
 obtain ⟨hf1, hf2⟩ := (qaB fs).1 hf
 intro k
 induction k with
 | zero => intro i acc h1 h2; omega
 | succ k ih =>
  intro i acc h1 h2 h3 h4
  rw [zV.l11]
  unfold zV.b11
  simp only [veil_eq]
  by_cases hi' : i < fs.length
  ·rw [if_pos (by simp; omega), Qh, List.getElem?_eq_getElem hi']
   dsimp only
   have hx := hf2 fs[i] (List.getElem_mem hi')
   rw [List.drop_eq_getElem_cons hi', qcc]
   generalize fs[i] = x at hx ⊢
   rw [if_pos hx]
   have hsm := qkc (qlj x.2 hx)
   cases c1 : (QX x.2).2
   ·rw [if_pos (by simp), if_pos (by simp)]
    rfl
   ·by_cases c2 : x.1 = 7
    ·rw [if_neg (by simp), if_neg (by simpa using c2), if_pos (by simp [lim]; omega), if_neg (by simp [c2]), qV ((i : Int) + 1) (by omega) (by omega)]
     simp only [qkM]
     have := ih (i + 1) (acc ++ [(QX x.2).1]) (by omega) (by omega) (by simp; omega) (by
      intro r hr
      rcases List.mem_append.1 hr with hr | hr
      ·exact h4 r hr
      ·simp at hr; subst hr; exact hsm)
     rw [show ((i + 1 : Nat) : Int) = (i : Int) + 1 from by omega] at this
     rw [this]
     cases qcc (fs.drop (i + 1)) <;> simp
    ·rw [if_neg (by simp), if_pos (by simpa using c2), if_pos (by simp [c2])]
     rfl
  ·rw [if_neg (by simp; omega), List.drop_of_length_le (by omega)]
   have hs : za acc = true := (QO acc).2 ⟨by omega, h4⟩
   cases bad
   ·rw [if_neg (by simp), hs, if_pos rfl]
    simp only [qcc, Option.map_some, List.append_nil, qg6, Bool.not_false, Bool.true_and]
    cases qbp qk qz inc lo hi seq qp 0 0 0 acc <;> rfl
   ·rfl
theorem qci {l : LF} (h : z7 l = true) (qk p : Int) (bad : Bool) (t : Int) : z7 (Qv qk p l bad t).2.1 = true := by
 unfold Qv
 split
 ·exact QE h bad t 2
 ·exact h
theorem qb2 {l : LF} (bad : Bool) (t n : Int) : (zy l bad t n).2.1.length ≤ l.length := by
 unfold zy
 cases l with
 | nil => simp
 | cons x m => dsimp only; split <;> simp
theorem qeX {l : LF} (qk p : Int) (bad : Bool) (t : Int) : (Qv qk p l bad t).2.1.length ≤ l.length := by
 unfold Qv
 split
 ·exact qb2 bad t 2
 ·simp
theorem qoT (b : List Int) (h : inS b = true) : (Qd b).1.length ≤ b.length := by
 obtain ⟨hb, hl⟩ := (qbt b).1 h
 unfold Qd
 cases hs : Zb b.length b with
 | none => simp
 | some r =>
  have := (qdI b.length b r (qdB hb) hs).2.1
  show r.length ≤ _
  omega
theorem zV.pure (b : List Int) (hl : inS b = true) : zV.f (b.length + 1) b = some (qrf (zN b)) := by
 have hbl := ((qbt b).1 hl).2
 unfold zV.f zV.b
 simp only [veil_eq]
 have h0 := qdH b hl
 have g0 := qoT b hl
 rw [hl, if_pos rfl, h0]
 have k2 : n7 2 = true := rfl
 have k6 : n7 6 = true := rfl
 have k1 : n7 1 = true := rfl
 rw [k2, k6, k1]
 unfold zN
 dsimp only
 cases hy : ((Qd b).2 != 0)
 ·rw [if_neg (by simp), Bool.false_or]
  generalize decide ((b.length : Int) > 65499) = bad0
  have h1 := QE h0 bad0 1 1
  have g1 := @qb2 (Qd b).1 bad0 1 1
  generalize zy (Qd b).1 bad0 1 1 = y1 at h1 g1 ⊢
  have h2 := QE h1 y1.2.2 2 2
  have g2 := @qb2 y1.2.1 y1.2.2 2 2
  generalize zy y1.2.1 y1.2.2 2 2 = y2 at h2 g2 ⊢
  have h3 := QE h2 y2.2.2 3 6
  have g3 := @qb2 y2.2.1 y2.2.2 3 6
  generalize zy y2.2.1 y2.2.2 3 6 = y3 at h3 g3 ⊢
  have h4 := qhB h3 y3.2.2 4
  have g4 : (Zr y3.2.1 y3.2.2 4).2.2.1.length ≤ _ := @qb2 y3.2.1 y3.2.2 4 1
  generalize Zr y3.2.1 y3.2.2 4 = y4 at h4 g4 ⊢
  have h5 := qci h4 y1.1 0 y4.2.2.2 5
  have g5 := @qeX y4.2.2.1 y1.1 0 y4.2.2.2 5
  generalize Qv y1.1 0 y4.2.2.1 y4.2.2.2 5 = y5 at h5 g5 ⊢
  have h6 := qci h5 y1.1 1 y5.2.2 6
  have g6 := @qeX y5.2.1 y1.1 1 y5.2.2 6
  generalize Qv y1.1 1 y5.2.1 y5.2.2 6 = y6 at h6 g6 ⊢
  have hlp := zV.loop (b.length + 1) b y6.2.1 y6.2.1 y6.2.2 y1.1 y2.1 y3.1 y4.1 y4.2.1 y5.1 y6.1 h6 (b.length + 1) 0 [] (by omega) (by omega) (by simp; omega) (by simp)
  rw [show ((0 : Nat) : Int) = 0 from rfl, List.drop_zero] at hlp
  simp only [Bool.and_true, if_true, h1, h2, h3, h4, h5, h6]
  rw [hlp]
  simp
 ·rw [if_pos rfl, Bool.true_or]
  have h1 := QE h0 true 1 1
  have g1 := @qb2 (Qd b).1 true 1 1
  generalize zy (Qd b).1 true 1 1 = y1 at h1 g1 ⊢
  have h2 := QE h1 y1.2.2 2 2
  have g2 := @qb2 y1.2.1 y1.2.2 2 2
  generalize zy y1.2.1 y1.2.2 2 2 = y2 at h2 g2 ⊢
  have h3 := QE h2 y2.2.2 3 6
  have g3 := @qb2 y2.2.1 y2.2.2 3 6
  generalize zy y2.2.1 y2.2.2 3 6 = y3 at h3 g3 ⊢
  have h4 := qhB h3 y3.2.2 4
  have g4 : (Zr y3.2.1 y3.2.2 4).2.2.1.length ≤ _ := @qb2 y3.2.1 y3.2.2 4 1
  generalize Zr y3.2.1 y3.2.2 4 = y4 at h4 g4 ⊢
  have h5 := qci h4 y1.1 0 y4.2.2.2 5
  have g5 := @qeX y4.2.2.1 y1.1 0 y4.2.2.2 5
  generalize Qv y1.1 0 y4.2.2.1 y4.2.2.2 5 = y5 at h5 g5 ⊢
  have h6 := qci h5 y1.1 1 y5.2.2 6
  have g6 := @qeX y5.2.1 y1.1 1 y5.2.2 6
  generalize Qv y1.1 1 y5.2.1 y5.2.2 6 = y6 at h6 g6 ⊢
  have hlp := zV.loop (b.length + 1) b y6.2.1 y6.2.1 y6.2.2 y1.1 y2.1 y3.1 y4.1 y4.2.1 y5.1 y6.1 h6 (b.length + 1) 0 [] (by omega) (by omega) (by simp; omega) (by simp)
  rw [show ((0 : Nat) : Int) = 0 from rfl, List.drop_zero] at hlp
  simp only [Bool.and_true, if_true, h1, h2, h3, h4, h5, h6]
  rw [hlp]
  simp
theorem qlf : SumOk Tryz.prog 63 ql5 := by
 have hE : EnvOk Tryz.prog qh8 := env_ok (l := [(91, qcB), (93, qic), (95, qe9), (87, qcS), (92, qbq), (94, qcC)]) th_ok qX ⟨⟨qiw, qhF⟩, ⟨qp3, qoZ⟩, ⟨qnY, qmP⟩, ⟨qjQ, qiA⟩, ⟨qe1, qey⟩, ⟨qiz, qhH⟩, trivial⟩ _
 refine sum_ok hE Tryz.func63 rfl (by kernel_rfl) ql5 [.dat (.pair tQi (.pair tQi (.pair tQi (.pair (.pair tQi tQi) (.pair tQi (.pair tQi (.pair tQi (.pair tQi (.pair tQi (.sl tQr)))))))))) true, .raw] zV.k ?_
 intro R avs ql κ r h
 unfold ql5 at h
 simp only at h
 split at h
 ·rename_i b
  split at h
  case isFalse => cases h
  rename_i hl
  refine ⟨b.length + 1, _, _, _, (zV.eq (b.length + 1) b).trans (zV.pure b hl), ?_, h⟩
  intro rs ros hk
  unfold zV.k at hk
  split at hk
  ·first | (cases hk; exact ⟨rfl, rfl⟩) | (rw [← Option.some.inj hk]; exact ⟨rfl, rfl⟩)
  ·cases hk
 ·cases h
theorem qmT : SumDet qfb := zi fun _ _ _ _ => by
 unfold qfb
 simp only [veil_eq]
 split
 ·first | rfl | (split <;> rfl)
 ·rfl
theorem qn9 : SumOk Tryz.prog 63 qfb := ⟨qlf.1, fun avs ql κ r hr => qlf.2 avs ql κ r (by
 unfold qfb at hr
 simp only [veil_eq] at hr
 split at hr
 ·exact hr
 ·cases hr)⟩
theorem qcM {l : LF} (hf : z7 l = true) (bad : Bool) (t n : Int) (n1 : 1 ≤ n) (n7 : n ≤ 7) (h : (zy l bad t n).2.2 = false) :
  bad = false ∧ l.flatMap Qe = itB t n (zy l bad t n).1 ++ (zy l bad t n).2.1.flatMap Qe := by
 unfold zy at h ⊢
 cases l with
 | nil => cases h
 | cons x m =>
  dsimp only at h ⊢
  split at h
  ·cases h
  ·rename_i c
   rw [if_neg c]
   simp at c
   unfold qeh at h ⊢
   split at h
   ·rename_i c2
    rw [if_pos c2]
    simp at c2
    refine ⟨c.1, ?_⟩
    have hx := qdB ((qbt _).1 (((qaB _).1 hf).2 x (by simp))).1
    have hb := qno x.2 hx
    rw [List.flatMap_cons]
    unfold Qe itB
    rw [show n.toNat = x.2.length from by omega, hb, c.2]
    have e1 : ((x.2.length / 256 : Nat) : Int) = 0 := by omega
    have e2 : ((x.2.length % 256 : Nat) : Int) = n := by omega
    rw [e1, e2]
    try rfl
   ·cases h
theorem qkP {c : Int} (h : okS (zR Qp c).1 (zR Qp c).2.1 = true) : (zR Qp c).1 * 16 + (zR Qp c).2.1 = c := by
 have h2 : (zR Qp c).2.2 = true := by
  unfold Qp zR zR zR zR zR zR zR at h ⊢
  split
  ·rfl
  rename_i c1
  rw [if_neg c1] at h
  split
  ·rfl
  rename_i c2
  rw [if_neg c2] at h
  split
  ·rfl
  rename_i c3
  rw [if_neg c3] at h
  split
  ·rfl
  rename_i c4
  rw [if_neg c4] at h
  split
  ·rfl
  rename_i c5
  rw [if_neg c5] at h
  split
  ·rfl
  rename_i c6
  rw [if_neg c6] at h
  cases h
 have := qlm h2
 rw [qet h] at this
 exact this
theorem qqT (b : List Int) (hl : inS b = true) (h : (QX b).2 = true) (hr : zw (QX b).1 = true) : Q5 (QX b).1 = b := by
 have f7 := (zE hr).2.2.2.2.2.2.1
 unfold QX at h f7 ⊢
 dsimp only at h f7 ⊢
 have h0 := qdH b hl
 have h1 := QE h0 ((Qd b).2 != 0) 1 2
 have t1 := qcM h0 ((Qd b).2 != 0) 1 2 (by omega) (by omega)
 generalize zy (Qd b).1 ((Qd b).2 != 0) 1 2 = y1 at *
 have h2 := QE h1 y1.2.2 2 4
 have t2 := qcM h1 y1.2.2 2 4 (by omega) (by omega)
 generalize zy y1.2.1 y1.2.2 2 4 = y2 at *
 have h3 := QE h2 y2.2.2 3 1
 have h3b := qk4 h2 y2.2.2 3
 have t3 := qcM h2 y2.2.2 3 1 (by omega) (by omega)
 generalize zy y2.2.1 y2.2.2 3 1 = y3 at *
 have t4 := qcM h3 y3.2.2 4 1 (by omega) (by omega)
 unfold Zr at h f7 ⊢
 dsimp only at h f7 ⊢
 have e4 := qkP f7
 generalize zy y3.2.1 y3.2.2 4 1 = y4 at *
 obtain ⟨q4, p4⟩ := t4 (by simpa using h)
 obtain ⟨q3, p3⟩ := t3 q4
 obtain ⟨q2, p2⟩ := t2 q3
 obtain ⟨q1, p1⟩ := t1 q2
 have hs : (Qd b).1.flatMap Qe = b := by
  unfold Qd at q1 ⊢
  cases hs : Zb b.length b with
  | none => rw [hs] at q1; simp at q1
  | some r => exact (qdI b.length b r (qdB ((qbt b).1 hl).1) hs).1
 unfold Q5 qd3
 dsimp only
 rw [e4]
 have e3 : (if decide (y3.1 ≥ 128) = true then y3.1 % 128 + 128 else y3.1 % 128) = y3.1 := by
  split
  ·rename_i c; simp at c; omega
  ·rename_i c; simp at c; omega
 rw [e3]
 conv => rhs; rw [← hs, p1, p2, p3, p4]
theorem ql7 : ∀ (fs : LF) (r : LR), z7 fs = true → qcc fs = some r → (∀ x ∈ r, zw x = true) → r.flatMap qdR = fs.flatMap Qe ∧ ∀ x ∈ r, zo x.2.2.2.2.2 = true
 | [], r, hf, h, hr => by
  simp [qcc] at h
  subst h
  exact ⟨rfl, by simp⟩
 | x :: m, r, hf, h, hr => by
  rw [qcc] at h
  obtain ⟨f1, f2⟩ := (qaB _).1 hf
  have hm : z7 m = true := (qaB _).2 ⟨by simp at f1; omega, fun y hy => f2 y (by simp [hy])⟩
  split at h
  ·cases h
  ·rename_i c
   simp at c
   cases hs : qcc m with
   | none => rw [hs] at h; cases h
   | some q =>
    rw [hs] at h
    simp at h
    subst h
    obtain ⟨i1, i2⟩ := ql7 m q hm hs (fun y hy => hr y (by simp [hy]))
    have hx := f2 x (by simp)
    have hrx := hr (QX x.2).1 (by simp)
    refine ⟨?_, ?_⟩
    ·rw [List.flatMap_cons, List.flatMap_cons, i1]
     unfold qdR
     rw [qqT x.2 hx c.1 hrx, ← c.2]
    ·intro y hy
     rcases List.mem_cons.1 hy with rfl | hy
     ·exact qkc (qlj x.2 hx)
     ·exact i2 y hy
theorem qk6 {l : LF} (hf : z7 l = true) (qk p : Int) (bad : Bool) (t : Int) (h : (Qv qk p l bad t).2.2 = false) :
  bad = false ∧ l.flatMap Qe = (if qv qk p then itB t 2 (Qv qk p l bad t).1 else []) ++ (Qv qk p l bad t).2.1.flatMap Qe := by
 unfold Qv at h ⊢
 cases hc : qv qk p
 ·rw [hc] at h
  simp at h ⊢
  exact h
 ·rw [hc] at h
  simp at h ⊢
  exact qcM hf bad t 2 (by omega) (by omega) h
theorem qrj (l : List Int) (hl : inS l = true) (h : (zN l).2.2.2.2.2.2.2.2 = 0) :
  qbp (zN l).1 (zN l).2.1 (zN l).2.2.1 (zN l).2.2.2.1 (zN l).2.2.2.2.1 (zN l).2.2.2.2.2.1 (zN l).2.2.2.2.2.2.1 0 0 0 (zN l).2.2.2.2.2.2.2.1 = true ∧
  qab (zN l).1 (zN l).2.1 (zN l).2.2.1 (zN l).2.2.2.1 (zN l).2.2.2.2.1 (zN l).2.2.2.2.2.1 (zN l).2.2.2.2.2.2.1 (zN l).2.2.2.2.2.2.2.1 = l ∧ za (zN l).2.2.2.2.2.2.2.1 = true := by
 unfold zN at h ⊢
 dsimp only at h ⊢
 have h0 := qdH l hl
 generalize hb0 : ((Qd l).2 != 0 || decide ((l.length : Int) > 65499)) = bad0 at *
 have h1 := QE h0 bad0 1 1
 have t1 := qcM h0 bad0 1 1 (by omega) (by omega)
 generalize zy (Qd l).1 bad0 1 1 = y1 at *
 have h2 := QE h1 y1.2.2 2 2
 have t2 := qcM h1 y1.2.2 2 2 (by omega) (by omega)
 generalize zy y1.2.1 y1.2.2 2 2 = y2 at *
 have h3 := QE h2 y2.2.2 3 6
 have t3 := qcM h2 y2.2.2 3 6 (by omega) (by omega)
 generalize zy y2.2.1 y2.2.2 3 6 = y3 at *
 have h4 := QE h3 y3.2.2 4 1
 have t4 := qcM h3 y3.2.2 4 1 (by omega) (by omega)
 unfold Zr at h ⊢
 dsimp only at h ⊢
 generalize zy y3.2.1 y3.2.2 4 1 = y4 at *
 have h5 := qci h4 y1.1 0 y4.2.2 5
 have t5 := qk6 h4 y1.1 0 y4.2.2 5
 generalize Qv y1.1 0 y4.2.1 y4.2.2 5 = y5 at *
 have h6 := qci h5 y1.1 1 y5.2.2 6
 have t6 := qk6 h5 y1.1 1 y5.2.2 6
 generalize Qv y1.1 1 y5.2.1 y5.2.2 6 = y6 at *
 cases hr : qcc y6.2.1 with
 | none => rw [hr] at h; simp [qg6] at h
 | some r =>
  rw [hr] at h
  unfold qg6 at h ⊢
  dsimp only at h ⊢
  split at h
  ·rename_i c
   rw [if_pos c]
   dsimp only
   simp at c
   obtain ⟨hv, w1, w2, w3, w4⟩ := qf7 c.2
   obtain ⟨v1, v2, v3, v4, v5, v6, v7, v8, v9, v10, v11, _, v12, v13⟩ := Qj hv
   obtain ⟨i1, i2⟩ := ql7 y6.2.1 r h6 hr v13
   obtain ⟨q6, p6⟩ := t6 c.1
   obtain ⟨q5, p5⟩ := t5 q6
   obtain ⟨q4, p4⟩ := t4 q5
   obtain ⟨q3, p3⟩ := t3 q4
   obtain ⟨q2, p2⟩ := t2 q3
   obtain ⟨q1, p1⟩ := t1 q2
   have hs : (Qd l).1.flatMap Qe = l := by
    rw [q1] at hb0
    unfold Qd at hb0 ⊢
    cases hs : Zb l.length l with
    | none => rw [hs] at hb0; simp at hb0
    | some r => exact (qdI l.length l r (qdB ((qbt l).1 hl).1) hs).1
   refine ⟨c.2, ?_, (QO r).2 ⟨by omega, i2⟩⟩
   unfold qab
   rw [qkP v7, i1]
   conv => rhs; rw [← hs, p1, p2, p3, p4, p5, p6]
  ·cases h
def qeF : Env := ⟨th, gam [], fun i => ⟨[], [], []⟩⟩
def zW.k (rs : List AV) (os : List Den.Obj) : Option (List Int) :=
 match rs, os with
 | [.ptr 0 0], [.box [.row 2, .d .bool false], .gone, .row 5 (.int .u8) r0 false] => some r0
 | _, _ => none
def zW.b (l b : List Int) : Option (List Int) :=
 (if ((((List.length l) + (List.length b)) * (1 : Nat)) ≤ lim) then some ((l ++ b)) else none)
def zW.f (qa : Nat) (l b : List Int) : Option (List Int) := zW.b l b
theorem zW.eq (qa : Nat) (l b : List Int) : (denF qeF loopN qa Tryz.f130 [.raw, .pb [.own (some 0) [] 0 5 (.int .u8) true, .kill 1]] [.ptr 0 0, .d (.sl (.int .u8)) b] [.box [.row 1, .d .bool false], .row 5 (.int .u8) l false] zW.k) = zW.f qa l b := by
 kernel_rfl
def QQ : Den.Sum := ⟨[.pb [.own none [] 0 5 (.int .u8) false], .dat (.sl (.int .u8)) false], fun qH ql κ => match qH, ql with
 | [.ptr 0 0, .d (.sl (.int .u8)) b], [.box [.row 1, .d .bool false], .row 5 (.int .u8) l false] => (match veil (zW.f BIG l b) with | none => none | some y => κ [.ptr 0 0] [.box [.row 2, .d .bool false], .gone, .row 5 (.int .u8) y false])
 | _, _ => none⟩
theorem qc9 : SumDet QQ := zi fun _ _ _ _ => by
 unfold QQ
 simp only [veil_eq]
 split
 ·split <;> rfl
 ·rfl
theorem qdv : SumOk Tryz.prog 130 QQ := by
 have hE : EnvOk Tryz.prog qeF := env_ok (l := []) th_ok qX trivial _
 refine sum_ok hE Tryz.func130 rfl (by kernel_rfl) QQ [.raw, .pb [.own (some 0) [] 0 5 (.int .u8) true, .kill 1]] zW.k ?_
 intro R avs ql κ r h
 unfold QQ at h
 simp only [veil_eq] at h
 split at h
 ·rename_i b l
  split at h
  ·cases h
  ·rename_i y hy
   refine ⟨BIG, _, _, _, (zW.eq BIG l b).trans hy, ?_, h⟩
   intro rs ros hk
   unfold zW.k at hk
   split at hk
   ·rw [← sj hk]; exact ⟨rfl, rfl⟩
   ·cases hk
 ·cases h
def qfT : Env := ⟨th, gam [], fun i => if i = 2 then ⟨[0, 3], [(3, 5, (.int .u8))], []⟩ else ⟨[], [], []⟩⟩
def zx.k (rs : List AV) (os : List Den.Obj) : Option (List Int) :=
 match rs, os with
 | [.row 0], [.row 5 (.int .u8) r0 false] => some r0
 | _, _ => none
def zx.s2 (v x0 : Int) (x1 : (List Int)) : St := ⟨[.d (.int .u64) x0, .dead, .dead, .row 64, dD, dD, dD, dD, dD, dD, dD, dD, dD, dD, dD, dD, dD, dD, .dead], ofL [(64, .row 5 (.int .u8) x1 false)], 0⟩
def zx.p2 (qa : Nat) (v : Int) (k : Nat) := fun x0 x1 => lp qfT qa Tryz.f131 [.own 5 (.int .u8)] 0 zx.k 2 [] k (zx.s2 v x0 x1)
def zx.b2 (v : Int) (A2 : Int → (List Int) → Option (List Int)) (x0 : Int) (x1 : (List Int)) : Option (List Int) :=
 (if (decide (x0 ≥ (128 : Int))) then (if ((((List.length x1) + (List.length ((bits BinOp.or .u8 (IntKind.wrap .u8 x0) (128 : Int)) :: ([] : List Int)))) * (1 : Nat)) ≤ lim) then A2 (Int.fdiv x0 ((2 : Int) ^ (Min.min (Int.toNat (7 : Int)) (IntKind.bits .u64)))) (x1 ++ ((bits BinOp.or .u8 (IntKind.wrap .u8 x0) (128 : Int)) :: ([] : List Int))) else none) else (if ((((List.length x1) + (List.length ((IntKind.wrap .u8 x0) :: ([] : List Int)))) * (1 : Nat)) ≤ lim) then some ((x1 ++ ((IntKind.wrap .u8 x0) :: ([] : List Int)))) else none))
def zx.l2 (qa : Nat) (v : Int) : Nat → Int → (List Int) → Option (List Int)
 | 0, _, _ => none
 | k + 1, x0, x1 => zx.b2 v (zx.l2 qa v k) x0 x1
def zx.b (v : Int) (E2 : Int → (List Int) → Option (List Int)) : Option (List Int) :=
 E2 v ([] : List Int)
def zx.f (qa : Nat) (v : Int) : Option (List Int) := zx.b v (zx.l2 qa v qa)
theorem zx.l2_eq (qa : Nat) (v : Int) : ∀ k : Nat, zx.p2 qa v k = zx.l2 qa v k
 | 0 => by kernel_rfl
 | k + 1 => by
  refine Eq.trans (b := zx.b2 v (zx.p2 qa v k)) (by kernel_rfl) ?_
  rw [zx.l2_eq qa v k]
  kernel_rfl
theorem zx.eq (qa : Nat) (v : Int) : (denF qfT loopN qa Tryz.f131 [.own 5 (.int .u8)] [.d (.int .u64) v] [] zx.k) = zx.f qa v := by
 refine Eq.trans (b := zx.b v (zx.p2 qa v qa)) (by kernel_rfl) ?_
 rw [zx.l2_eq qa v qa]
 kernel_rfl
def qau : Den.Sum := ⟨[.raw], fun qH ql κ => match qH, ql with
 | [.d (.int .u64) v], [] => (match veil (zx.f BIG v) with | none => none | some y => κ [.row 0] [.row 5 (.int .u8) y false])
 | _, _ => none⟩
theorem qfJ : SumDet qau := zi fun _ _ _ _ => by
 unfold qau
 simp only [veil_eq]
 split
 ·split <;> rfl
 ·rfl
theorem qgk : SumOk Tryz.prog 131 qau := by
 have hE : EnvOk Tryz.prog qfT := env_ok (l := []) th_ok qX trivial _
 refine sum_ok hE Tryz.func131 rfl (by kernel_rfl) qau [.own 5 (.int .u8)] zx.k ?_
 intro R avs ql κ r h
 unfold qau at h
 simp only [veil_eq] at h
 split at h
 ·rename_i v
  split at h
  ·cases h
  ·rename_i y hy
   refine ⟨BIG, _, _, _, (zx.eq BIG v).trans hy, ?_, h⟩
   intro rs ros hk
   unfold zx.k at hk
   split at hk
   ·rw [← sj hk]; exact ⟨rfl, rfl⟩
   ·cases hk
 ·cases h
def qhw : Env := ⟨th, gam [], fun i => ⟨[], [], []⟩⟩
def ZC.k (rs : List AV) (os : List Den.Obj) : Option Int :=
 match rs, os with
 | [.d (.int .u64) r0], [] => some r0
 | _, _ => none
def ZC.b (n : Int) : Option Int :=
 some ((bits BinOp.xor .u64 (IntKind.wrap .u64 ((IntKind.wrap .u64 n) * ((2 : Int) ^ (Min.min (Int.toNat (1 : Int)) (IntKind.bits .u64))))) (IntKind.wrap .u64 (Int.fdiv n ((2 : Int) ^ (Min.min (Int.toNat (63 : Int)) (IntKind.bits .i64)))))))
def ZC.f (qa : Nat) (n : Int) : Option Int := ZC.b n
theorem ZC.eq (qa : Nat) (n : Int) : (denF qhw loopN qa Tryz.f132 [.raw] [.d tQi n] [] ZC.k) = ZC.f qa n := by
 kernel_rfl
def qbc : Den.Sum := ⟨[.raw], fun qH ql κ => match qH, ql with
 | [.d (.int .i64) n], [] => (match veil (ZC.f BIG n) with | none => none | some y => κ [.d (.int .u64) y] [])
 | _, _ => none⟩
theorem qiU : SumDet qbc := zi fun _ _ _ _ => by
 unfold qbc
 simp only [veil_eq]
 split
 ·split <;> rfl
 ·rfl
theorem qjz : SumOk Tryz.prog 132 qbc := by
 have hE : EnvOk Tryz.prog qhw := env_ok (l := []) th_ok qX trivial _
 refine sum_ok hE Tryz.func132 rfl (by kernel_rfl) qbc [.raw] ZC.k ?_
 intro R avs ql κ r h
 unfold qbc at h
 simp only [veil_eq] at h
 split at h
 ·rename_i n
  split at h
  ·cases h
  ·rename_i y hy
   refine ⟨BIG, _, _, _, (ZC.eq BIG n).trans hy, ?_, h⟩
   intro rs ros hk
   unfold ZC.k at hk
   split at hk
   ·rw [← sj hk]; exact ⟨rfl, rfl⟩
   ·cases hk
 ·cases h
def qhl : Env := ⟨th, gam [], fun i => ⟨[], [], []⟩⟩
def ZN.k (rs : List AV) (os : List Den.Obj) : Option (Bool × Int) :=
 match rs, os with
 | [.d .bool r0], [.box [.d (.int .i64) r1]] => some (r0, r1)
 | _, _ => none
def ZN.b (qZ qP qs qq qr : Int) (qO : Bool) (qN : LF) (id0 : Int) : Option (Bool × Int) :=
 some ((qZ == id0), id0)
def ZN.f (qa : Nat) (qZ qP qs qq qr : Int) (qO : Bool) (qN : LF) (id0 : Int) : Option (Bool × Int) := ZN.b qZ qP qs qq qr qO qN id0
theorem ZN.eq (qa : Nat) (qZ qP qs qq qr : Int) (qO : Bool) (qN : LF) (id0 : Int) : (denF qhl loopN qa Tryz.f134 [.raw] [.agg [.d tQi qZ, .d tQi qP, .d tQi qs, .d tQi qq, .d tQi qr, .d .bool qO, .d (.sl (.pair tQi (.sl (.int .u8)))) qN], .ptr 0 0] [.box [.d tQi id0]] ZN.k) = ZN.f qa qZ qP qs qq qr qO qN id0 := by
 kernel_rfl
def Z8 : Den.Sum := ⟨[.dat tQr true, .raw], fun qH ql κ => match qH, ql with
 | [.agg [.d (.int .i64) qZ, .d (.int .i64) qP, .d (.int .i64) qs, .d (.int .i64) qq, .d (.int .i64) qr, .d .bool qO, .d (.sl (.pair (.int .i64) (.sl (.int .u8)))) qN], .ptr 0 0], [.box [.d (.int .i64) id0]] => (match veil (ZN.f BIG qZ qP qs qq qr qO qN id0) with | none => none | some y => κ [.d .bool y.1] [.box [.d (.int .i64) y.2]])
 | _, _ => none⟩
theorem qeU : SumDet Z8 := zi fun _ _ _ _ => by
 unfold Z8
 simp only [veil_eq]
 split
 ·split <;> rfl
 ·rfl
theorem qfo : SumOk Tryz.prog 134 Z8 := by
 have hE : EnvOk Tryz.prog qhl := env_ok (l := []) th_ok qX trivial _
 refine sum_ok hE Tryz.func134 rfl (by kernel_rfl) Z8 [.raw] ZN.k ?_
 intro R avs ql κ r h
 unfold Z8 at h
 simp only [veil_eq] at h
 split at h
 ·rename_i qZ qP qs qq qr qO qN id0
  split at h
  ·cases h
  ·rename_i y hy
   refine ⟨BIG, _, _, _, (ZN.eq BIG qZ qP qs qq qr qO qN id0).trans hy, ?_, h⟩
   intro rs ros hk
   unfold ZN.k at hk
   split at hk
   ·rw [← sj hk]; exact ⟨rfl, rfl⟩
   ·cases hk
 ·cases h
def qlv : Env := ⟨th, gam [], fun i => ⟨[], [], []⟩⟩
def qaK.k (rs : List AV) (os : List Den.Obj) : Option (Int × (List Int)) :=
 match rs, os with
 | [.agg [.d (.int .i64) r0, .d (.sl (.int .u8)) r1]], [] => some (r0, r1)
 | _, _ => none
def qaK.b (Zq : Int) (Qf : List Int) : Option (Int × (List Int)) :=
 (if (((0 : Int) ≤ ((((List.length Qf)) : Nat) : Int)) ∧ ((((((List.length Qf)) : Nat) : Int) ≤ ((((List.length Qf)) : Nat) : Int)) ∧ (((((((List.length Qf)) : Nat) : Int) * ((((1 : Nat)) : Nat) : Int)) ≤ (1099511627776 : Int)) ∧ (((((List.length Qf)) : Nat) : Int) ≤ (1099511627776 : Int))))) then (if ((false = false) ∧ ((List.length Qf) ≤ (List.length (List.replicate (Int.toNat ((((List.length Qf)) : Nat) : Int)) (zeroI (Go.Den.Ty.int .u8)))))) then some (Zq, (Qf ++ (List.drop (List.length Qf) (List.replicate (Int.toNat ((((List.length Qf)) : Nat) : Int)) (zeroI (Go.Den.Ty.int .u8)))))) else none) else none)
def qaK.f (qa : Nat) (Zq : Int) (Qf : List Int) : Option (Int × (List Int)) := qaK.b Zq Qf
theorem qaK.eq (qa : Nat) (Zq : Int) (Qf : List Int) : (denF qlv loopN qa Tryz.f139 [.dat (.pair tQi (.sl (.int .u8))) true] [.agg [.d tQi Zq, .d (.sl (.int .u8)) Qf]] [] qaK.k) = qaK.f qa Zq Qf := by
 kernel_rfl
def qcE : Den.Sum := ⟨[.dat (.pair tQi (.sl (.int .u8))) true], fun qH ql κ => match qH, ql with
 | [.agg [.d (.int .i64) Zq, .d (.sl (.int .u8)) Qf]], [] => (match veil (qaK.f BIG Zq Qf) with | none => none | some y => κ [.agg [.d (.int .i64) y.1, .d (.sl (.int .u8)) y.2]] [])
 | _, _ => none⟩
theorem qlI : SumDet qcE := zi fun _ _ _ _ => by
 unfold qcE
 simp only [veil_eq]
 split
 ·split <;> rfl
 ·rfl
theorem ql6 : SumOk Tryz.prog 139 qcE := by
 have hE : EnvOk Tryz.prog qlv := env_ok (l := []) th_ok qX trivial _
 refine sum_ok hE Tryz.func139 rfl (by kernel_rfl) qcE [.dat (.pair tQi (.sl (.int .u8))) true] qaK.k ?_
 intro R avs ql κ r h
 unfold qcE at h
 simp only [veil_eq] at h
 split at h
 ·rename_i Zq Qf
  split at h
  ·cases h
  ·rename_i y hy
   refine ⟨BIG, _, _, _, (qaK.eq BIG Zq Qf).trans hy, ?_, h⟩
   intro rs ros hk
   unfold qaK.k at hk
   split at hk
   ·rw [← sj hk]; exact ⟨rfl, rfl⟩
   ·cases hk
 ·cases h
def qbj : Env := ⟨th, gam [(134, Z8)], fun i => if i = 2 then ⟨[0, 1, 7, 8, 9], [], []⟩ else ⟨[], [], []⟩⟩
def qT.k (rs : List AV) (os : List Den.Obj) : Option (Int × Int) :=
 match rs, os with
 | [.d (.int .i64) r0], [.box [.d (.int .i64) r1]] => some (r0, r1)
 | _, _ => none
def qT.s2 (l : LR) (id0 x0 x1 x2 : Int) : St := ⟨[.d (.sl tQr) (l), .fn (.func 134) [] [.ptr 0 0], dD, dD, dD, dD, dD, .d (.sl tQr) (l), .d tQi x0, .d tQi x1, dD, dD, dD, dD, dD, dD, dD, dD, dD, dD, .dead], ofL [(0, .box [.d tQi x2])], 1⟩
def qT.p2 (qa : Nat) (l : LR) (id0 : Int) (k : Nat) := fun x0 x1 x2 => lp qbj qa Tryz.f116 [.raw] 1 qT.k 2 [] k (qT.s2 l id0 x0 x1 x2)
def qT.b2 (l : LR) (id0 : Int) (A2 : Int → Int → Int → Option (Int × Int)) (x0 : Int) (x1 : Int) (x2 : Int) : Option (Int × Int) :=
 (if (decide (x1 < x0)) then (match (idx l x1) with | none => none | some y3 => (match (veil (ZN.f BIG y3.1 y3.2.1 y3.2.2.1 y3.2.2.2.1.1 y3.2.2.2.1.2 y3.2.2.2.2.1 y3.2.2.2.2.2 x2)) with | none => none | some y4 => (if y4.1 then some (x1, y4.2) else A2 x0 (IntKind.wrap .i64 (x1 + (1 : Int))) y4.2))) else some (((((List.length l)) : Nat) : Int), x2))
def qT.l2 (qa : Nat) (l : LR) (id0 : Int) : Nat → Int → Int → Int → Option (Int × Int)
 | 0, _, _, _ => none
 | k + 1, x0, x1, x2 => qT.b2 l id0 (qT.l2 qa l id0 k) x0 x1 x2
def qT.b (l : LR) (id0 : Int) (E2 : Int → Int → Int → Option (Int × Int)) : Option (Int × Int) :=
 E2 ((((List.length l)) : Nat) : Int) (0 : Int) id0
def qT.f (qa : Nat) (l : LR) (id0 : Int) : Option (Int × Int) := qT.b l id0 (qT.l2 qa l id0 qa)
theorem qT.l2_eq (qa : Nat) (l : LR) (id0 : Int) : ∀ k : Nat, qT.p2 qa l id0 k = qT.l2 qa l id0 k
 | 0 => by kernel_rfl
 | k + 1 => by
  refine Eq.trans (b := qT.b2 l id0 (qT.p2 qa l id0 k)) (by kernel_rfl) ?_
  rw [qT.l2_eq qa l id0 k]
  kernel_rfl
theorem qT.eq (qa : Nat) (l : LR) (id0 : Int) : (denF qbj loopN qa Tryz.f116 [.raw] [.d (.sl tQr) l, .fn (.func 134) [] [.ptr 0 0]] [.box [.d tQi id0]] qT.k) = qT.f qa l id0 := by
 refine Eq.trans (b := qT.b l id0 (qT.p2 qa l id0 qa)) (by kernel_rfl) ?_
 rw [qT.l2_eq qa l id0 qa]
 kernel_rfl
def Q2 : Den.Sum := ⟨[.dat (.sl tQr) false, .raw], fun qH ql κ => match qH, ql with
 | [.d (.sl (.pair (.int .i64) (.pair (.int .i64) (.pair (.int .i64) (.pair (.pair (.int .i64) (.int .i64)) (.pair .bool (.sl (.pair (.int .i64) (.sl (.int .u8)))))))))) l, .fn (.func 134) [] [.ptr 0 0]], [.box [.d (.int .i64) id0]] => (match veil (qT.f BIG l id0) with | none => none | some y => κ [.d (.int .i64) y.1] [.box [.d (.int .i64) y.2]])
 | _, _ => none⟩
theorem qen : SumDet Q2 := zi fun _ _ _ _ => by
 unfold Q2
 simp only [veil_eq]
 split
 ·split <;> rfl
 ·rfl
theorem qeC : SumOk Tryz.prog 116 Q2 := by
 have hE : EnvOk Tryz.prog qbj := env_ok (l := [(134, Z8)]) th_ok qX ⟨⟨qfo, qeU⟩, trivial⟩ _
 refine sum_ok hE Tryz.func116 rfl (by kernel_rfl) Q2 [.raw] qT.k ?_
 intro R avs ql κ r h
 unfold Q2 at h
 simp only [veil_eq] at h
 split at h
 ·rename_i l id0
  split at h
  ·cases h
  ·rename_i y hy
   refine ⟨BIG, _, _, _, (qT.eq BIG l id0).trans hy, ?_, h⟩
   intro rs ros hk
   unfold qT.k at hk
   split at hk
   ·rw [← sj hk]; exact ⟨rfl, rfl⟩
   ·cases hk
 ·cases h
def Z5 : Den.Sum := ⟨[.dat (.sl tQr) false, .raw], fun qH ql κ => match qH, ql with
 | [.d (.sl (.pair (.int .i64) (.pair (.int .i64) (.pair (.int .i64) (.pair (.pair (.int .i64) (.int .i64)) (.pair .bool (.sl (.pair (.int .i64) (.sl (.int .u8)))))))))) l, .fn (.func 117) [] [.ptr 0 0]], [.box [.d (.int .i64) qe]] => qdt.run [.d (.sl (.pair (.int .i64) (.pair (.int .i64) (.pair (.int .i64) (.pair (.pair (.int .i64) (.int .i64)) (.pair .bool (.sl (.pair (.int .i64) (.sl (.int .u8)))))))))) l, .fn (.func 117) [] [.ptr 0 0]] [.box [.d (.int .i64) qe]] κ
 | [.d (.sl (.pair (.int .i64) (.pair (.int .i64) (.pair (.int .i64) (.pair (.pair (.int .i64) (.int .i64)) (.pair .bool (.sl (.pair (.int .i64) (.sl (.int .u8)))))))))) l, .fn (.func 134) [] [.ptr 0 0]], [.box [.d (.int .i64) id0]] => Q2.run [.d (.sl (.pair (.int .i64) (.pair (.int .i64) (.pair (.int .i64) (.pair (.pair (.int .i64) (.int .i64)) (.pair .bool (.sl (.pair (.int .i64) (.sl (.int .u8)))))))))) l, .fn (.func 134) [] [.ptr 0 0]] [.box [.d (.int .i64) id0]] κ
 | _, _ => none⟩
theorem qfF : SumDet Z5 := zi fun _ _ R κ => by
 unfold Z5
 simp only
 split
 ·exact qiv _ _ R κ
 ·exact qen _ _ R κ
 ·rfl
theorem qfX : SumOk Tryz.prog 116 Z5 := by
 refine ⟨qgH.1, ?_⟩
 intro R avs ql κ r h
 unfold Z5 at h
 simp only at h
 split at h
 ·exact qgH.2 _ _ κ r h
 ·exact qeC.2 _ _ κ r h
 ·cases h
def qcJ : Env := ⟨th, gam [(130, QQ), (131, qau)], fun i => if i = 2 then ⟨[2, 6, 7, 8], [], [1001]⟩ else ⟨[], [], []⟩⟩
def qi.k (rs : List AV) (os : List Den.Obj) : Option (List Int) :=
 match rs, os with
 | [], [.box [.row 2, .d .bool false], .gone, .row 5 (.int .u8) r0 false] => some r0
 | _, _ => none
def qi.s2 (l lq : List Int) (x0 x1 : Int) (x2 : (List Int)) : St := ⟨[.dead, .dead, .ptr 65 0, dD, dD, dD, .d (.sl tQi) (lq), .d tQi x0, .d tQi x1, dD, dD, dD, dD, dD, dD, dD, dD, dD, .dead], ofL [(0, .box [.row 64, .d .bool (false)]), (1, .gone), (64, .row 5 (.int .u8) x2 false), (65, .box [.ptr 0 0])], 2⟩
def qi.p2 (qa : Nat) (l lq : List Int) (k : Nat) := fun x0 x1 x2 => lp qcJ qa Tryz.f119 [.pb [.own (some 0) [] 0 5 (.int .u8) true, .kill 1]] 2 qi.k 2 [] k (qi.s2 l lq x0 x1 x2)
def qi.b2 (l lq : List Int) (A2 : Int → Int → (List Int) → Option (List Int)) (x0 : Int) (x1 : Int) (x2 : (List Int)) : Option (List Int) :=
 (if (decide (x1 < x0)) then (match (idx lq x1) with | none => none | some y3 => (match (veil (zx.f BIG (IntKind.wrap .u64 y3))) with | none => none | some y4 => (match (veil (zW.f BIG x2 y4)) with | none => none | some y5 => A2 x0 (IntKind.wrap .i64 (x1 + (1 : Int))) y5))) else some (x2))
def qi.l2 (qa : Nat) (l lq : List Int) : Nat → Int → Int → (List Int) → Option (List Int)
 | 0, _, _, _ => none
 | k + 1, x0, x1, x2 => qi.b2 l lq (qi.l2 qa l lq k) x0 x1 x2
def qi.b (l lq : List Int) (E2 : Int → Int → (List Int) → Option (List Int)) : Option (List Int) :=
 E2 ((((List.length lq)) : Nat) : Int) (0 : Int) l
def qi.f (qa : Nat) (l lq : List Int) : Option (List Int) := qi.b l lq (qi.l2 qa l lq qa)
theorem qi.l2_eq (qa : Nat) (l lq : List Int) : ∀ k : Nat, qi.p2 qa l lq k = qi.l2 qa l lq k
 | 0 => by kernel_rfl
 | k + 1 => by
  refine Eq.trans (b := qi.b2 l lq (qi.p2 qa l lq k)) (by kernel_rfl) ?_
  rw [qi.l2_eq qa l lq k]
  kernel_rfl
theorem qi.eq (qa : Nat) (l lq : List Int) : (denF qcJ loopN qa Tryz.f119 [.pb [.own (some 0) [] 0 5 (.int .u8) true, .kill 1]] [.agg [.ptr 0 0], .d (.sl tQi) lq] [.box [.row 1, .d .bool false], .row 5 (.int .u8) l false] qi.k) = qi.f qa l lq := by
 refine Eq.trans (b := qi.b l lq (qi.p2 qa l lq qa)) (by kernel_rfl) ?_
 rw [qi.l2_eq qa l lq qa]
 kernel_rfl
def QR : Den.Sum := ⟨[.pb [.own none [0] 0 5 (.int .u8) false], .dat (.sl tQi) false], fun qH ql κ => match qH, ql with
 | [.agg [.ptr 0 0], .d (.sl (.int .i64)) lq], [.box [.row 1, .d .bool false], .row 5 (.int .u8) l false] => (match veil (qi.f BIG l lq) with | none => none | some y => κ [] [.box [.row 2, .d .bool false], .gone, .row 5 (.int .u8) y false])
 | _, _ => none⟩
theorem qda : SumDet QR := zi fun _ _ _ _ => by
 unfold QR
 simp only [veil_eq]
 split
 ·split <;> rfl
 ·rfl
theorem qdw : SumOk Tryz.prog 119 QR := by
 have hE : EnvOk Tryz.prog qcJ := env_ok (l := [(130, QQ), (131, qau)]) th_ok qX ⟨⟨qdv, qc9⟩, ⟨qgk, qfJ⟩, trivial⟩ _
 refine sum_ok hE Tryz.func119 rfl (by kernel_rfl) QR [.pb [.own (some 0) [] 0 5 (.int .u8) true, .kill 1]] qi.k ?_
 intro R avs ql κ r h
 unfold QR at h
 simp only [veil_eq] at h
 split at h
 ·rename_i lq l
  split at h
  ·cases h
  ·rename_i y hy
   refine ⟨BIG, _, _, _, (qi.eq BIG l lq).trans hy, ?_, h⟩
   intro rs ros hk
   unfold qi.k at hk
   split at hk
   ·rw [← sj hk]; exact ⟨rfl, rfl⟩
   ·cases hk
 ·cases h
def qg9 : Env := ⟨th, gam [(139, qcE)], fun i => if i = 3 then ⟨[3, 6, 7, 8], [(3, 86, (.pair tQi (.sl (.int .u8))))], []⟩ else ⟨[], [], []⟩⟩
def zL.k (rs : List AV) (os : List Den.Obj) : Option LF :=
 match rs, os with
 | [.row 0], [.row 86 (.pair (.int .i64) (.sl (.int .u8))) r0 false] => some r0
 | _, _ => none
def zL.s3 (b : LF) (x0 x1 : Int) (x2 : LF) : St := ⟨[dD, dD, dD, .row 64, .dead, .dead, .d (.sl (.pair tQi (.sl (.int .u8)))) (b), .d tQi x0, .d tQi x1, dD, dD, dD, dD, dD, dD, dD, dD, dD, .dead], ofL [(64, .row 86 (.pair tQi (.sl (.int .u8))) x2 false)], 0⟩
def zL.p3 (qa : Nat) (b : LF) (k : Nat) := fun x0 x1 x2 => lp qg9 qa Tryz.f137 [.own 86 (.pair tQi (.sl (.int .u8)))] 0 zL.k 3 [] k (zL.s3 b x0 x1 x2)
def zL.b3 (b : LF) (A3 : Int → Int → LF → Option LF) (x0 x1 : Int) (x2 : LF) : Option LF :=
 (if (decide (x1 < x0)) then (match (idx b x1) with | none => none | some y3 => (match (veil (qaK.f BIG y3.1 y3.2)) with | none => none | some y4 => (if ((((List.length x2) + (List.length ((y4.1, y4.2) :: ([] : LF)))) * (32 : Nat)) ≤ lim) then A3 x0 (IntKind.wrap .i64 (x1 + (1 : Int))) (x2 ++ ((y4.1, y4.2) :: ([] : LF))) else none))) else some (x2))
def zL.l3 (qa : Nat) (b : LF) : Nat → Int → Int → LF → Option LF
 | 0, _, _, _ => none
 | k + 1, x0, x1, x2 => zL.b3 b (zL.l3 qa b k) x0 x1 x2
def zL.b (b : LF) (E3 : Int → Int → LF → Option LF) : Option LF :=
 E3 ((((List.length b)) : Nat) : Int) (0 : Int) ([] : LF)
def zL.f (qa : Nat) (b : LF) : Option LF := zL.b b (zL.l3 qa b qa)
theorem zL.l3_eq (qa : Nat) (b : LF) : ∀ k : Nat, zL.p3 qa b k = zL.l3 qa b k
 | 0 => by kernel_rfl
 | k + 1 => by
  refine Eq.trans (b := zL.b3 b (zL.p3 qa b k)) (by kernel_rfl) ?_
  rw [zL.l3_eq qa b k]
  kernel_rfl
theorem zL.eq (qa : Nat) (b : LF) : (denF qg9 loopN qa Tryz.f137 [.own 86 (.pair tQi (.sl (.int .u8)))] [.d (.sl (.pair tQi (.sl (.int .u8)))) b] [] zL.k) = zL.f qa b := by
 refine Eq.trans (b := zL.b b (zL.p3 qa b qa)) (by kernel_rfl) ?_
 rw [zL.l3_eq qa b qa]
 kernel_rfl
def qcb : Den.Sum := ⟨[.dat (.sl (.pair tQi (.sl (.int .u8)))) false], fun qH ql κ => match qH, ql with
 | [.d (.sl (.pair (.int .i64) (.sl (.int .u8)))) b], [] => (match veil (zL.f BIG b) with | none => none | some y => κ [.row 0] [.row 86 (.pair (.int .i64) (.sl (.int .u8))) y false])
 | _, _ => none⟩
theorem qkL : SumDet qcb := zi fun _ _ _ _ => by
 unfold qcb
 simp only [veil_eq]
 split
 ·split <;> rfl
 ·rfl
theorem qlJ : SumOk Tryz.prog 137 qcb := by
 have hE : EnvOk Tryz.prog qg9 := env_ok (l := [(139, qcE)]) th_ok qX ⟨⟨ql6, qlI⟩, trivial⟩ _
 refine sum_ok hE Tryz.func137 rfl (by kernel_rfl) qcb [.own 86 (.pair tQi (.sl (.int .u8)))] zL.k ?_
 intro R avs ql κ r h
 unfold qcb at h
 simp only [veil_eq] at h
 split at h
 ·rename_i b
  split at h
  ·cases h
  ·rename_i y hy
   refine ⟨BIG, _, _, _, (zL.eq BIG b).trans hy, ?_, h⟩
   intro rs ros hk
   unfold zL.k at hk
   split at hk
   ·rw [← sj hk]; exact ⟨rfl, rfl⟩
   ·cases hk
 ·cases h
def qiG : Env := ⟨th, gam [(137, qcb)], fun i => ⟨[], [], []⟩⟩
def Z0.k (rs : List AV) (os : List Den.Obj) : Option (Int × Int × Int × Int × Int × Bool × LF) :=
 match rs, os with
 | [.agg [.d (.int .i64) r0, .d (.int .i64) r1, .d (.int .i64) r2, .d (.int .i64) r3, .d (.int .i64) r4, .d .bool r5, .d (.sl (.pair (.int .i64) (.sl (.int .u8)))) r6]], [] => some (r0, r1, r2, r3, r4, r5, r6)
 | _, _ => none
def Z0.b (qZ qP qs qq qr : Int) (qO : Bool) (qN : LF) : Option (Int × Int × Int × Int × Int × Bool × LF) :=
 (match (veil (zL.f BIG qN)) with | none => none | some y0 => some (qZ, qP, qs, qq, qr, qO, y0))
def Z0.f (qa : Nat) (qZ qP qs qq qr : Int) (qO : Bool) (qN : LF) : Option (Int × Int × Int × Int × Int × Bool × LF) := Z0.b qZ qP qs qq qr qO qN
theorem Z0.eq (qa : Nat) (qZ qP qs qq qr : Int) (qO : Bool) (qN : LF) : (denF qiG loopN qa Tryz.f135 [.dat tQr true] [.agg [.d tQi qZ, .d tQi qP, .d tQi qs, .d tQi qq, .d tQi qr, .d .bool qO, .d (.sl (.pair tQi (.sl (.int .u8)))) qN]] [] Z0.k) = Z0.f qa qZ qP qs qq qr qO qN := by
 kernel_rfl
def qbH : Den.Sum := ⟨[.dat tQr true], fun qH ql κ => match qH, ql with
 | [.agg [.d (.int .i64) qZ, .d (.int .i64) qP, .d (.int .i64) qs, .d (.int .i64) qq, .d (.int .i64) qr, .d .bool qO, .d (.sl (.pair (.int .i64) (.sl (.int .u8)))) qN]], [] => (match veil (Z0.f BIG qZ qP qs qq qr qO qN) with | none => none | some y => κ [.agg [.d (.int .i64) y.1, .d (.int .i64) y.2.1, .d (.int .i64) y.2.2.1, .d (.int .i64) y.2.2.2.1, .d (.int .i64) y.2.2.2.2.1, .d .bool y.2.2.2.2.2.1, .d (.sl (.pair (.int .i64) (.sl (.int .u8)))) y.2.2.2.2.2.2]] [])
 | _, _ => none⟩
theorem qjH : SumDet qbH := zi fun _ _ _ _ => by
 unfold qbH
 simp only [veil_eq]
 split
 ·split <;> rfl
 ·rfl
theorem qkA : SumOk Tryz.prog 135 qbH := by
 have hE : EnvOk Tryz.prog qiG := env_ok (l := [(137, qcb)]) th_ok qX ⟨⟨qlJ, qkL⟩, trivial⟩ _
 refine sum_ok hE Tryz.func135 rfl (by kernel_rfl) qbH [.dat tQr true] Z0.k ?_
 intro R avs ql κ r h
 unfold qbH at h
 simp only [veil_eq] at h
 split at h
 ·rename_i qZ qP qs qq qr qO qN
  split at h
  ·cases h
  ·rename_i y hy
   refine ⟨BIG, _, _, _, (Z0.eq BIG qZ qP qs qq qr qO qN).trans hy, ?_, h⟩
   intro rs ros hk
   unfold Z0.k at hk
   split at hk
   ·rw [← sj hk]; exact ⟨rfl, rfl⟩
   ·cases hk
 ·cases h
theorem qk5 {x : Int × List Int} {m : LF} {t n : Int} (h1 : x.1 = t) (h2 : (x.2.length : Int) = n) : zy (x :: m) false t n = (QY x.2, m, false) := by
 unfold zy qeh
 simp [h1, h2]
theorem qoP {l : LF} {bad : Bool} {t n : Int} (h : (zy l bad t n).2.2 = false) : bad = false ∧ ∃ x m, l = x :: m ∧ x.1 = t ∧ (x.2.length : Int) = n ∧ zy l bad t n = (QY x.2, m, false) := by
 cases l with
 | nil => simp [zy] at h
 | cons x m =>
  unfold zy at h
  dsimp only at h
  split at h
  ·cases h
  ·rename_i c
   simp at c
   unfold qeh at h
   split at h
   ·rename_i c2
    simp at c2
    exact ⟨c.1, x, m, rfl, c.2, by omega, by rw [c.1]; exact qk5 c.2 (by omega)⟩
   ·cases h
def hit (t n : Int) : LF → Option (Int × LF)
 | [] => none
 | x :: m => if x.1 == t && ((x.2.length : Int) == n) then some (QY x.2, m) else none
def qdV (c : Bool) (t : Int) (m : LF) : Option (Int × LF) := if c then hit t 2 m else some (0, m)
theorem qqm {t n : Int} {l : LF} {v : Int} {m : LF} (h : hit t n l = some (v, m)) : ∃ x, l = x :: m ∧ v = QY x.2 ∧ x.1 = t ∧ (x.2.length : Int) = n := by
 cases l with
 | nil => simp [hit] at h
 | cons x l =>
  have h' : (if (x.1 == t && ((x.2.length : Int) == n)) = true then some (QY x.2, l) else none) = some (v, m) := h
  by_cases c : (x.1 == t && ((x.2.length : Int) == n)) = true
  ·rw [if_pos c] at h'
   simp at c
   cases h'
   exact ⟨x, rfl, rfl, c.1, c.2⟩
  ·rw [if_neg c] at h'
   cases h'
theorem QF {t n : Int} {l : LF} {v : Int} {m : LF} (h : hit t n l = some (v, m)) : zy l false t n = (v, m, false) := by
 obtain ⟨x, rfl, rfl, h1, h2⟩ := qqm h
 exact qk5 h1 h2
theorem qbv (l : LF) (t n : Int) : (zy l true t n).2.2 = true := by
 unfold zy
 cases l <;> simp
theorem qaX {t n : Int} {l : LF} (h : hit t n l = none) : (zy l false t n).2.2 = true := by
 cases hb : (zy l false t n).2.2 with
 | true => rfl
 | false =>
  obtain ⟨_, x, m, rfl, h1, h2, _⟩ := qoP hb
  simp [hit, h1, h2] at h
theorem qcN (k p : Int) (l : LF) (t : Int) : (Qv k p l true t).2.2 = true := by
 unfold Qv
 split
 ·exact qbv l t 2
 ·rfl
theorem qhg {k p t : Int} {l : LF} {v : Int} {m : LF} (h : qdV (qv k p) t l = some (v, m)) : Qv k p l false t = (v, m, false) := by
 unfold Qv
 unfold qdV at h
 split
 ·rename_i c; rw [if_pos c] at h; exact QF h
 ·rename_i c; rw [if_neg c] at h; cases h; rfl
theorem qir {k p t : Int} {l : LF} (h : qdV (qv k p) t l = none) : (Qv k p l false t).2.2 = true := by
 unfold Qv
 unfold qdV at h
 split
 ·rename_i c; rw [if_pos c] at h; exact qaX h
 ·rename_i c; rw [if_neg c] at h; cases h
def qme (b : List Int) : Option (Int × Int × Int × Int × Int × Int × LF) :=
 if (Qd b).2 != 0 || decide ((b.length : Int) > 65499) then none else
 match hit 1 1 (Qd b).1 with
 | none => none
 | some (K, m1) => match hit 2 2 m1 with
  | none => none
  | some (f, m2) => match hit 3 6 m2 with
   | none => none
   | some (i, m3) => match hit 4 1 m3 with
    | none => none
    | some (c, m4) => match qdV (qv K 0) 5 m4 with
     | none => none
     | some (s, m5) => match qdV (qv K 1) 6 m5 with
      | none => none
      | some (t, m6) => some (K, f, i, c, s, t, m6)
theorem qds (k f i lo hi s t : Int) (r : Option LR) : qg6 true k f i lo hi s t r = (0, 0, 0, 0, 0, 0, 0, [], 4) := by
 cases r <;> rfl
theorem qnl (b : List Int) : zN b = match qme b with
  | none => (0, 0, 0, 0, 0, 0, 0, [], 4)
  | some (K, f, i, c, s, t, m) => qg6 false K f i (zR Qp c).1 (zR Qp c).2.1 s t (qcc m) := by
 unfold zN qme
 dsimp only
 unfold Zr
 dsimp only
 cases hb : ((Qd b).2 != 0 || decide ((b.length : Int) > 65499))
 ·simp only [Bool.false_eq_true, if_false]
  cases h1 : hit 1 1 (Qd b).1 with
  | none =>
   dsimp only
   rw [qaX h1]
   simp only [qbv, qcN, qds]
  | some p1 =>
   obtain ⟨K, m1⟩ := p1
   dsimp only
   rw [QF h1]
   dsimp only
   cases h2 : hit 2 2 m1 with
   | none =>
    dsimp only
    rw [qaX h2]
    simp only [qbv, qcN, qds]
   | some p2 =>
    obtain ⟨f, m2⟩ := p2
    dsimp only
    rw [QF h2]
    dsimp only
    cases h3 : hit 3 6 m2 with
    | none =>
     dsimp only
     rw [qaX h3]
     simp only [qbv, qcN, qds]
    | some p3 =>
     obtain ⟨i, m3⟩ := p3
     dsimp only
     rw [QF h3]
     dsimp only
     cases h4 : hit 4 1 m3 with
     | none =>
      dsimp only
      rw [qaX h4]
      simp only [qcN, qds]
     | some p4 =>
      obtain ⟨c, m4⟩ := p4
      dsimp only
      rw [QF h4]
      dsimp only
      cases h5 : qdV (qv K 0) 5 m4 with
      | none =>
       dsimp only
       rw [qir h5]
       simp only [qcN, qds]
      | some p5 =>
       obtain ⟨s, m5⟩ := p5
       dsimp only
       rw [qhg h5]
       dsimp only
       cases h6 : qdV (qv K 1) 6 m5 with
       | none =>
        dsimp only
        rw [qir h6]
        simp only [qds]
       | some p6 =>
        obtain ⟨t, m6⟩ := p6
        dsimp only
        rw [qhg h6]
 ·simp only [qbv, qcN, qds]
  rfl
theorem qgW (c : Int) (h0 : 0 ≤ c) (h1 : c ≤ 255) : (okS (c / 16) (c % 16) = true → zR Qp c = (c / 16, c % 16, true)) ∧ (okS (c / 16) (c % 16) = false → okS (zR Qp c).1 (zR Qp c).2.1 = false) := by
 constructor
 ·intro h
  simp [okS] at h
  have : c = 17 ∨ c = 18 ∨ c = 19 ∨ c = 34 ∨ c = 35 ∨ c = 51 := by omega
  rcases this with rfl | rfl | rfl | rfl | rfl | rfl <;> decide +kernel
 ·intro h
  cases hk : okS (zR Qp c).1 (zR Qp c).2.1 with
  | false => rfl
  | true =>
   have he := qkP hk
   have hk2 := hk
   simp [okS] at hk2
   rw [show c / 16 = (zR Qp c).1 from by omega, show c % 16 = (zR Qp c).2.1 from by omega, hk] at h
   cases h
theorem qqU (b : List Int) : QX b = match (if (Qd b).2 != 0 then none else match hit 1 2 (Qd b).1 with
  | none => none
  | some (a1, m1) => match hit 2 4 m1 with
   | none => none
   | some (a2, m2) => match hit 3 1 m2 with
    | none => none
    | some (a3, m3) => match hit 4 1 m3 with
     | none => none
     | some (a4, m4) => some (a1, a2, a3, a4, m4)) with
  | none => ((QX b).1, false)
  | some (a1, a2, a3, a4, m) => ((a1, a2, a3 % 128, ((zR Qp a4).1, (zR Qp a4).2.1), decide (a3 ≥ 128), m), true) := by
 have key : ∀ r, (QX b).2 = false → r = ((QX b).1, false) → QX b = r := fun r h1 h2 => by rw [h2, ← h1]
 cases hb : ((Qd b).2 != 0)
 ·simp only [Bool.false_eq_true, if_false]
  cases h1 : hit 1 2 (Qd b).1 with
  | none =>
   refine key _ ?_ rfl
   unfold QX Zr
   dsimp only
   rw [hb, qaX h1]
   simp only [qbv, Bool.not_true]
  | some p1 =>
   obtain ⟨a1, m1⟩ := p1
   dsimp only
   cases h2 : hit 2 4 m1 with
   | none =>
    refine key _ ?_ rfl
    unfold QX Zr
    dsimp only
    rw [hb, QF h1]
    dsimp only
    rw [qaX h2]
    simp only [qbv, Bool.not_true]
   | some p2 =>
    obtain ⟨a2, m2⟩ := p2
    dsimp only
    cases h3 : hit 3 1 m2 with
    | none =>
     refine key _ ?_ rfl
     unfold QX Zr
     dsimp only
     rw [hb, QF h1]
     dsimp only
     rw [QF h2]
     dsimp only
     rw [qaX h3]
     simp only [qbv, Bool.not_true]
    | some p3 =>
     obtain ⟨a3, m3⟩ := p3
     dsimp only
     cases h4 : hit 4 1 m3 with
     | none =>
      refine key _ ?_ rfl
      unfold QX Zr
      dsimp only
      rw [hb, QF h1]
      dsimp only
      rw [QF h2]
      dsimp only
      rw [QF h3]
      dsimp only
      rw [qaX h4, Bool.not_true]
     | some p4 =>
      obtain ⟨a4, m4⟩ := p4
      dsimp only
      unfold QX Zr
      dsimp only
      rw [hb, QF h1]
      dsimp only
      rw [QF h2]
      dsimp only
      rw [QF h3]
      dsimp only
      rw [QF h4]
      rfl
 ·refine key _ ?_ rfl
  unfold QX Zr
  dsimp only
  rw [hb]
  simp only [qbv, Bool.not_true]
theorem qpF (b : List Int) (h : (zN b).2.2.2.2.2.2.2.2 ≠ 0) : zN b = (0, 0, 0, 0, 0, 0, 0, [], 4) := by
 rw [qnl] at h ⊢
 cases hP : qme b with
 | none => rfl
 | some p =>
  obtain ⟨K, f, i, c, s, t, m⟩ := p
  rw [hP] at h
  dsimp only at h ⊢
  unfold qg6 at h ⊢
  cases hr : qcc m with
  | none => rfl
  | some r =>
   rw [hr] at h
   dsimp only at h ⊢
   split
   ·rename_i c; rw [if_pos c] at h; exact absurd rfl h
   ·rfl
theorem qis : ∀ (items : LF) (k : Nat), items.length ≤ k → Zb k (items.flatMap Qe) = some items
 | [], k, _ => by cases k <;> rfl
 | x :: items, 0, h => by simp at h
 | x :: items, k + 1, h => by
  have ih := qis items k (by simp at h; omega)
  have e : (x :: items).flatMap Qe = x.1 :: ((x.2.length / 256 : Nat) : Int) :: ((x.2.length % 256 : Nat) : Int) :: (x.2 ++ items.flatMap Qe) := by
   rw [List.flatMap_cons]; rfl
  rw [e, Zb]
  have e2 : ((x.2.length / 256 : Nat) : Int) * 256 + ((x.2.length % 256 : Nat) : Int) = (x.2.length : Int) := by omega
  rw [e2, if_neg (by simp; omega)]
  rw [show (x.2.length : Int).toNat = x.2.length from rfl, List.drop_left, List.take_left, ih]
  rfl
theorem qqr (items : LF) : items.length ≤ (items.flatMap Qe).length := by
 induction items with
 | nil => simp
 | cons x l ih => rw [List.flatMap_cons, List.length_append, qg5, List.length_cons]; omega
theorem qhA (items : LF) : Qd (items.flatMap Qe) = (items, 0) := by
 unfold Qd
 rw [qis items _ (qqr items)]
theorem qaF {t n v : Int} (n1 : 1 ≤ n) (n7 : n ≤ 7) : itB t n v = Qe (t, be n.toNat v) := by
 unfold itB Qe
 dsimp only
 rw [zG]
 have e1 : ((n.toNat / 256 : Nat) : Int) = 0 := by omega
 have e2 : ((n.toNat % 256 : Nat) : Int) = n := by omega
 rw [e1, e2]
theorem qdd {t n v : Int} {m : LF} (n1 : 1 ≤ n) (h0 : 0 ≤ v) (h1 : v < 256 ^ n.toNat) : hit t n ((t, be n.toNat v) :: m) = some (v, m) := by
 rw [hit, if_pos (by simp [zG]; omega)]
 dsimp only
 rw [qkQ _ _ h0 h1]
theorem qhO (r : Int × Int × Int × (Int × Int) × Bool × LF) : Q5 r = (qa9 r).flatMap Qe := by
 unfold Q5 qa9
 rw [List.flatMap_append, qaF (by omega) (by omega), qaF (by omega) (by omega), qaF (by omega) (by omega), qaF (by omega) (by omega)]
 simp [List.flatMap_cons]
theorem qpg {r : Int × Int × Int × (Int × Int) × Bool × LF} (h : zw r = true) (hi : r.2.1 ≤ 4294967295) : QX (Q5 r) = (r, true) := by
 obtain ⟨id, inc, st, ⟨lo, hi'⟩, cut, bag⟩ := r
 obtain ⟨f1, f2, f3, f4, f5, f6, f7, f8⟩ := zE h
 dsimp only at f1 f2 f3 f4 f5 f6 f7 hi
 have hs := (qag _ _).1 f7
 have e := qqU (Q5 (id, inc, st, (lo, hi'), cut, bag))
 rw [qhO, qhA] at e
 have hc : 0 ≤ qd3 (id, inc, st, (lo, hi'), cut, bag) ∧ qd3 (id, inc, st, (lo, hi'), cut, bag) < 256 := by
  unfold qd3
  dsimp only
  split <;> omega
 have w : qa9 (id, inc, st, (lo, hi'), cut, bag) = (1, be (2 : Int).toNat id) :: (2, be (4 : Int).toNat inc) :: (3, be (1 : Int).toNat (qd3 (id, inc, st, (lo, hi'), cut, bag))) :: (4, be (1 : Int).toNat (lo * 16 + hi')) :: bag := rfl
 rw [← qhO, w] at e
 dsimp only at e
 rw [qdd (by omega) (by omega) (by simp; omega)] at e
 dsimp only at e
 rw [qdd (by omega) (by omega) (by simp; omega)] at e
 dsimp only at e
 rw [qdd (by omega) hc.1 (by simpa using hc.2)] at e
 dsimp only at e
 rw [qdd (by omega) (by omega) (by simp; omega)] at e
 rw [if_neg (by simp)] at e
 dsimp only at e
 rw [e]
 have o := (qgW (lo * 16 + hi') (by omega) (by omega)).1 (by rw [show (lo * 16 + hi') / 16 = lo from by omega, show (lo * 16 + hi') % 16 = hi' from by omega]; exact f7)
 rw [o, show (lo * 16 + hi') / 16 = lo from by omega, show (lo * 16 + hi') % 16 = hi' from by omega]
 dsimp only
 have s1 : qd3 (id, inc, st, (lo, hi'), cut, bag) % 128 = st := by
  unfold qd3
  dsimp only
  split <;> omega
 have s2 : decide (qd3 (id, inc, st, (lo, hi'), cut, bag) ≥ 128) = cut := by
  unfold qd3
  dsimp only
  cases cut
  ·simp; omega
  ·simp; omega
 rw [s1, s2]
theorem qjU : ∀ r : LR, (∀ x ∈ r, zw x = true ∧ x.2.1 ≤ 4294967295) → qcc (r.map fun x => ((7 : Int), Q5 x)) = some r
 | [], _ => rfl
 | x :: r, h => by
  obtain ⟨h1, h2⟩ := h x (by simp)
  rw [List.map_cons, qcc, qjU r fun y hy => h y (by simp [hy])]
  dsimp only
  rw [qpg h1 h2]
  rfl
theorem qjr {qk qz inc lo hi seq qp qW qK qb : Int} {qd : LR} (h : q0 qk qz inc lo hi seq qp qW qK qb qd = true) :
  (qv qk 0 = false → seq = 0) ∧ (qv qk 1 = false → qp = 0) := by
 unfold q0 at h
 have h1 : ((ofF qk).1.toList == (⟨#[]⟩ : ByteArray).toList || (decide (qz < 0) || (decide (qz > 4095) || (decide (inc < 0) || (decide (inc > 281474976710655) || !okS lo hi))))) = false := by
  cases hc : ((ofF qk).1.toList == (⟨#[]⟩ : ByteArray).toList || (decide (qz < 0) || (decide (qz > 4095) || (decide (inc < 0) || (decide (inc > 281474976710655) || !okS lo hi))))) with
  | false => rfl
  | true => rw [hc] at h; cases h
 rw [h1] at h
 have h2 : (!zU (qv qk 0) seq 0 65535 || (!zU (qv qk 1) qp (if qk == 3 then 1 else 0) (if qk == 3 then 3 else 4095) || !qah qk qW qK qb)) = false := by
  cases hc : (!zU (qv qk 0) seq 0 65535 || (!zU (qv qk 1) qp (if qk == 3 then 1 else 0) (if qk == 3 then 3 else 4095) || !qah qk qW qK qb)) with
  | false => rfl
  | true => rw [hc] at h; cases h
 simp only [Bool.or_eq_false_iff, Bool.not_eq_false'] at h2
 obtain ⟨c1, c2, c3⟩ := h2
 constructor
 ·intro h0
  rw [h0] at c1
  simpa [zU] using c1
 ·intro h0
  rw [h0] at c2
  simpa [zU] using c2
def qj9 (qk qz inc lo hi seq qp : Int) (qd : LR) : LF :=
 (1, be (1 : Int).toNat qk) :: (2, be (2 : Int).toNat qz) :: (3, be (6 : Int).toNat inc) :: (4, be (1 : Int).toNat (lo * 16 + hi)) :: ((if qv qk 0 then [((5 : Int), be (2 : Int).toNat seq)] else []) ++ ((if qv qk 1 then [((6 : Int), be (2 : Int).toNat qp)] else []) ++ qd.map fun x => ((7 : Int), Q5 x)))
theorem qm4 (qk qz inc lo hi seq qp : Int) (qd : LR) : qab qk qz inc lo hi seq qp qd = (qj9 qk qz inc lo hi seq qp qd).flatMap Qe := by
 unfold qab qj9
 rw [qaF (by omega) (by omega), qaF (by omega) (by omega), qaF (by omega) (by omega), qaF (by omega) (by omega)]
 simp only [List.flatMap_cons, List.flatMap_append, List.append_assoc]
 have e : qd.flatMap qdR = (qd.map fun x => ((7 : Int), Q5 x)).flatMap Qe := by
  rw [List.flatMap_map]
  rfl
 rw [e]
 cases qv qk 0 <;> cases qv qk 1 <;> simp [qaF (t := 5) (n := 2), qaF (t := 6) (n := 2)]
theorem qrF {qk qz inc lo hi seq qp : Int} {qd : LR} (hv : q0 qk qz inc lo hi seq qp 0 0 0 qd = true) (h9 : qk ≠ 9) (hf : qcK qd = true) (hlen : (qab qk qz inc lo hi seq qp qd).length ≤ 65499) :
  zN (qab qk qz inc lo hi seq qp qd) = (qk, qz, inc, lo, hi, seq, qp, qd, 0) := by
 obtain ⟨v1, v2, v3, v4, v5, v6, v7, v8, v9, v10, v11, _, v12, v13⟩ := Qj hv
 have hs := (qag _ _).1 v7
 obtain ⟨z0, z1⟩ := qjr hv
 have hP : qme (qab qk qz inc lo hi seq qp qd) = some (qk, qz, inc, lo * 16 + hi, seq, qp, qd.map fun x => ((7 : Int), Q5 x)) := by
  have hsp : Qd (qab qk qz inc lo hi seq qp qd) = (qj9 qk qz inc lo hi seq qp qd, 0) := by rw [qm4, qhA]
  unfold qme
  rw [if_neg (by rw [hsp]; simp; omega), hsp]
  dsimp only
  unfold qj9
  rw [qdd (by omega) (by omega) (by simp; omega)]
  dsimp only
  rw [qdd (by omega) (by omega) (by simp; omega)]
  dsimp only
  rw [qdd (by omega) (by omega) (by simp; omega)]
  dsimp only
  rw [qdd (by omega) (by omega) (by simp; omega)]
  dsimp only
  have hq : qdV (qv qk 0) 5 ((if qv qk 0 then [((5 : Int), be (2 : Int).toNat seq)] else []) ++ ((if qv qk 1 then [((6 : Int), be (2 : Int).toNat qp)] else []) ++ qd.map fun x => ((7 : Int), Q5 x))) = some (seq, (if qv qk 1 then [((6 : Int), be (2 : Int).toNat qp)] else []) ++ qd.map fun x => ((7 : Int), Q5 x)) := by
   cases h : qv qk 0
   ·simp [qdV, z0 h]
   ·simp only [qdV, if_true, List.singleton_append]
    exact qdd (by omega) (by omega) (by simp; omega)
  have ht : qdV (qv qk 1) 6 ((if qv qk 1 then [((6 : Int), be (2 : Int).toNat qp)] else []) ++ qd.map fun x => ((7 : Int), Q5 x)) = some (qp, qd.map fun x => ((7 : Int), Q5 x)) := by
   cases h : qv qk 1
   ·simp [qdV, z1 h]
   ·simp only [qdV, if_true, List.singleton_append]
    exact qdd (by omega) (by omega) (by simp; omega)
  rw [hq]
  dsimp only
  rw [ht]
 rw [qnl, hP]
 dsimp only
 have o := (qgW (lo * 16 + hi) (by omega) (by omega)).1 (by rw [show (lo * 16 + hi) / 16 = lo from by omega, show (lo * 16 + hi) % 16 = hi from by omega]; exact v7)
 rw [o, qjU qd fun x hx => ⟨v13 x hx, qjf _ hf x hx⟩, show (lo * 16 + hi) / 16 = lo from by omega, show (lo * 16 + hi) % 16 = hi from by omega]
 unfold qg6
 dsimp only
 have hz := qk8 hv
 have : qbp qk qz inc lo hi seq qp 0 0 0 qd = true := by
  unfold qbp
  rw [hv, hz, if_neg, hf]
  simp [h9]
  omega
 rw [this]
 rfl
def ZZ (l : LR) : Prop := ∀ r ∈ l, ∀ x ∈ r.2.2.2.2.2, ∀ c ∈ x.2, 0 ≤ c ∧ c ≤ 255
theorem qfE {x : Int × List Int} (h1 : 0 ≤ x.1) (h2 : x.1 ≤ 255) (h3 : x.2.length ≤ 65535) (h4 : ∀ c ∈ x.2, 0 ≤ c ∧ c ≤ 255) : ∀ c ∈ Qe x, 0 ≤ c ∧ c ≤ 255 := by
 intro c hc
 unfold Qe at hc
 simp at hc
 rcases hc with rfl | rfl | rfl | hc
 ·omega
 ·omega
 ·omega
 ·exact h4 c hc
theorem qa7 {t n v : Int} (t0 : 0 ≤ t) (t1 : t ≤ 255) (n1 : 1 ≤ n) (n7 : n ≤ 7) : ∀ c ∈ itB t n v, 0 ≤ c ∧ c ≤ 255 := by
 rw [qaF n1 n7]
 exact qfE t0 t1 (by rw [zG]; omega) (fun c hc => qkk _ _ c hc)
theorem qjd {α : Type} {l : List α} {f : α → List Int} {Q : Int → Prop} (h : ∀ x ∈ l, ∀ c ∈ f x, Q c) : ∀ c ∈ l.flatMap f, Q c := by
 intro c hc
 obtain ⟨x, hx, hc⟩ := List.mem_flatMap.1 hc
 exact h x hx c hc
theorem qor {r : Int × Int × Int × (Int × Int) × Bool × LF} (h : zw r = true) : (Q5 r).length ≤ 5000 := by
 have hb := Za (zE h).2.2.2.2.2.2.2.1
 have := qhV r.2.2.2.2.2
 unfold Q5
 simp only [List.length_append, itB, List.length_cons, zG]
 omega
theorem qmg {r : Int × Int × Int × (Int × Int) × Bool × LF} (h : zw r = true) (hb : ∀ x ∈ r.2.2.2.2.2, ∀ c ∈ x.2, 0 ≤ c ∧ c ≤ 255) : ∀ c ∈ Q5 r, 0 ≤ c ∧ c ≤ 255 := by
 have ht := qbm (zE h).2.2.2.2.2.2.2.1
 intro c hc
 unfold Q5 at hc
 simp only [List.mem_append] at hc
 rcases hc with hc | hc | hc | hc | hc
 ·exact qa7 (by omega) (by omega) (by omega) (by omega) c hc
 ·exact qa7 (by omega) (by omega) (by omega) (by omega) c hc
 ·exact qa7 (by omega) (by omega) (by omega) (by omega) c hc
 ·exact qa7 (by omega) (by omega) (by omega) (by omega) c hc
 ·exact qjd (fun x hx => qfE (by have := ht x hx; omega) (ht x hx).2.1 (by have := ht x hx; omega) (hb x hx)) c hc
theorem qm5 {qk qz inc lo hi seq qp : Int} {qd : LR} (hr : ∀ x ∈ qd, zw x = true) (hb : ZZ qd) : ∀ c ∈ qab qk qz inc lo hi seq qp qd, 0 ≤ c ∧ c ≤ 255 := by
 intro c hc
 unfold qab at hc
 simp only [List.mem_append] at hc
 rcases hc with hc | hc | hc | hc | hc | hc | hc
 ·exact qa7 (by omega) (by omega) (by omega) (by omega) c hc
 ·exact qa7 (by omega) (by omega) (by omega) (by omega) c hc
 ·exact qa7 (by omega) (by omega) (by omega) (by omega) c hc
 ·exact qa7 (by omega) (by omega) (by omega) (by omega) c hc
 ·split at hc
  ·exact qa7 (by omega) (by omega) (by omega) (by omega) c hc
  ·simp at hc
 ·split at hc
  ·exact qa7 (by omega) (by omega) (by omega) (by omega) c hc
  ·simp at hc
 ·exact qjd (fun x hx => qfE (x := (7, Q5 x)) (by simp) (by simp) (by have := qor (hr x hx); dsimp only; omega) (qmg (hr x hx) (hb x hx))) c hc
theorem qmo {qk qz inc lo hi seq qp qW qK qb : Int} {qd : LR} (h : qkf qk qz inc lo hi seq qp qW qK qb qd = true) :
  q0 qk qz inc lo hi seq qp qW qK qb qd = true ∧ qk ≠ 9 ∧ qW = 0 ∧ qK = 0 ∧ qb = 0 ∧ qcK qd = true ∧ (qab qk qz inc lo hi seq qp qd).length ≤ 65499 := by
 unfold qkf at h
 split at h
 ·cases h
 rename_i c
 split at h
 ·cases h
 rename_i c2
 simp at c c2 h
 exact ⟨c.1, c.2.1, c.2.2.1, c.2.2.2.1, c.2.2.2.2, c2, by omega⟩
theorem qpv {l : LR} (h : Go.Den.Good (.sl tQr ) l) : ZZ l := by
 obtain ⟨h1, h2⟩ := h
 intro r hr x hx
 have h3 := (h2 r hr).2.2.2.2.2
 exact qov (h3.2 x hx).2
def qjW : Env := ⟨th, gam [(116, Z5), (134, Z8), (135, qbH)], fun i => ⟨[], [], []⟩⟩
def qad.k (rs : List AV) (os : List Den.Obj) : Option (Int × Int × Int × Int × Int × Bool × LF × Bool) :=
 match rs, os with
 | [.agg [.d (.int .i64) r0, .d (.int .i64) r1, .d (.int .i64) r2, .d (.int .i64) r3, .d (.int .i64) r4, .d .bool r5, .d (.sl (.pair (.int .i64) (.sl (.int .u8)))) r6], .d .bool r7], [] => some (r0, r1, r2, r3, r4, r5, r6, r7)
 | _, _ => none
def qad.b (l : LR) (id : Int) : Option (Int × Int × Int × Int × Int × Bool × LF × Bool) :=
 (match (veil (qT.f BIG l id)) with | none => none | some y0 => (if (y0.1 == ((((List.length l)) : Nat) : Int)) then some (0, 0, 0, 0, 0, false, ([] : LF), false) else (match (idx l y0.1) with | none => none | some y1 => (match (veil (Z0.f BIG y1.1 y1.2.1 y1.2.2.1 y1.2.2.2.1.1 y1.2.2.2.1.2 y1.2.2.2.2.1 y1.2.2.2.2.2)) with | none => none | some y2 => some (y2.1, y2.2.1, y2.2.2.1, y2.2.2.2.1, y2.2.2.2.2.1, y2.2.2.2.2.2.1, y2.2.2.2.2.2.2, true)))))
def qad.f (qa : Nat) (l : LR) (id : Int) : Option (Int × Int × Int × Int × Int × Bool × LF × Bool) := qad.b l id
theorem qad.eq (qa : Nat) (l : LR) (id : Int) : (denF qjW loopN qa Tryz.f122 [.dat tQr true, .raw] [.d (.sl tQr) l, .d tQi id] [] qad.k) = qad.f qa l id := by
 kernel_rfl
def qa0 : Den.Sum := ⟨[.dat (.sl tQr) false, .raw], fun qH ql κ => match qH, ql with
 | [.d (.sl (.pair (.int .i64) (.pair (.int .i64) (.pair (.int .i64) (.pair (.pair (.int .i64) (.int .i64)) (.pair .bool (.sl (.pair (.int .i64) (.sl (.int .u8)))))))))) l, .d (.int .i64) id], [] => (match veil (qad.f BIG l id) with | none => none | some y => κ [.agg [.d (.int .i64) y.1, .d (.int .i64) y.2.1, .d (.int .i64) y.2.2.1, .d (.int .i64) y.2.2.2.1, .d (.int .i64) y.2.2.2.2.1, .d .bool y.2.2.2.2.2.1, .d (.sl (.pair (.int .i64) (.sl (.int .u8)))) y.2.2.2.2.2.2.1], .d .bool y.2.2.2.2.2.2.2] [])
 | _, _ => none⟩
theorem qgn : SumDet qa0 := zi fun _ _ _ _ => by
 unfold qa0
 simp only [veil_eq]
 split
 ·split <;> rfl
 ·rfl
theorem qhi : SumOk Tryz.prog 122 qa0 := by
 have hE : EnvOk Tryz.prog qjW := env_ok (l := [(116, Z5), (134, Z8), (135, qbH)]) th_ok qX ⟨⟨qfX, qfF⟩, ⟨qfo, qeU⟩, ⟨qkA, qjH⟩, trivial⟩ _
 refine sum_ok hE Tryz.func122 rfl (by kernel_rfl) qa0 [.dat tQr true, .raw] qad.k ?_
 intro R avs ql κ r h
 unfold qa0 at h
 simp only [veil_eq] at h
 split at h
 ·rename_i l id
  split at h
  ·cases h
  ·rename_i y hy
   refine ⟨BIG, _, _, _, (qad.eq BIG l id).trans hy, ?_, h⟩
   intro rs ros hk
   unfold qad.k at hk
   split at hk
   ·rw [← sj hk]; exact ⟨rfl, rfl⟩
   ·cases hk
 ·cases h
def ZY : Env := ⟨th, gam [(79, qcR), (80, qaD), (119, QR), (75, qcV), (130, QQ), (131, qau), (122, qa0), (132, qbc)], fun i => if i = 17 then ⟨[4, 92, 93, 94], [], []⟩ else if i = 5 then ⟨[2, 4, 5, 8, 9, 10], [], [777777]⟩ else if i = 7 then ⟨[2, 4, 5, 8, 9, 10], [], [777777]⟩ else if i = 9 then ⟨[2, 4, 5, 8, 10], [], [777777]⟩ else if i = 13 then ⟨[4, 5, 8, 10], [], [777777]⟩ else ⟨[], [], []⟩⟩
def qc.k (rs : List AV) (os : List Den.Obj) : Option (List Int) :=
 match rs, os with
 | [], [.box [.row 2, .d .bool false], .gone, .row 5 (.int .u8) r0 false] => some r0
 | _, _ => none
def qc.s17 (l : List Int) (qZ qP qs qq qr : Int) (qO : Bool) (qN : LF) (qe : Int) (qb : LR) (x41 x42 : Int) (x43 : (List Int)) : St := ⟨[dD, dD, dD, dD, .ptr 65 0, dD, dD, dD, dD, dD, dD, dD, dD, dD, dD, dD, dD, dD, dD, dD, dD, dD, dD, dD, dD, dD, dD, dD, dD, dD, dD, dD, dD, dD, dD, dD, dD, dD, dD, dD, dD, dD, dD, dD, dD, dD, dD, dD, dD, dD, dD, dD, dD, dD, dD, dD, dD, dD, dD, dD, dD, dD, dD, dD, dD, dD, dD, dD, dD, dD, dD, dD, dD, dD, dD, dD, dD, dD, dD, dD, dD, dD, dD, dD, dD, dD, dD, dD, dD, dD, dD, dD, .d (.sl (.pair tQi (.sl (.int .u8)))) (qN), .d tQi x41, .d tQi x42, dD, dD, dD, dD, dD, dD, dD, dD, dD, dD, dD, dD, dD, dD, dD, dD, dD, dD, dD, .dead], ofL [(0, .box [.row 64, .d .bool (false)]), (1, .gone), (64, .row 5 (.int .u8) x43 false), (65, .box [.ptr 0 0])], 2⟩
def qc.p17 (qa : Nat) (l : List Int) (qZ qP qs qq qr : Int) (qO : Bool) (qN : LF) (qe : Int) (qb : LR) (k : Nat) := fun x41 x42 x43 => lp ZY qa Tryz.f120 [.pb [.own (some 0) [] 0 5 (.int .u8) true, .kill 1]] 2 qc.k 17 [] k (qc.s17 l qZ qP qs qq qr qO qN qe qb x41 x42 x43)
def qc.b17 (l : List Int) (qZ qP qs qq qr : Int) (qO : Bool) (qN : LF) (qe : Int) (qb : LR) (A17 : Int → Int → (List Int) → Option (List Int)) (x41 : Int) (x42 : Int) (x43 : (List Int)) : Option (List Int) :=
 (if (decide (x42 < x41)) then (match (idx qN x42) with | none => none | some y44 => (if ((z8 (1 : Int) y44.1) ∧ (Zf x43)) then (match (veil (qi.f BIG (x43 ++ (be (Int.toNat (1 : Int)) y44.1)) (((((List.length y44.2)) : Nat) : Int) :: ([] : List Int)))) with | none => none | some y45 => (match (veil (zW.f BIG y45 y44.2)) with | none => none | some y46 => A17 x41 (IntKind.wrap .i64 (x42 + (1 : Int))) y46)) else none)) else some (x43))
def qc.l17 (qa : Nat) (l : List Int) (qZ qP qs qq qr : Int) (qO : Bool) (qN : LF) (qe : Int) (qb : LR) : Nat → Int → Int → (List Int) → Option (List Int)
 | 0, _, _, _ => none
 | k + 1, x41, x42, x43 => qc.b17 l qZ qP qs qq qr qO qN qe qb (qc.l17 qa l qZ qP qs qq qr qO qN qe qb k) x41 x42 x43
def qc.s13 (l : List Int) (qZ qP qs qq qr : Int) (qO : Bool) (qN : LF) (qe : Int) (qb : LR) (x28 : Int) (x29 : (List Int)) (x30 x31 x32 x33 x34 : Int) (x35 : Bool) (x36 : LF) : St := ⟨[dD, dD, dD, dD, .ptr 65 0, .ptr 66 0, .dead, .dead, .ptr 67 0, .dead, .d tQi x28, dD, dD, dD, dD, dD, dD, dD, dD, dD, dD, dD, dD, dD, dD, dD, dD, dD, dD, dD, dD, dD, dD, dD, dD, dD, dD, dD, dD, dD, dD, dD, dD, dD, dD, dD, dD, dD, dD, dD, dD, dD, dD, dD, dD, dD, dD, dD, dD, dD, dD, dD, dD, dD, dD, dD, dD, dD, dD, dD, dD, dD, dD, dD, dD, dD, dD, dD, dD, dD, dD, dD, dD, dD, dD, dD, dD, dD, dD, dD, dD, dD, dD, dD, dD, dD, dD, dD, dD, dD, dD, dD, dD, dD, dD, dD, dD, dD, dD, dD, dD, dD, dD, dD, .dead], ofL [(0, .box [.row 64, .d .bool (false)]), (1, .gone), (64, .row 5 (.int .u8) x29 false), (65, .box [.ptr 0 0]), (66, .box [.d tQi (qZ), .d tQi (qP), .d tQi (qs), .d tQi (qq), .d tQi (qr), .d .bool (qO), .d (.sl (.pair tQi (.sl (.int .u8)))) (qN)]), (67, .box [.d tQi x30, .d tQi x31, .d tQi x32, .d tQi x33, .d tQi x34, .d .bool x35, .d (.sl (.pair tQi (.sl (.int .u8)))) x36])], 2⟩
def qc.p13 (qa : Nat) (l : List Int) (qZ qP qs qq qr : Int) (qO : Bool) (qN : LF) (qe : Int) (qb : LR) (k : Nat) := fun x28 x29 x30 x31 x32 x33 x34 x35 x36 => lp ZY qa Tryz.f120 [.pb [.own (some 0) [] 0 5 (.int .u8) true, .kill 1]] 2 qc.k 13 [] k (qc.s13 l qZ qP qs qq qr qO qN qe qb x28 x29 x30 x31 x32 x33 x34 x35 x36)
def qc.b13 (l : List Int) (qZ qP qs qq qr : Int) (qO : Bool) (qN : LF) (qe : Int) (qb : LR) (A13 : Int → (List Int) → Int → Int → Int → Int → Int → Bool → LF → Option (List Int)) (E17 : Int → Int → (List Int) → Option (List Int)) (x28 : Int) (x29 : (List Int)) (x30 : Int) (x31 : Int) (x32 : Int) (x33 : Int) (x34 : Int) (x35 : Bool) (x36 : LF) : Option (List Int) :=
 (match (veil (ZC.f BIG (IntKind.wrap .i64 (qP - x31)))) with | none => none | some y37 => (match (veil (zx.f BIG y37)) with | none => none | some y38 => (match (veil (zW.f BIG x29 y38)) with | none => none | some y39 => (if ((bits BinOp.and .i64 x28 (20 : Int)) != (0 : Int)) then some (y39) else (match (veil (qi.f BIG y39 (((((List.length qN)) : Nat) : Int) :: ([] : List Int)))) with | none => none | some y40 => E17 ((((List.length qN)) : Nat) : Int) (0 : Int) y40)))))
def qc.l13 (qa : Nat) (l : List Int) (qZ qP qs qq qr : Int) (qO : Bool) (qN : LF) (qe : Int) (qb : LR) : Nat → Int → (List Int) → Int → Int → Int → Int → Int → Bool → LF → Option (List Int)
 | 0, _, _, _, _, _, _, _, _, _ => none
 | k + 1, x28, x29, x30, x31, x32, x33, x34, x35, x36 => qc.b13 l qZ qP qs qq qr qO qN qe qb (qc.l13 qa l qZ qP qs qq qr qO qN qe qb k) (qc.l17 qa l qZ qP qs qq qr qO qN qe qb qa) x28 x29 x30 x31 x32 x33 x34 x35 x36
def qc.s9 (l : List Int) (qZ qP qs qq qr : Int) (qO : Bool) (qN : LF) (qe : Int) (qb : LR) (x19 x20 x21 x22 x23 x24 : Int) (x25 : Bool) (x26 : LF) : St := ⟨[.dead, .dead, .d tQi (qe), .dead, .ptr 64 0, .ptr 65 0, .dead, .dead, .ptr 66 0, .dead, .d tQi x19, dD, dD, dD, dD, dD, dD, dD, dD, dD, dD, dD, dD, dD, dD, dD, dD, dD, dD, dD, dD, dD, dD, dD, dD, dD, dD, dD, dD, dD, dD, dD, dD, dD, dD, dD, dD, dD, dD, dD, dD, dD, dD, dD, dD, dD, dD, dD, dD, dD, dD, dD, dD, dD, dD, dD, dD, dD, dD, dD, dD, dD, dD, dD, dD, dD, dD, dD, dD, dD, dD, dD, dD, dD, dD, dD, dD, dD, dD, dD, dD, dD, dD, dD, dD, dD, dD, dD, dD, dD, dD, dD, dD, dD, dD, dD, dD, dD, dD, dD, dD, dD, dD, dD, .dead], ofL [(0, .box [.row 1, .d .bool (false)]), (1, .row 5 (.int .u8) (l) false), (64, .box [.ptr 0 0]), (65, .box [.d tQi (qZ), .d tQi (qP), .d tQi (qs), .d tQi (qq), .d tQi (qr), .d .bool (qO), .d (.sl (.pair tQi (.sl (.int .u8)))) (qN)]), (66, .box [.d tQi x20, .d tQi x21, .d tQi x22, .d tQi x23, .d tQi x24, .d .bool x25, .d (.sl (.pair tQi (.sl (.int .u8)))) x26])], 2⟩
def qc.p9 (qa : Nat) (l : List Int) (qZ qP qs qq qr : Int) (qO : Bool) (qN : LF) (qe : Int) (qb : LR) (k : Nat) := fun x19 x20 x21 x22 x23 x24 x25 x26 => lp ZY qa Tryz.f120 [.pb [.own (some 0) [] 0 5 (.int .u8) true, .kill 1]] 2 qc.k 9 [] k (qc.s9 l qZ qP qs qq qr qO qN qe qb x19 x20 x21 x22 x23 x24 x25 x26)
def qc.b9 (l : List Int) (qZ qP qs qq qr : Int) (qO : Bool) (qN : LF) (qe : Int) (qb : LR) (A9 : Int → Int → Int → Int → Int → Int → Bool → LF → Option (List Int)) (E13 : Int → (List Int) → Int → Int → Int → Int → Int → Bool → LF → Option (List Int)) (x19 : Int) (x20 : Int) (x21 : Int) (x22 : Int) (x23 : Int) (x24 : Int) (x25 : Bool) (x26 : LF) : Option (List Int) :=
 (match (veil (qi.f BIG l ((IntKind.wrap .i64 ((IntKind.wrap .i64 (qZ - qe)) - (1 : Int))) :: ([] : List Int)))) with | none => none | some y27 => (if ((z8 (1 : Int) x19) ∧ (Zf y27)) then (if ((bits BinOp.and .i64 x19 (8 : Int)) == (0 : Int)) then (if ((z8 (1 : Int) (Qk qq qr)) ∧ (Zf (y27 ++ (be (Int.toNat (1 : Int)) x19)))) then E13 x19 ((y27 ++ (be (Int.toNat (1 : Int)) x19)) ++ (be (Int.toNat (1 : Int)) (Qk qq qr))) x20 x21 x22 x23 x24 x25 x26 else none) else E13 x19 (y27 ++ (be (Int.toNat (1 : Int)) x19)) x20 x21 x22 x23 x24 x25 x26) else none))
def qc.l9 (qa : Nat) (l : List Int) (qZ qP qs qq qr : Int) (qO : Bool) (qN : LF) (qe : Int) (qb : LR) : Nat → Int → Int → Int → Int → Int → Int → Bool → LF → Option (List Int)
 | 0, _, _, _, _, _, _, _, _ => none
 | k + 1, x19, x20, x21, x22, x23, x24, x25, x26 => qc.b9 l qZ qP qs qq qr qO qN qe qb (qc.l9 qa l qZ qP qs qq qr qO qN qe qb k) (qc.l13 qa l qZ qP qs qq qr qO qN qe qb qa) x19 x20 x21 x22 x23 x24 x25 x26
def qc.s7 (l : List Int) (qZ qP qs qq qr : Int) (qO : Bool) (qN : LF) (qe : Int) (qb : LR) (x10 : Bool) (x11 x12 x13 x14 x15 x16 : Int) (x17 : Bool) (x18 : LF) : St := ⟨[.dead, .dead, .d tQi (qe), .dead, .ptr 64 0, .ptr 65 0, .dead, .dead, .ptr 66 0, .d .bool x10, .d tQi x11, dD, dD, dD, dD, dD, dD, dD, dD, dD, dD, dD, dD, dD, dD, dD, dD, dD, dD, dD, dD, dD, dD, dD, dD, dD, dD, dD, dD, dD, dD, dD, dD, dD, dD, dD, dD, dD, dD, dD, dD, dD, dD, dD, dD, dD, dD, dD, dD, dD, dD, dD, dD, dD, dD, dD, dD, dD, dD, dD, dD, dD, dD, dD, dD, dD, dD, dD, dD, dD, dD, dD, dD, dD, dD, dD, dD, dD, dD, dD, dD, dD, dD, dD, dD, dD, dD, dD, dD, dD, dD, dD, dD, dD, dD, dD, dD, dD, dD, dD, dD, dD, dD, dD, .dead], ofL [(0, .box [.row 1, .d .bool (false)]), (1, .row 5 (.int .u8) (l) false), (64, .box [.ptr 0 0]), (65, .box [.d tQi (qZ), .d tQi (qP), .d tQi (qs), .d tQi (qq), .d tQi (qr), .d .bool (qO), .d (.sl (.pair tQi (.sl (.int .u8)))) (qN)]), (66, .box [.d tQi x12, .d tQi x13, .d tQi x14, .d tQi x15, .d tQi x16, .d .bool x17, .d (.sl (.pair tQi (.sl (.int .u8)))) x18])], 2⟩
def qc.p7 (qa : Nat) (l : List Int) (qZ qP qs qq qr : Int) (qO : Bool) (qN : LF) (qe : Int) (qb : LR) (k : Nat) := fun x10 x11 x12 x13 x14 x15 x16 x17 x18 => lp ZY qa Tryz.f120 [.pb [.own (some 0) [] 0 5 (.int .u8) true, .kill 1]] 2 qc.k 7 [] k (qc.s7 l qZ qP qs qq qr qO qN qe qb x10 x11 x12 x13 x14 x15 x16 x17 x18)
def qc.b7 (l : List Int) (qZ qP qs qq qr : Int) (qO : Bool) (qN : LF) (qe : Int) (qb : LR) (A7 : Bool → Int → Int → Int → Int → Int → Int → Bool → LF → Option (List Int)) (E9 : Int → Int → Int → Int → Int → Int → Bool → LF → Option (List Int)) (x10 : Bool) (x11 : Int) (x12 : Int) (x13 : Int) (x14 : Int) (x15 : Int) (x16 : Int) (x17 : Bool) (x18 : LF) : Option (List Int) :=
 (if x10 then (if (!qO) then (if ((zo x18) && (zo qN)) then (if ((ZH x18 qN) == (0 : Int)) then E9 (bits BinOp.or .i64 x11 (16 : Int)) x12 x13 x14 x15 x16 x17 x18 else E9 x11 x12 x13 x14 x15 x16 x17 x18) else none) else E9 x11 x12 x13 x14 x15 x16 x17 x18) else E9 x11 x12 x13 x14 x15 x16 x17 x18)
def qc.l7 (qa : Nat) (l : List Int) (qZ qP qs qq qr : Int) (qO : Bool) (qN : LF) (qe : Int) (qb : LR) : Nat → Bool → Int → Int → Int → Int → Int → Int → Bool → LF → Option (List Int)
 | 0, _, _, _, _, _, _, _, _, _ => none
 | k + 1, x10, x11, x12, x13, x14, x15, x16, x17, x18 => qc.b7 l qZ qP qs qq qr qO qN qe qb (qc.l7 qa l qZ qP qs qq qr qO qN qe qb k) (qc.l9 qa l qZ qP qs qq qr qO qN qe qb qa) x10 x11 x12 x13 x14 x15 x16 x17 x18
def qc.s5 (l : List Int) (qZ qP qs qq qr : Int) (qO : Bool) (qN : LF) (qe : Int) (qb : LR) (x1 : Bool) (x2 x3 x4 x5 x6 x7 : Int) (x8 : Bool) (x9 : LF) : St := ⟨[.dead, .dead, .d tQi (qe), .dead, .ptr 64 0, .ptr 65 0, .dead, .dead, .ptr 66 0, .d .bool x1, .d tQi x2, dD, dD, dD, dD, dD, dD, dD, dD, dD, dD, dD, dD, dD, dD, dD, dD, dD, dD, dD, dD, dD, dD, dD, dD, dD, dD, dD, dD, dD, dD, dD, dD, dD, dD, dD, dD, dD, dD, dD, dD, dD, dD, dD, dD, dD, dD, dD, dD, dD, dD, dD, dD, dD, dD, dD, dD, dD, dD, dD, dD, dD, dD, dD, dD, dD, dD, dD, dD, dD, dD, dD, dD, dD, dD, dD, dD, dD, dD, dD, dD, dD, dD, dD, dD, dD, dD, dD, dD, dD, dD, dD, dD, dD, dD, dD, dD, dD, dD, dD, dD, dD, dD, dD, .dead], ofL [(0, .box [.row 1, .d .bool (false)]), (1, .row 5 (.int .u8) (l) false), (64, .box [.ptr 0 0]), (65, .box [.d tQi (qZ), .d tQi (qP), .d tQi (qs), .d tQi (qq), .d tQi (qr), .d .bool (qO), .d (.sl (.pair tQi (.sl (.int .u8)))) (qN)]), (66, .box [.d tQi x3, .d tQi x4, .d tQi x5, .d tQi x6, .d tQi x7, .d .bool x8, .d (.sl (.pair tQi (.sl (.int .u8)))) x9])], 2⟩
def qc.p5 (qa : Nat) (l : List Int) (qZ qP qs qq qr : Int) (qO : Bool) (qN : LF) (qe : Int) (qb : LR) (k : Nat) := fun x1 x2 x3 x4 x5 x6 x7 x8 x9 => lp ZY qa Tryz.f120 [.pb [.own (some 0) [] 0 5 (.int .u8) true, .kill 1]] 2 qc.k 5 [] k (qc.s5 l qZ qP qs qq qr qO qN qe qb x1 x2 x3 x4 x5 x6 x7 x8 x9)
def qc.b5 (l : List Int) (qZ qP qs qq qr : Int) (qO : Bool) (qN : LF) (qe : Int) (qb : LR) (A5 : Bool → Int → Int → Int → Int → Int → Int → Bool → LF → Option (List Int)) (E7 : Bool → Int → Int → Int → Int → Int → Int → Bool → LF → Option (List Int)) (x1 : Bool) (x2 : Int) (x3 : Int) (x4 : Int) (x5 : Int) (x6 : Int) (x7 : Int) (x8 : Bool) (x9 : LF) : Option (List Int) :=
 (if x1 then (if (if (x6 == qq) then (if (x7 == qr) then true else false) else false) then E7 x1 (bits BinOp.or .i64 x2 (8 : Int)) x3 x4 x5 x6 x7 x8 x9 else E7 x1 x2 x3 x4 x5 x6 x7 x8 x9) else E7 x1 x2 x3 x4 x5 x6 x7 x8 x9)
def qc.l5 (qa : Nat) (l : List Int) (qZ qP qs qq qr : Int) (qO : Bool) (qN : LF) (qe : Int) (qb : LR) : Nat → Bool → Int → Int → Int → Int → Int → Int → Bool → LF → Option (List Int)
 | 0, _, _, _, _, _, _, _, _, _ => none
 | k + 1, x1, x2, x3, x4, x5, x6, x7, x8, x9 => qc.b5 l qZ qP qs qq qr qO qN qe qb (qc.l5 qa l qZ qP qs qq qr qO qN qe qb k) (qc.l7 qa l qZ qP qs qq qr qO qN qe qb qa) x1 x2 x3 x4 x5 x6 x7 x8 x9
def qc.b (l : List Int) (qZ qP qs qq qr : Int) (qO : Bool) (qN : LF) (qe : Int) (qb : LR) (E5 : Bool → Int → Int → Int → Int → Int → Int → Bool → LF → Option (List Int)) : Option (List Int) :=
 (match (veil (qad.f BIG qb qZ)) with | none => none | some y0 => (if qO then E5 y0.2.2.2.2.2.2.2 (bits BinOp.or .i64 qs (4 : Int)) y0.1 y0.2.1 y0.2.2.1 y0.2.2.2.1 y0.2.2.2.2.1 y0.2.2.2.2.2.1 y0.2.2.2.2.2.2.1 else E5 y0.2.2.2.2.2.2.2 qs y0.1 y0.2.1 y0.2.2.1 y0.2.2.2.1 y0.2.2.2.2.1 y0.2.2.2.2.2.1 y0.2.2.2.2.2.2.1))
def qc.f (qa : Nat) (l : List Int) (qZ qP qs qq qr : Int) (qO : Bool) (qN : LF) (qe : Int) (qb : LR) : Option (List Int) := qc.b l qZ qP qs qq qr qO qN qe qb (qc.l5 qa l qZ qP qs qq qr qO qN qe qb qa)
theorem qc.l17_eq (qa : Nat) (l : List Int) (qZ qP qs qq qr : Int) (qO : Bool) (qN : LF) (qe : Int) (qb : LR) : ∀ k : Nat, qc.p17 qa l qZ qP qs qq qr qO qN qe qb k = qc.l17 qa l qZ qP qs qq qr qO qN qe qb k
 | 0 => by kernel_rfl
 | k + 1 => by
  refine Eq.trans (b := qc.b17 l qZ qP qs qq qr qO qN qe qb (qc.p17 qa l qZ qP qs qq qr qO qN qe qb k)) (by kernel_rfl) ?_
  rw [qc.l17_eq qa l qZ qP qs qq qr qO qN qe qb k]
  kernel_rfl
theorem qc.l13_eq (qa : Nat) (l : List Int) (qZ qP qs qq qr : Int) (qO : Bool) (qN : LF) (qe : Int) (qb : LR) : ∀ k : Nat, qc.p13 qa l qZ qP qs qq qr qO qN qe qb k = qc.l13 qa l qZ qP qs qq qr qO qN qe qb k
 | 0 => by kernel_rfl
 | k + 1 => by
  refine Eq.trans (b := qc.b13 l qZ qP qs qq qr qO qN qe qb (qc.p13 qa l qZ qP qs qq qr qO qN qe qb k) (qc.p17 qa l qZ qP qs qq qr qO qN qe qb qa)) (by kernel_rfl) ?_
  rw [qc.l13_eq qa l qZ qP qs qq qr qO qN qe qb k, qc.l17_eq qa l qZ qP qs qq qr qO qN qe qb qa]
  kernel_rfl
theorem qc.l9_eq (qa : Nat) (l : List Int) (qZ qP qs qq qr : Int) (qO : Bool) (qN : LF) (qe : Int) (qb : LR) : ∀ k : Nat, qc.p9 qa l qZ qP qs qq qr qO qN qe qb k = qc.l9 qa l qZ qP qs qq qr qO qN qe qb k
 | 0 => by kernel_rfl
 | k + 1 => by
  refine Eq.trans (b := qc.b9 l qZ qP qs qq qr qO qN qe qb (qc.p9 qa l qZ qP qs qq qr qO qN qe qb k) (qc.p13 qa l qZ qP qs qq qr qO qN qe qb qa)) (by kernel_rfl) ?_
  rw [qc.l9_eq qa l qZ qP qs qq qr qO qN qe qb k, qc.l13_eq qa l qZ qP qs qq qr qO qN qe qb qa]
  kernel_rfl
theorem qc.l7_eq (qa : Nat) (l : List Int) (qZ qP qs qq qr : Int) (qO : Bool) (qN : LF) (qe : Int) (qb : LR) : ∀ k : Nat, qc.p7 qa l qZ qP qs qq qr qO qN qe qb k = qc.l7 qa l qZ qP qs qq qr qO qN qe qb k
 | 0 => by kernel_rfl
 | k + 1 => by
  refine Eq.trans (b := qc.b7 l qZ qP qs qq qr qO qN qe qb (qc.p7 qa l qZ qP qs qq qr qO qN qe qb k) (qc.p9 qa l qZ qP qs qq qr qO qN qe qb qa)) (by kernel_rfl) ?_
  rw [qc.l7_eq qa l qZ qP qs qq qr qO qN qe qb k, qc.l9_eq qa l qZ qP qs qq qr qO qN qe qb qa]
  kernel_rfl
theorem qc.l5_eq (qa : Nat) (l : List Int) (qZ qP qs qq qr : Int) (qO : Bool) (qN : LF) (qe : Int) (qb : LR) : ∀ k : Nat, qc.p5 qa l qZ qP qs qq qr qO qN qe qb k = qc.l5 qa l qZ qP qs qq qr qO qN qe qb k
 | 0 => by kernel_rfl
 | k + 1 => by
  refine Eq.trans (b := qc.b5 l qZ qP qs qq qr qO qN qe qb (qc.p5 qa l qZ qP qs qq qr qO qN qe qb k) (qc.p7 qa l qZ qP qs qq qr qO qN qe qb qa)) (by kernel_rfl) ?_
  rw [qc.l5_eq qa l qZ qP qs qq qr qO qN qe qb k, qc.l7_eq qa l qZ qP qs qq qr qO qN qe qb qa]
  kernel_rfl
theorem qc.eq (qa : Nat) (l : List Int) (qZ qP qs qq qr : Int) (qO : Bool) (qN : LF) (qe : Int) (qb : LR) : (denF ZY loopN qa Tryz.f120 [.pb [.own (some 0) [] 0 5 (.int .u8) true, .kill 1]] [.agg [.ptr 0 0], .agg [.d tQi qZ, .d tQi qP, .d tQi qs, .d tQi qq, .d tQi qr, .d .bool qO, .d (.sl (.pair tQi (.sl (.int .u8)))) qN], .d tQi qe, .d (.sl tQr) qb] [.box [.row 1, .d .bool false], .row 5 (.int .u8) l false] qc.k) = qc.f qa l qZ qP qs qq qr qO qN qe qb := by
 refine Eq.trans (b := qc.b l qZ qP qs qq qr qO qN qe qb (qc.p5 qa l qZ qP qs qq qr qO qN qe qb qa)) (by kernel_rfl) ?_
 rw [qc.l5_eq qa l qZ qP qs qq qr qO qN qe qb qa]
 kernel_rfl
def ZV : Den.Sum := ⟨[.pb [.own none [0] 0 5 (.int .u8) false], .dat tQr true, .raw, .dat (.sl tQr) false], fun qH ql κ => match qH, ql with
 | [.agg [.ptr 0 0], .agg [.d (.int .i64) qZ, .d (.int .i64) qP, .d (.int .i64) qs, .d (.int .i64) qq, .d (.int .i64) qr, .d .bool qO, .d (.sl (.pair (.int .i64) (.sl (.int .u8)))) qN], .d (.int .i64) qe, .d (.sl (.pair (.int .i64) (.pair (.int .i64) (.pair (.int .i64) (.pair (.pair (.int .i64) (.int .i64)) (.pair .bool (.sl (.pair (.int .i64) (.sl (.int .u8)))))))))) qb], [.box [.row 1, .d .bool false], .row 5 (.int .u8) l false] => (match veil (qc.f BIG l qZ qP qs qq qr qO qN qe qb) with | none => none | some y => κ [] [.box [.row 2, .d .bool false], .gone, .row 5 (.int .u8) y false])
 | _, _ => none⟩
theorem qgs : SumDet ZV := zi fun _ _ _ _ => by
 unfold ZV
 simp only [veil_eq]
 split
 ·split <;> rfl
 ·rfl
theorem qgL : SumOk Tryz.prog 120 ZV := by
 have hE : EnvOk Tryz.prog ZY := env_ok (l := [(79, qcR), (80, qaD), (119, QR), (75, qcV), (130, QQ), (131, qau), (122, qa0), (132, qbc)]) th_ok qX ⟨⟨qgK, qfM⟩, ⟨qdx, qcU⟩, ⟨qdw, qda⟩, ⟨qjS, qiD⟩, ⟨qdv, qc9⟩, ⟨qgk, qfJ⟩, ⟨qhi, qgn⟩, ⟨qjz, qiU⟩, trivial⟩ _
 refine sum_ok hE Tryz.func120 rfl (by kernel_rfl) ZV [.pb [.own (some 0) [] 0 5 (.int .u8) true, .kill 1]] qc.k ?_
 intro R avs ql κ r h
 unfold ZV at h
 simp only [veil_eq] at h
 split at h
 ·rename_i qZ qP qs qq qr qO qN qe qb l
  split at h
  ·cases h
  ·rename_i y hy
   refine ⟨BIG, _, _, _, (qc.eq BIG l qZ qP qs qq qr qO qN qe qb).trans hy, ?_, h⟩
   intro rs ros hk
   unfold qc.k at hk
   split at hk
   ·rw [← sj hk]; exact ⟨rfl, rfl⟩
   ·cases hk
 ·cases h
theorem qc.l17_at (qa n k : Nat) (hn : n = k + 1) (l : List Int) (qZ : Int) (qP : Int) (qs : Int) (qq : Int) (qr : Int) (qO : Bool) (qN : LF) (qe : Int) (qb : LR) (x41 : Int) (x42 : Int) (x43 : (List Int)) : qc.l17 qa l qZ qP qs qq qr qO qN qe qb n x41 x42 x43 = qc.b17 l qZ qP qs qq qr qO qN qe qb (qc.l17 qa l qZ qP qs qq qr qO qN qe qb k) x41 x42 x43 := by
 subst hn
 rfl
theorem qc.l13_at (qa n k : Nat) (hn : n = k + 1) (l : List Int) (qZ : Int) (qP : Int) (qs : Int) (qq : Int) (qr : Int) (qO : Bool) (qN : LF) (qe : Int) (qb : LR) (x28 : Int) (x29 : (List Int)) (x30 : Int) (x31 : Int) (x32 : Int) (x33 : Int) (x34 : Int) (x35 : Bool) (x36 : LF) : qc.l13 qa l qZ qP qs qq qr qO qN qe qb n x28 x29 x30 x31 x32 x33 x34 x35 x36 = qc.b13 l qZ qP qs qq qr qO qN qe qb (qc.l13 qa l qZ qP qs qq qr qO qN qe qb k) (qc.l17 qa l qZ qP qs qq qr qO qN qe qb qa) x28 x29 x30 x31 x32 x33 x34 x35 x36 := by
 subst hn
 rfl
theorem qc.l9_at (qa n k : Nat) (hn : n = k + 1) (l : List Int) (qZ : Int) (qP : Int) (qs : Int) (qq : Int) (qr : Int) (qO : Bool) (qN : LF) (qe : Int) (qb : LR) (x19 : Int) (x20 : Int) (x21 : Int) (x22 : Int) (x23 : Int) (x24 : Int) (x25 : Bool) (x26 : LF) : qc.l9 qa l qZ qP qs qq qr qO qN qe qb n x19 x20 x21 x22 x23 x24 x25 x26 = qc.b9 l qZ qP qs qq qr qO qN qe qb (qc.l9 qa l qZ qP qs qq qr qO qN qe qb k) (qc.l13 qa l qZ qP qs qq qr qO qN qe qb qa) x19 x20 x21 x22 x23 x24 x25 x26 := by
 subst hn
 rfl
theorem qc.l7_at (qa n k : Nat) (hn : n = k + 1) (l : List Int) (qZ : Int) (qP : Int) (qs : Int) (qq : Int) (qr : Int) (qO : Bool) (qN : LF) (qe : Int) (qb : LR) (x10 : Bool) (x11 : Int) (x12 : Int) (x13 : Int) (x14 : Int) (x15 : Int) (x16 : Int) (x17 : Bool) (x18 : LF) : qc.l7 qa l qZ qP qs qq qr qO qN qe qb n x10 x11 x12 x13 x14 x15 x16 x17 x18 = qc.b7 l qZ qP qs qq qr qO qN qe qb (qc.l7 qa l qZ qP qs qq qr qO qN qe qb k) (qc.l9 qa l qZ qP qs qq qr qO qN qe qb qa) x10 x11 x12 x13 x14 x15 x16 x17 x18 := by
 subst hn
 rfl
theorem qc.l5_at (qa n k : Nat) (hn : n = k + 1) (l : List Int) (qZ : Int) (qP : Int) (qs : Int) (qq : Int) (qr : Int) (qO : Bool) (qN : LF) (qe : Int) (qb : LR) (x1 : Bool) (x2 : Int) (x3 : Int) (x4 : Int) (x5 : Int) (x6 : Int) (x7 : Int) (x8 : Bool) (x9 : LF) : qc.l5 qa l qZ qP qs qq qr qO qN qe qb n x1 x2 x3 x4 x5 x6 x7 x8 x9 = qc.b5 l qZ qP qs qq qr qO qN qe qb (qc.l5 qa l qZ qP qs qq qr qO qN qe qb k) (qc.l7 qa l qZ qP qs qq qr qO qN qe qb qa) x1 x2 x3 x4 x5 x6 x7 x8 x9 := by
 subst hn
 rfl
abbrev REC := Int × Int × Int × (Int × Int) × Bool × LF
theorem qaI : BIG = (BIG - 1) + 1 := by rw [qaj]
def viF : Nat → Int → List Int
 | 0, v => [v]
 | k + 1, v => if v ≥ 128 then (v % 128 + 128) :: viF k (v / 128) else [v]
def vi (v : Int) : List Int := viF 9 v
theorem qpi : (List.range 256).all (fun n => bits BinOp.or .u8 (n : Int) 128 == (n : Int) % 128 + 128) = true := by kernel_rfl
theorem qry (c : Int) (h0 : 0 ≤ c) (h1 : c < 256) : bits BinOp.or .u8 c 128 = c % 128 + 128 := by
 have := List.all_eq_true.1 qpi c.toNat (by simp; omega)
 rw [show ((c.toNat : Nat) : Int) = c from by omega] at this
 simpa using this
theorem qgh (n : Int) : IntKind.wrap .u8 n = n % 256 := by
 simp [IntKind.wrap, IntKind.signed, IntKind.bits]
theorem Of.loop (qa : Nat) (v : Int) : ∀ (j k : Nat) (x0 : Int) (x1 : List Int), 0 ≤ x0 → x0 < 128 ^ (j + 1) → j < k → x1.length + j < 1000 →
  zx.l2 qa v k x0 x1 = some (x1 ++ viF j x0) := by
 intro j
 induction j with
 | zero =>
  intro k x0 x1 h0 h1 hk hl
  obtain ⟨k, rfl⟩ : ∃ k', k = k' + 1 := ⟨k - 1, by omega⟩
  rw [zx.l2]
  unfold zx.b2
  rw [if_neg (by simp at h1 ⊢; omega), if_pos (by simp [lim]; omega), qgh, show x0 % 256 = x0 from by simp at h1; omega]
  rfl
 | succ j ih =>
  intro k x0 x1 h0 h1 hk hl
  obtain ⟨k, rfl⟩ : ∃ k', k = k' + 1 := ⟨k - 1, by omega⟩
  rw [zx.l2]
  unfold zx.b2
  rw [viF]
  by_cases hc : x0 ≥ 128
  ·rw [if_pos (by simpa using hc), if_pos (by simp [lim]; omega), if_pos hc, qgh, qry _ (by omega) (by omega)]
   rw [show ((2 : Int) ^ (Min.min (Int.toNat (7 : Int)) (IntKind.bits .u64))) = 128 from rfl, Int.fdiv_eq_ediv_of_nonneg _ (by omega)]
   rw [ih k (x0 / 128) _ (by omega) (by rw [Int.pow_succ] at h1; generalize (128 : Int) ^ (j + 1) = M at h1 ⊢; omega) (by omega) (by simp; omega), show x0 % 256 % 128 = x0 % 128 from by omega]
   simp
  ·rw [if_neg (by simpa using hc), if_pos (by simp [lim]; omega), if_neg hc, qgh, show x0 % 256 = x0 from by omega]
theorem Of.pure (v : Int) (h0 : 0 ≤ v) (h1 : v < 18446744073709551616) : zx.f BIG v = some (vi v) := by
 unfold zx.f zx.b vi
 rw [Of.loop BIG v 9 BIG v [] h0 (by simp; omega) (by rw [qaj]; omega) (by simp)]
 rfl
theorem qm9 : ∀ (j : Nat) (v : Int), 1 ≤ (viF j v).length ∧ (viF j v).length ≤ j + 1
 | 0, v => by simp [viF]
 | j + 1, v => by
  rw [viF]
  split
  ·have := qm9 j (v / 128)
   simp; omega
  ·simp
theorem qaq (v : Int) : 1 ≤ (vi v).length ∧ (vi v).length ≤ 10 := qm9 9 v
theorem Raw.pure (l b : List Int) (h : l.length + b.length ≤ 1099511627776) : zW.f BIG l b = some (l ++ b) := by
 unfold zW.f zW.b
 rw [if_pos (by simp [lim]; omega)]
theorem Z4 (n : Int) (h0 : 0 ≤ n) (h1 : n < 18446744073709551616) : IntKind.wrap .u64 n = n := by
 simp [IntKind.wrap, IntKind.signed, IntKind.bits]
 omega
theorem qjk.loop (qa : Nat) (l0 vs : List Int) (hv : ∀ v ∈ vs, 0 ≤ v ∧ v < 9223372036854775808) (hn : vs.length < 1000) : ∀ (k i : Nat) (acc : List Int), i ≤ vs.length → vs.length - i < k → acc.length + 10 * (vs.length - i) ≤ 1099511627776 →
  qi.l2 qa l0 vs k (vs.length : Int) (i : Int) acc = some (acc ++ (vs.drop i).flatMap vi) := by
 intro k
 induction k with
 | zero => intro i acc h1 h2; omega
 | succ k ih =>
  intro i acc h1 h2 h3
  rw [qi.l2]
  unfold qi.b2
  simp only [veil_eq]
  by_cases hi : i < vs.length
  ·rw [if_pos (by simp; omega), Qh, List.getElem?_eq_getElem hi]
   dsimp only
   obtain ⟨v0, v1⟩ := hv vs[i] (List.getElem_mem hi)
   have hl := qaq vs[i]
   rw [Z4 _ v0 (by omega), Of.pure _ v0 (by omega)]
   dsimp only
   rw [Raw.pure _ _ (by omega)]
   dsimp only
   rw [qV _ (by omega) (by omega), show ((i : Int) + 1) = ((i + 1 : Nat) : Int) from by omega, ih (i + 1) _ (by omega) (by omega) (by simp; omega), List.drop_eq_getElem_cons hi, List.flatMap_cons]
   simp
  ·rw [if_neg (by simp; omega), List.drop_of_length_le (by omega)]
   simp
theorem qjk.pure (l vs : List Int) (hv : ∀ v ∈ vs, 0 ≤ v ∧ v < 9223372036854775808) (hn : vs.length < 1000) (hl : l.length + 10 * vs.length ≤ 1099511627776) : qi.f BIG l vs = some (l ++ vs.flatMap vi) := by
 unfold qi.f qi.b
 exact qjk.loop BIG l vs hv hn BIG 0 l (by omega) (by rw [qaj]; omega) (by omega)
def qba (n : Int) : Int := if n ≥ 0 then 2 * n else -2 * n - 1
theorem qpT (a : Int) (h0 : 0 ≤ a) (h1 : a < 18446744073709551616) : bits BinOp.xor .u64 a 0 = a := by
 have e : bits BinOp.xor .u64 a 0 = IntKind.wrap .u64 ((BitVec.ofInt 64 a ^^^ 0#64).toNat : Int) := rfl
 rw [e, BitVec.xor_zero, BitVec.toNat_ofInt, Z4]
 ·omega
 ·omega
 ·omega
theorem qpU (a : Int) (h0 : 0 ≤ a) (h1 : a < 18446744073709551616) : bits BinOp.xor .u64 a 18446744073709551615 = 18446744073709551615 - a := by
 have e : bits BinOp.xor .u64 a 18446744073709551615 = IntKind.wrap .u64 ((BitVec.ofInt 64 a ^^^ BitVec.ofInt 64 18446744073709551615).toNat : Int) := rfl
 rw [e, show BitVec.ofInt 64 18446744073709551615 = BitVec.allOnes 64 from by decide +kernel, BitVec.xor_allOnes, BitVec.toNat_not, BitVec.toNat_ofInt, Z4]
 ·omega
 ·omega
 ·omega
theorem Zig.pure (n : Int) (h0 : -4611686018427387904 ≤ n) (h1 : n < 4611686018427387904) : ZC.f BIG n = some (qba n) := by
 unfold ZC.f ZC.b qba
 rw [show ((2 : Int) ^ (Min.min (Int.toNat (1 : Int)) (IntKind.bits .u64))) = 2 from rfl, show ((2 : Int) ^ (Min.min (Int.toNat (63 : Int)) (IntKind.bits .i64))) = 9223372036854775808 from by decide +kernel, Int.fdiv_eq_ediv_of_nonneg _ (by omega)]
 by_cases h : n ≥ 0
 ·rw [if_pos h, show n / 9223372036854775808 = 0 from by omega, Z4 n (by omega) (by omega), Z4 _ (by omega) (by omega), Z4 0 (by omega) (by omega), qpT _ (by omega) (by omega)]
  congr 1
  omega
 ·rw [if_neg h, show n / 9223372036854775808 = -1 from by omega]
  have e1 : IntKind.wrap .u64 n = n + 18446744073709551616 := by simp [IntKind.wrap, IntKind.signed, IntKind.bits]; omega
  have e2 : IntKind.wrap .u64 ((n + 18446744073709551616) * 2) = 2 * n + 18446744073709551616 := by simp [IntKind.wrap, IntKind.signed, IntKind.bits]; omega
  have e3 : IntKind.wrap .u64 (-1) = 18446744073709551615 := by decide +kernel
  rw [e1, e2, e3, qpU _ (by omega) (by omega)]
  congr 1
  omega
theorem One.pure (t : Int) (d : List Int) (h : d.length ≤ 1099511627776) : qaK.f BIG t d = some (t, d) := by
 unfold qaK.f qaK.b
 rw [if_pos (by simp; omega), if_pos (by simp)]
 simp
theorem qqF.loop (qa : Nat) (b : LF) (b2 : ∀ x ∈ b, x.2.length ≤ 1000000) (hn : b.length < 1000000000) : ∀ (k i : Nat) (acc : LF), i ≤ b.length → b.length - i < k → acc.length ≤ i →
  zL.l3 qa b k (b.length : Int) (i : Int) acc = some (acc ++ b.drop i) := by
 intro k
 induction k with
 | zero => intro i acc h1 h2; omega
 | succ k ih =>
  intro i acc h1 h2 h3
  rw [zL.l3]
  unfold zL.b3
  simp only [veil_eq]
  by_cases hi : i < b.length
  ·rw [if_pos (by simp; omega), Qh, List.getElem?_eq_getElem hi]
   dsimp only
   have hx := b2 b[i] (List.getElem_mem hi)
   rw [One.pure _ _ (by omega)]
   dsimp only
   rw [if_pos (by simp [lim]; omega), qV _ (by omega) (by omega), show ((i : Int) + 1) = ((i + 1 : Nat) : Int) from by omega, ih (i + 1) _ (by omega) (by omega) (by simp; omega), List.drop_eq_getElem_cons hi]
   simp only [List.append_assoc, List.singleton_append]
  ·rw [if_neg (by simp; omega), List.drop_of_length_le (by omega)]
   simp
theorem qqF.pure (b : LF) (hb : ∀ x ∈ b, x.2.length ≤ 1000000) (hn : b.length < 1000000000) : zL.f BIG b = some b := by
 unfold zL.f zL.b
 have := qqF.loop BIG b hb hn BIG 0 [] (by omega) (by rw [qaj]; omega) (by simp)
 rw [show ((0 : Nat) : Int) = 0 from rfl] at this
 rw [this]
 simp
theorem qrM.pure (r : REC) (hb : ∀ x ∈ r.2.2.2.2.2, x.2.length ≤ 1000000) (hn : r.2.2.2.2.2.length < 1000000000) : Z0.f BIG r.1 r.2.1 r.2.2.1 r.2.2.2.1.1 r.2.2.2.1.2 r.2.2.2.2.1 r.2.2.2.2.2 = some (r.1, r.2.1, r.2.2.1, r.2.2.2.1.1, r.2.2.2.1.2, r.2.2.2.2.1, r.2.2.2.2.2) := by
 unfold Z0.f Z0.b
 rw [veil_eq, qqF.pure _ hb hn]
theorem qrn.loop (qa : Nat) (l : LR) (id : Int) (hn : l.length < 1000000000) : ∀ (k i : Nat), i ≤ l.length → l.length - i < k →
  qT.l2 qa l id k (l.length : Int) (i : Int) id = some (((i + (l.drop i).findIdx (fun r => r.1 == id) : Nat) : Int), id) := by
 intro k
 induction k with
 | zero => intro i h1 h2; omega
 | succ k ih =>
  intro i h1 h2
  rw [qT.l2]
  unfold qT.b2
  simp only [veil_eq]
  by_cases hi : i < l.length
  ·rw [if_pos (by simp; omega), Qh, List.getElem?_eq_getElem hi]
   dsimp only
   rw [show ZN.f BIG l[i].1 l[i].2.1 l[i].2.2.1 l[i].2.2.2.1.1 l[i].2.2.2.1.2 l[i].2.2.2.2.1 l[i].2.2.2.2.2 id = some ((l[i].1 == id), id) from rfl]
   dsimp only
   rw [List.drop_eq_getElem_cons hi, List.findIdx_cons]
   cases hc : (l[i].1 == id)
   ·rw [if_neg (by simp), qV _ (by omega) (by omega), show ((i : Int) + 1) = ((i + 1 : Nat) : Int) from by omega, ih (i + 1) (by omega) (by omega)]
    simp only [cond_false]
    congr 2
    omega
   ·rw [if_pos rfl]
    simp
  ·rw [if_neg (by simp; omega), List.drop_of_length_le (by omega)]
   simp
   omega
def zC (qb : LR) (id : Int) : REC × Bool :=
 match qb.find? (fun r => r.1 == id) with
 | some r => (r, true)
 | none => ((0, 0, 0, (0, 0), false, []), false)
theorem qqt (l : LR) (id : Int) : l.find? (fun r => r.1 == id) = l[l.findIdx (fun r => r.1 == id)]? := by
 induction l with
 | nil => rfl
 | cons x l ih =>
  rw [List.find?_cons, List.findIdx_cons]
  cases x.1 == id
  ·simp [ih]
  ·simp
def qmp (l : LR) : Prop := l.length < 1000000000 ∧ ∀ r ∈ l, r.2.2.2.2.2.length < 1000000000 ∧ ∀ x ∈ r.2.2.2.2.2, x.2.length ≤ 1000000
theorem qqE.pure (l : LR) (id : Int) (hl : qmp l) :
  qad.f BIG l id = some ((zC l id).1.1, (zC l id).1.2.1, (zC l id).1.2.2.1, (zC l id).1.2.2.2.1.1, (zC l id).1.2.2.2.1.2, (zC l id).1.2.2.2.2.1, (zC l id).1.2.2.2.2.2, (zC l id).2) := by
 obtain ⟨hn, l2⟩ := hl
 unfold qad.f qad.b
 simp only [veil_eq]
 have hw : qT.f BIG l id = some (((l.findIdx (fun r => r.1 == id) : Nat) : Int), id) := by
  unfold qT.f qT.b
  have := qrn.loop BIG l id hn BIG 0 (by omega) (by rw [qaj]; omega)
  rw [show ((0 : Nat) : Int) = 0 from rfl] at this
  rw [this]
  simp
 rw [hw]
 dsimp only
 unfold zC
 rw [qqt]
 by_cases hi : l.findIdx (fun r => r.1 == id) < l.length
 ·rw [if_neg (by simp; omega), Qh, List.getElem?_eq_getElem hi]
  dsimp only
  have hm := List.getElem_mem hi
  generalize l[l.findIdx (fun r => r.1 == id)] = r at hm ⊢
  rw [qrM.pure r (l2 r hm).2 (l2 r hm).1]
 ·have : l.findIdx (fun r => r.1 == id) = l.length := by have := List.findIdx_le_length (xs := l) (p := fun r => r.1 == id); omega
  rw [if_pos (by rw [this]; simp), List.getElem?_eq_none (by omega)]
def qid : Go.Shelf.Ren where
 f := fun x => match x with
  | 156 => 42
  | 165 => 67
  | 166 => 47
  | 169 => 49
  | 240 => 71
  | 241 => 101
  | 276 => 106
  | 277 => 125
  | n => n
 t := fun x => match x with
  | 31 => 47
  | 9 => 9
  | 3 => 3
  | 4 => 4
  | 0 => 0
  | 20 => 20
  | 72 => 91
  | 76 => 94
  | 70 => 89
  | 37 => 30
  | 75 => 93
  | 127 => 118
  | 164 => 158
  | 5 => 5
  | 80 => 97
  | n => n
 g := fun x => x
theorem qjb : Go.Proofs.Lays.n156 Tryz.prog qid where
 mixed := by kernel_rfl
 f156 := Tryz.func42
 f165 := Tryz.func67
 f166 := Tryz.func47
 f169 := Tryz.func49
 f240 := Tryz.func71
 f241 := Tryz.func101
 f276 := Tryz.func106
 f277 := Tryz.func125
 t0 := Tryz.underlying0
 a0 := Tryz.isAgg0
 z0 := Tryz.sizeOf0
 v0 := Tryz.zeroValue0
 t3 := Tryz.underlying3
 a3 := Tryz.isAgg3
 z3 := Tryz.sizeOf3
 v3 := Tryz.zeroValue3
 t4 := Tryz.underlying4
 a4 := Tryz.isAgg4
 z4 := Tryz.sizeOf4
 v4 := Tryz.zeroValue4
 t9 := Tryz.underlying9
 a9 := Tryz.isAgg9
 z9 := Tryz.sizeOf9
 v9 := Tryz.zeroValue9
 t20 := Tryz.underlying20
 a20 := Tryz.isAgg20
 z20 := Tryz.sizeOf20
 v20 := Tryz.zeroValue20
 t31 := Tryz.underlying47
 a31 := Tryz.isAgg47
 z31 := Tryz.sizeOf47
 v31 := Tryz.zeroValue47
 t37 := Tryz.underlying30
 a37 := Tryz.isAgg30
 z37 := Tryz.sizeOf30
 v37 := Tryz.zeroValue30
 t70 := Tryz.underlying89
 a70 := Tryz.isAgg89
 z70 := Tryz.sizeOf89
 v70 := Tryz.zeroValue89
 t72 := Tryz.underlying91
 a72 := Tryz.isAgg91
 z72 := Tryz.sizeOf91
 v72 := Tryz.zeroValue91
 t75 := Tryz.underlying93
 a75 := Tryz.isAgg93
 z75 := Tryz.sizeOf93
 v75 := Tryz.zeroValue93
 t76 := Tryz.underlying94
 a76 := Tryz.isAgg94
 z76 := Tryz.sizeOf94
 v76 := Tryz.zeroValue94
 t127 := Tryz.underlying118
 a127 := Tryz.isAgg118
 z127 := Tryz.sizeOf118
 v127 := Tryz.zeroValue118
 t164 := Tryz.underlying158
 a164 := Tryz.isAgg158
 z164 := Tryz.sizeOf158
 v164 := Tryz.zeroValue158
theorem qhY : Go.Proofs.Builder.Extra Tryz.prog qid where
 sizeBuilder := by kernel_rfl
 liesBuilder := by kernel_rfl
 t5 := Tryz.underlying5
 a5 := Tryz.isAgg5
 z5 := Tryz.sizeOf5
 v5 := Tryz.zeroValue5
 infoByte := by kernel_rfl
 cellsByte := by kernel_rfl
 sizeByte := by kernel_rfl
 neB5 := by decide
def qfa : Den.Sum := Go.Den.s_join
theorem qiy : SumDet qfa := Go.Den.s_join_det
theorem qjL : SumOk Tryz.prog 42 qfa := Go.Den.s_join_ok qjb qhY Tryz.func42 rfl (by kernel_rfl)
def qf4 : Env := ⟨th, gam [], fun i => if i = 6 then ⟨[0, 3, 4, 5], [], []⟩ else ⟨[], [], []⟩⟩
def zj.k (rs : List AV) (os : List Den.Obj) : Option ByteArray :=
 match rs, os with
 | [.d .str r0], [] => some r0
 | _, _ => none
def zj.s6 (v x0 x1 : Int) (x2 : (List Int)) : St := ⟨[.d tQi (v), .dead, .dead, .ptr 64 0, .d tQi x0, .d (.int .u64) x1, dD, dD, dD, dD, dD, dD, dD, dD, dD, dD, dD, dD, dD, dD, dD, dD, dD, dD, dD, dD, dD, dD, dD, dD, dD, dD, .dead], ofL [(64, .arr 20 (.int .u8) x2)], 0⟩
def zj.p6 (qa : Nat) (v : Int) (k : Nat) := fun x0 x1 x2 => lp qf4 qa Tryz.f22 [.raw] 0 zj.k 6 [] k (zj.s6 v x0 x1 x2)
def zj.b6 (v : Int) (A6 : Int → Int → (List Int) → Option ByteArray) (x0 : Int) (x1 : Int) (x2 : (List Int)) : Option ByteArray :=
 (match (idx x2 (IntKind.wrap .i64 (x0 - (1 : Int)))) with | none => none | some y3 => (match (idx x2 (IntKind.wrap .i64 (x0 - (1 : Int)))) with | none => none | some y4 => (if ((IntKind.wrap .u64 (Int.tdiv x1 (10 : Int))) == (0 : Int)) then (if (decide (v < (0 : Int))) then (match (idx (List.set x2 (Int.toNat (IntKind.wrap .i64 (x0 - (1 : Int)))) (IntKind.wrap .u8 (IntKind.wrap .u64 ((48 : Int) + (Int.tmod x1 (10 : Int)))))) (IntKind.wrap .i64 ((IntKind.wrap .i64 (x0 - (1 : Int))) - (1 : Int)))) with | none => none | some y5 => (match (idx (List.set x2 (Int.toNat (IntKind.wrap .i64 (x0 - (1 : Int)))) (IntKind.wrap .u8 (IntKind.wrap .u64 ((48 : Int) + (Int.tmod x1 (10 : Int)))))) (IntKind.wrap .i64 ((IntKind.wrap .i64 (x0 - (1 : Int))) - (1 : Int)))) with | none => none | some y6 => (if (((0 : Int) ≤ (IntKind.wrap .i64 ((IntKind.wrap .i64 (x0 - (1 : Int))) - (1 : Int)))) ∧ ((IntKind.wrap .i64 ((IntKind.wrap .i64 (x0 - (1 : Int))) - (1 : Int))) ≤ ((((List.length (List.set (List.set x2 (Int.toNat (IntKind.wrap .i64 (x0 - (1 : Int)))) (IntKind.wrap .u8 (IntKind.wrap .u64 ((48 : Int) + (Int.tmod x1 (10 : Int)))))) (Int.toNat (IntKind.wrap .i64 ((IntKind.wrap .i64 (x0 - (1 : Int))) - (1 : Int)))) (45 : Int)))) : Nat) : Int))) then some ((strOf (List.drop (Int.toNat (IntKind.wrap .i64 ((IntKind.wrap .i64 (x0 - (1 : Int))) - (1 : Int)))) (List.take (List.length (List.set (List.set x2 (Int.toNat (IntKind.wrap .i64 (x0 - (1 : Int)))) (IntKind.wrap .u8 (IntKind.wrap .u64 ((48 : Int) + (Int.tmod x1 (10 : Int)))))) (Int.toNat (IntKind.wrap .i64 ((IntKind.wrap .i64 (x0 - (1 : Int))) - (1 : Int)))) (45 : Int))) (List.set (List.set x2 (Int.toNat (IntKind.wrap .i64 (x0 - (1 : Int)))) (IntKind.wrap .u8 (IntKind.wrap .u64 ((48 : Int) + (Int.tmod x1 (10 : Int)))))) (Int.toNat (IntKind.wrap .i64 ((IntKind.wrap .i64 (x0 - (1 : Int))) - (1 : Int)))) (45 : Int)))))) else none))) else (if (((0 : Int) ≤ (IntKind.wrap .i64 (x0 - (1 : Int)))) ∧ ((IntKind.wrap .i64 (x0 - (1 : Int))) ≤ ((((List.length (List.set x2 (Int.toNat (IntKind.wrap .i64 (x0 - (1 : Int)))) (IntKind.wrap .u8 (IntKind.wrap .u64 ((48 : Int) + (Int.tmod x1 (10 : Int)))))))) : Nat) : Int))) then some ((strOf (List.drop (Int.toNat (IntKind.wrap .i64 (x0 - (1 : Int)))) (List.take (List.length (List.set x2 (Int.toNat (IntKind.wrap .i64 (x0 - (1 : Int)))) (IntKind.wrap .u8 (IntKind.wrap .u64 ((48 : Int) + (Int.tmod x1 (10 : Int))))))) (List.set x2 (Int.toNat (IntKind.wrap .i64 (x0 - (1 : Int)))) (IntKind.wrap .u8 (IntKind.wrap .u64 ((48 : Int) + (Int.tmod x1 (10 : Int)))))))))) else none)) else A6 (IntKind.wrap .i64 (x0 - (1 : Int))) (IntKind.wrap .u64 (Int.tdiv x1 (10 : Int))) (List.set x2 (Int.toNat (IntKind.wrap .i64 (x0 - (1 : Int)))) (IntKind.wrap .u8 (IntKind.wrap .u64 ((48 : Int) + (Int.tmod x1 (10 : Int)))))))))
def zj.l6 (qa : Nat) (v : Int) : Nat → Int → Int → (List Int) → Option ByteArray
 | 0, _, _, _ => none
 | k + 1, x0, x1, x2 => zj.b6 v (zj.l6 qa v k) x0 x1 x2
def zj.b (v : Int) (E6 : Int → Int → (List Int) → Option ByteArray) : Option ByteArray :=
 (if (decide (v < (0 : Int))) then E6 (20 : Int) (IntKind.wrap .u64 ((0 : Int) - (IntKind.wrap .u64 v))) (List.replicate (20 : Nat) (zeroI (Go.Den.Ty.int .u8))) else E6 (20 : Int) (IntKind.wrap .u64 v) (List.replicate (20 : Nat) (zeroI (Go.Den.Ty.int .u8))))
def zj.f (qa : Nat) (v : Int) : Option ByteArray := zj.b v (zj.l6 qa v qa)
theorem zj.l6_eq (qa : Nat) (v : Int) : ∀ k : Nat, zj.p6 qa v k = zj.l6 qa v k
 | 0 => by kernel_rfl
 | k + 1 => by
  refine Eq.trans (b := zj.b6 v (zj.p6 qa v k)) (by kernel_rfl) ?_
  rw [zj.l6_eq qa v k]
  kernel_rfl
theorem zj.eq (qa : Nat) (v : Int) : (denF qf4 loopN qa Tryz.f22 [.raw] [.d tQi v] [] zj.k) = zj.f qa v := by
 refine Eq.trans (b := zj.b v (zj.p6 qa v qa)) (by kernel_rfl) ?_
 rw [zj.l6_eq qa v qa]
 kernel_rfl
def QU : Den.Sum := ⟨[.raw], fun qH ql κ => match qH, ql with
 | [.d (.int .i64) v], [] => (match veil (zj.f BIG v) with | none => none | some y => κ [.d .str y] [])
 | _, _ => none⟩
theorem qbx : SumDet QU := zi fun _ _ _ _ => by
 unfold QU
 simp only [veil_eq]
 split
 ·split <;> rfl
 ·rfl
theorem qbU : SumOk Tryz.prog 22 QU := by
 have hE : EnvOk Tryz.prog qf4 := env_ok (l := []) th_ok qX trivial _
 refine sum_ok hE Tryz.func22 rfl (by kernel_rfl) QU [.raw] zj.k ?_
 intro R avs ql κ r h
 unfold QU at h
 simp only [veil_eq] at h
 split at h
 ·rename_i v
  split at h
  ·cases h
  ·rename_i y hy
   refine ⟨BIG, _, _, _, (zj.eq BIG v).trans hy, ?_, h⟩
   intro rs ros hk
   unfold zj.k at hk
   split at hk
   ·rw [← sj hk]; exact ⟨rfl, rfl⟩
   ·cases hk
 ·cases h
def qj8 : Env := ⟨th, gam [], fun i => ⟨[], [], []⟩⟩
def Qn.k (rs : List AV) (os : List Den.Obj) : Option ByteArray :=
 match rs, os with
 | [.d .str r0], [] => some r0
 | _, _ => none
def Qn.b (t : ByteArray) : Option ByteArray :=
 (if ((ByteArray.toList t) == (ByteArray.toList (⟨(([] : List UInt8)).toArray⟩ : ByteArray))) then some ((⟨((63 :: ([] : List UInt8))).toArray⟩ : ByteArray)) else some (t))
def Qn.f (qa : Nat) (t : ByteArray) : Option ByteArray := Qn.b t
theorem Qn.eq (qa : Nat) (t : ByteArray) : (denF qj8 loopN qa Tryz.f38 [.raw] [.d .str t] [] Qn.k) = Qn.f qa t := by
 kernel_rfl
def qa1 : Den.Sum := ⟨[.raw], fun qH ql κ => match qH, ql with
 | [.d .str t], [] => (match veil (Qn.f BIG t) with | none => none | some y => κ [.d .str y] [])
 | _, _ => none⟩
theorem qgp : SumDet qa1 := zi fun _ _ _ _ => by
 unfold qa1
 simp only [veil_eq]
 split
 ·split <;> rfl
 ·rfl
theorem qhj : SumOk Tryz.prog 38 qa1 := by
 have hE : EnvOk Tryz.prog qj8 := env_ok (l := []) th_ok qX trivial _
 refine sum_ok hE Tryz.func38 rfl (by kernel_rfl) qa1 [.raw] Qn.k ?_
 intro R avs ql κ r h
 unfold qa1 at h
 simp only [veil_eq] at h
 split at h
 ·rename_i t
  split at h
  ·cases h
  ·rename_i y hy
   refine ⟨BIG, _, _, _, (Qn.eq BIG t).trans hy, ?_, h⟩
   intro rs ros hk
   unfold Qn.k at hk
   split at hk
   ·rw [← sj hk]; exact ⟨rfl, rfl⟩
   ·cases hk
 ·cases h
def qhp : Env := ⟨th, gam [], fun i => ⟨[], [], []⟩⟩
def Q6.k (rs : List AV) (os : List Den.Obj) : Option (List ByteArray) :=
 match rs, os with
 | [.d (.arr 18 .str) r0], [] => some r0
 | _, _ => none
def Q6.b (u : Unit) : Option (List ByteArray) :=
 some (((⟨((111 :: (107 :: ([] : List UInt8)))).toArray⟩ : ByteArray) :: ((⟨((97 :: (114 :: (103 :: ([] : List UInt8))))).toArray⟩ : ByteArray) :: ((⟨((115 :: (104 :: (111 :: (114 :: (116 :: ([] : List UInt8))))))).toArray⟩ : ByteArray) :: ((⟨((108 :: (111 :: (110 :: (103 :: ([] : List UInt8)))))).toArray⟩ : ByteArray) :: ((⟨((102 :: (111 :: (114 :: (109 :: ([] : List UInt8)))))).toArray⟩ : ByteArray) :: ((⟨((114 :: (97 :: (110 :: (103 :: (101 :: ([] : List UInt8))))))).toArray⟩ : ByteArray) :: ((⟨((102 :: (117 :: (108 :: (108 :: ([] : List UInt8)))))).toArray⟩ : ByteArray) :: ((⟨((110 :: (111 :: (110 :: (101 :: ([] : List UInt8)))))).toArray⟩ : ByteArray) :: ((⟨((115 :: (117 :: (109 :: ([] : List UInt8))))).toArray⟩ : ByteArray) :: ((⟨((103 :: (101 :: (110 :: ([] : List UInt8))))).toArray⟩ : ByteArray) :: ((⟨((107 :: (105 :: (110 :: (100 :: ([] : List UInt8)))))).toArray⟩ : ByteArray) :: ((⟨((111 :: (114 :: (100 :: (101 :: (114 :: ([] : List UInt8))))))).toArray⟩ : ByteArray) :: ((⟨((98 :: (97 :: (115 :: (101 :: ([] : List UInt8)))))).toArray⟩ : ByteArray) :: ((⟨((112 :: (101 :: (101 :: (114 :: ([] : List UInt8)))))).toArray⟩ : ByteArray) :: ((⟨((114 :: (101 :: (112 :: ([] : List UInt8))))).toArray⟩ : ByteArray) :: ((⟨((115 :: (116 :: (97 :: (116 :: (101 :: ([] : List UInt8))))))).toArray⟩ : ByteArray) :: ((⟨((119 :: (111 :: (114 :: (100 :: ([] : List UInt8)))))).toArray⟩ : ByteArray) :: ((⟨((109 :: (111 :: (118 :: (101 :: ([] : List UInt8)))))).toArray⟩ : ByteArray) :: ([] : List ByteArray))))))))))))))))))))
def Q6.f (qa : Nat) (u : Unit) : Option (List ByteArray) := Q6.b u
theorem Q6.eq (qa : Nat) (u : Unit) : (denF qhp loopN qa Tryz.f69 [.raw] [] [] Q6.k) = Q6.f qa u := by
 kernel_rfl
def qaS : Den.Sum := ⟨[], fun qH ql κ => match qH, ql with
 | [], [] => (match veil (Q6.f BIG ()) with | none => none | some y => κ [.d (.arr 18 .str) y] [])
 | _, _ => none⟩
theorem qik : SumDet qaS := zi fun _ _ _ _ => by
 unfold qaS
 simp only [veil_eq]
 split
 ·split <;> rfl
 ·rfl
theorem qi1 : SumOk Tryz.prog 69 qaS := by
 have hE : EnvOk Tryz.prog qhp := env_ok (l := []) th_ok qX trivial _
 refine sum_ok hE Tryz.func69 rfl (by kernel_rfl) qaS [.raw] Q6.k ?_
 intro R avs ql κ r h
 unfold qaS at h
 simp only [veil_eq] at h
 split at h
 ·skip
  split at h
  ·cases h
  ·rename_i y hy
   refine ⟨BIG, _, _, _, (Q6.eq BIG ()).trans hy, ?_, h⟩
   intro rs ros hk
   unfold Q6.k at hk
   split at hk
   ·rw [← sj hk]; exact ⟨rfl, rfl⟩
   ·cases hk
 ·cases h
def qg1 : Env := ⟨th, gam [(78, qbT), (79, qcR), (80, qaD), (82, qbW), (41, qaa), (119, QR), (120, ZV)], fun i => if i = 19 then ⟨[1, 5, 6, 78, 79, 80], [(1, 53, tQr)], [1]⟩ else ⟨[], [], []⟩⟩
def zF.k (rs : List AV) (os : List Den.Obj) : Option (List Int) :=
 match rs, os with
 | [.d (.sl (.int .u8)) r0], [] => some r0
 | _, _ => none
def zF.s19 (qm qB qM qf qg qL qj qA qo qw : Int) (qh qb x6 : LR) (x7 x8 x9 : Int) (x10 : (List Int)) : St := ⟨[.dead, .d (.sl tQr) x6, dD, dD, dD, .ptr 64 0, .d tQi x7, dD, dD, dD, dD, dD, dD, dD, dD, dD, dD, dD, dD, dD, dD, dD, dD, dD, dD, dD, dD, dD, dD, dD, dD, dD, dD, dD, dD, dD, dD, dD, dD, dD, dD, dD, dD, dD, dD, dD, dD, dD, dD, dD, dD, dD, dD, dD, dD, dD, dD, dD, dD, dD, dD, dD, dD, dD, dD, dD, dD, dD, dD, dD, dD, dD, dD, dD, dD, dD, dD, dD, .d (.sl tQr) (qh), .d tQi x8, .d tQi x9, dD, dD, dD, dD, dD, dD, dD, dD, dD, dD, dD, dD, dD, dD, dD, dD, dD, .dead], ofL [(64, .box [.ptr 65 0]), (65, .box [.row 66, .d .bool (false)]), (66, .row 5 (.int .u8) x10 false)], 0⟩
def zF.p19 (qa : Nat) (qm qB qM qf qg qL qj qA qo qw : Int) (qh qb : LR) (k : Nat) := fun x6 x7 x8 x9 x10 => lp qg1 qa Tryz.f97 [.own 5 (.int .u8)] 0 zF.k 19 [] k (zF.s19 qm qB qM qf qg qL qj qA qo qw qh qb x6 x7 x8 x9 x10)
def zF.b19 (qm qB qM qf qg qL qj qA qo qw : Int) (qh qb : LR) (A19 : LR → Int → Int → Int → (List Int) → Option (List Int)) (x6 : LR) (x7 : Int) (x8 : Int) (x9 : Int) (x10 : (List Int)) : Option (List Int) :=
 (if (decide (x9 < x8)) then (match (idx qh x9) with | none => none | some y11 => (match (veil (qc.f BIG x10 y11.1 y11.2.1 y11.2.2.1 y11.2.2.2.1.1 y11.2.2.2.1.2 y11.2.2.2.2.1 y11.2.2.2.2.2 x7 x6)) with | none => none | some y12 => A19 x6 y11.1 x8 (IntKind.wrap .i64 (x9 + (1 : Int))) y12)) else (if (Zf x10) then some (x10) else none))
def zF.l19 (qa : Nat) (qm qB qM qf qg qL qj qA qo qw : Int) (qh qb : LR) : Nat → LR → Int → Int → Int → (List Int) → Option (List Int)
 | 0, _, _, _, _, _ => none
 | k + 1, x6, x7, x8, x9, x10 => zF.b19 qm qB qM qf qg qL qj qA qo qw qh qb (zF.l19 qa qm qB qM qf qg qL qj qA qo qw qh qb k) x6 x7 x8 x9 x10
def zF.b (qm qB qM qf qg qL qj qA qo qw : Int) (qh qb : LR) (E19 : LR → Int → Int → Int → (List Int) → Option (List Int)) : Option (List Int) :=
 (if (qw == (0 : Int)) then (if (z8 (1 : Int) qm) then (match (veil (qi.f BIG (be (Int.toNat (1 : Int)) qm) (qB :: (qM :: ([] : List Int))))) with | none => none | some y0 => (if ((z8 (1 : Int) (Qk qf qg)) ∧ (Zf y0)) then (if (qv qm (0 : Int)) then (match (veil (qi.f BIG (y0 ++ (be (Int.toNat (1 : Int)) (Qk qf qg))) (qL :: ([] : List Int)))) with | none => none | some y1 => (if (qv qm (1 : Int)) then (match (veil (qi.f BIG y1 (qj :: ([] : List Int)))) with | none => none | some y2 => (if (qv qm (2 : Int)) then (match (veil (qi.f BIG y2 (qA :: (qo :: ([] : List Int))))) with | none => none | some y3 => (if (qv qm (3 : Int)) then (match (veil (qi.f BIG y3 (qw :: ([] : List Int)))) with | none => none | some y4 => (if (qv qm (4 : Int)) then (match (veil (qi.f BIG y4 (((((List.length qh)) : Nat) : Int) :: ([] : List Int)))) with | none => none | some y5 => E19 ([] : LR) (-(1 : Int)) ((((List.length qh)) : Nat) : Int) (0 : Int) y5) else E19 ([] : LR) (-(1 : Int)) ((((List.length qh)) : Nat) : Int) (0 : Int) y4)) else (if (qv qm (4 : Int)) then (match (veil (qi.f BIG y3 (((((List.length qh)) : Nat) : Int) :: ([] : List Int)))) with | none => none | some y13 => E19 ([] : LR) (-(1 : Int)) ((((List.length qh)) : Nat) : Int) (0 : Int) y13) else E19 ([] : LR) (-(1 : Int)) ((((List.length qh)) : Nat) : Int) (0 : Int) y3))) else (if (qv qm (3 : Int)) then (match (veil (qi.f BIG y2 (qw :: ([] : List Int)))) with | none => none | some y14 => (if (qv qm (4 : Int)) then (match (veil (qi.f BIG y14 (((((List.length qh)) : Nat) : Int) :: ([] : List Int)))) with | none => none | some y15 => E19 ([] : LR) (-(1 : Int)) ((((List.length qh)) : Nat) : Int) (0 : Int) y15) else E19 ([] : LR) (-(1 : Int)) ((((List.length qh)) : Nat) : Int) (0 : Int) y14)) else (if (qv qm (4 : Int)) then (match (veil (qi.f BIG y2 (((((List.length qh)) : Nat) : Int) :: ([] : List Int)))) with | none => none | some y16 => E19 ([] : LR) (-(1 : Int)) ((((List.length qh)) : Nat) : Int) (0 : Int) y16) else E19 ([] : LR) (-(1 : Int)) ((((List.length qh)) : Nat) : Int) (0 : Int) y2)))) else (if (qv qm (2 : Int)) then (match (veil (qi.f BIG y1 (qA :: (qo :: ([] : List Int))))) with | none => none | some y17 => (if (qv qm (3 : Int)) then (match (veil (qi.f BIG y17 (qw :: ([] : List Int)))) with | none => none | some y18 => (if (qv qm (4 : Int)) then (match (veil (qi.f BIG y18 (((((List.length qh)) : Nat) : Int) :: ([] : List Int)))) with | none => none | some y19 => E19 ([] : LR) (-(1 : Int)) ((((List.length qh)) : Nat) : Int) (0 : Int) y19) else E19 ([] : LR) (-(1 : Int)) ((((List.length qh)) : Nat) : Int) (0 : Int) y18)) else (if (qv qm (4 : Int)) then (match (veil (qi.f BIG y17 (((((List.length qh)) : Nat) : Int) :: ([] : List Int)))) with | none => none | some y20 => E19 ([] : LR) (-(1 : Int)) ((((List.length qh)) : Nat) : Int) (0 : Int) y20) else E19 ([] : LR) (-(1 : Int)) ((((List.length qh)) : Nat) : Int) (0 : Int) y17))) else (if (qv qm (3 : Int)) then (match (veil (qi.f BIG y1 (qw :: ([] : List Int)))) with | none => none | some y21 => (if (qv qm (4 : Int)) then (match (veil (qi.f BIG y21 (((((List.length qh)) : Nat) : Int) :: ([] : List Int)))) with | none => none | some y22 => E19 ([] : LR) (-(1 : Int)) ((((List.length qh)) : Nat) : Int) (0 : Int) y22) else E19 ([] : LR) (-(1 : Int)) ((((List.length qh)) : Nat) : Int) (0 : Int) y21)) else (if (qv qm (4 : Int)) then (match (veil (qi.f BIG y1 (((((List.length qh)) : Nat) : Int) :: ([] : List Int)))) with | none => none | some y23 => E19 ([] : LR) (-(1 : Int)) ((((List.length qh)) : Nat) : Int) (0 : Int) y23) else E19 ([] : LR) (-(1 : Int)) ((((List.length qh)) : Nat) : Int) (0 : Int) y1))))) else (if (qv qm (1 : Int)) then (match (veil (qi.f BIG (y0 ++ (be (Int.toNat (1 : Int)) (Qk qf qg))) (qj :: ([] : List Int)))) with | none => none | some y24 => (if (qv qm (2 : Int)) then (match (veil (qi.f BIG y24 (qA :: (qo :: ([] : List Int))))) with | none => none | some y25 => (if (qv qm (3 : Int)) then (match (veil (qi.f BIG y25 (qw :: ([] : List Int)))) with | none => none | some y26 => (if (qv qm (4 : Int)) then (match (veil (qi.f BIG y26 (((((List.length qh)) : Nat) : Int) :: ([] : List Int)))) with | none => none | some y27 => E19 ([] : LR) (-(1 : Int)) ((((List.length qh)) : Nat) : Int) (0 : Int) y27) else E19 ([] : LR) (-(1 : Int)) ((((List.length qh)) : Nat) : Int) (0 : Int) y26)) else (if (qv qm (4 : Int)) then (match (veil (qi.f BIG y25 (((((List.length qh)) : Nat) : Int) :: ([] : List Int)))) with | none => none | some y28 => E19 ([] : LR) (-(1 : Int)) ((((List.length qh)) : Nat) : Int) (0 : Int) y28) else E19 ([] : LR) (-(1 : Int)) ((((List.length qh)) : Nat) : Int) (0 : Int) y25))) else (if (qv qm (3 : Int)) then (match (veil (qi.f BIG y24 (qw :: ([] : List Int)))) with | none => none | some y29 => (if (qv qm (4 : Int)) then (match (veil (qi.f BIG y29 (((((List.length qh)) : Nat) : Int) :: ([] : List Int)))) with | none => none | some y30 => E19 ([] : LR) (-(1 : Int)) ((((List.length qh)) : Nat) : Int) (0 : Int) y30) else E19 ([] : LR) (-(1 : Int)) ((((List.length qh)) : Nat) : Int) (0 : Int) y29)) else (if (qv qm (4 : Int)) then (match (veil (qi.f BIG y24 (((((List.length qh)) : Nat) : Int) :: ([] : List Int)))) with | none => none | some y31 => E19 ([] : LR) (-(1 : Int)) ((((List.length qh)) : Nat) : Int) (0 : Int) y31) else E19 ([] : LR) (-(1 : Int)) ((((List.length qh)) : Nat) : Int) (0 : Int) y24)))) else (if (qv qm (2 : Int)) then (match (veil (qi.f BIG (y0 ++ (be (Int.toNat (1 : Int)) (Qk qf qg))) (qA :: (qo :: ([] : List Int))))) with | none => none | some y32 => (if (qv qm (3 : Int)) then (match (veil (qi.f BIG y32 (qw :: ([] : List Int)))) with | none => none | some y33 => (if (qv qm (4 : Int)) then (match (veil (qi.f BIG y33 (((((List.length qh)) : Nat) : Int) :: ([] : List Int)))) with | none => none | some y34 => E19 ([] : LR) (-(1 : Int)) ((((List.length qh)) : Nat) : Int) (0 : Int) y34) else E19 ([] : LR) (-(1 : Int)) ((((List.length qh)) : Nat) : Int) (0 : Int) y33)) else (if (qv qm (4 : Int)) then (match (veil (qi.f BIG y32 (((((List.length qh)) : Nat) : Int) :: ([] : List Int)))) with | none => none | some y35 => E19 ([] : LR) (-(1 : Int)) ((((List.length qh)) : Nat) : Int) (0 : Int) y35) else E19 ([] : LR) (-(1 : Int)) ((((List.length qh)) : Nat) : Int) (0 : Int) y32))) else (if (qv qm (3 : Int)) then (match (veil (qi.f BIG (y0 ++ (be (Int.toNat (1 : Int)) (Qk qf qg))) (qw :: ([] : List Int)))) with | none => none | some y36 => (if (qv qm (4 : Int)) then (match (veil (qi.f BIG y36 (((((List.length qh)) : Nat) : Int) :: ([] : List Int)))) with | none => none | some y37 => E19 ([] : LR) (-(1 : Int)) ((((List.length qh)) : Nat) : Int) (0 : Int) y37) else E19 ([] : LR) (-(1 : Int)) ((((List.length qh)) : Nat) : Int) (0 : Int) y36)) else (if (qv qm (4 : Int)) then (match (veil (qi.f BIG (y0 ++ (be (Int.toNat (1 : Int)) (Qk qf qg))) (((((List.length qh)) : Nat) : Int) :: ([] : List Int)))) with | none => none | some y38 => E19 ([] : LR) (-(1 : Int)) ((((List.length qh)) : Nat) : Int) (0 : Int) y38) else E19 ([] : LR) (-(1 : Int)) ((((List.length qh)) : Nat) : Int) (0 : Int) (y0 ++ (be (Int.toNat (1 : Int)) (Qk qf qg)))))))) else none)) else none) else (if (z8 (1 : Int) qm) then (match (veil (qi.f BIG (be (Int.toNat (1 : Int)) qm) (qB :: (qM :: ([] : List Int))))) with | none => none | some y39 => (if ((z8 (1 : Int) (Qk qf qg)) ∧ (Zf y39)) then (if (qv qm (0 : Int)) then (match (veil (qi.f BIG (y39 ++ (be (Int.toNat (1 : Int)) (Qk qf qg))) (qL :: ([] : List Int)))) with | none => none | some y40 => (if (qv qm (1 : Int)) then (match (veil (qi.f BIG y40 (qj :: ([] : List Int)))) with | none => none | some y41 => (if (qv qm (2 : Int)) then (match (veil (qi.f BIG y41 (qA :: (qo :: ([] : List Int))))) with | none => none | some y42 => (if (qv qm (3 : Int)) then (match (veil (qi.f BIG y42 (qw :: ([] : List Int)))) with | none => none | some y43 => (if (qv qm (4 : Int)) then (match (veil (qi.f BIG y43 (((((List.length qh)) : Nat) : Int) :: ([] : List Int)))) with | none => none | some y44 => E19 qb (-(1 : Int)) ((((List.length qh)) : Nat) : Int) (0 : Int) y44) else E19 qb (-(1 : Int)) ((((List.length qh)) : Nat) : Int) (0 : Int) y43)) else (if (qv qm (4 : Int)) then (match (veil (qi.f BIG y42 (((((List.length qh)) : Nat) : Int) :: ([] : List Int)))) with | none => none | some y45 => E19 qb (-(1 : Int)) ((((List.length qh)) : Nat) : Int) (0 : Int) y45) else E19 qb (-(1 : Int)) ((((List.length qh)) : Nat) : Int) (0 : Int) y42))) else (if (qv qm (3 : Int)) then (match (veil (qi.f BIG y41 (qw :: ([] : List Int)))) with | none => none | some y46 => (if (qv qm (4 : Int)) then (match (veil (qi.f BIG y46 (((((List.length qh)) : Nat) : Int) :: ([] : List Int)))) with | none => none | some y47 => E19 qb (-(1 : Int)) ((((List.length qh)) : Nat) : Int) (0 : Int) y47) else E19 qb (-(1 : Int)) ((((List.length qh)) : Nat) : Int) (0 : Int) y46)) else (if (qv qm (4 : Int)) then (match (veil (qi.f BIG y41 (((((List.length qh)) : Nat) : Int) :: ([] : List Int)))) with | none => none | some y48 => E19 qb (-(1 : Int)) ((((List.length qh)) : Nat) : Int) (0 : Int) y48) else E19 qb (-(1 : Int)) ((((List.length qh)) : Nat) : Int) (0 : Int) y41)))) else (if (qv qm (2 : Int)) then (match (veil (qi.f BIG y40 (qA :: (qo :: ([] : List Int))))) with | none => none | some y49 => (if (qv qm (3 : Int)) then (match (veil (qi.f BIG y49 (qw :: ([] : List Int)))) with | none => none | some y50 => (if (qv qm (4 : Int)) then (match (veil (qi.f BIG y50 (((((List.length qh)) : Nat) : Int) :: ([] : List Int)))) with | none => none | some y51 => E19 qb (-(1 : Int)) ((((List.length qh)) : Nat) : Int) (0 : Int) y51) else E19 qb (-(1 : Int)) ((((List.length qh)) : Nat) : Int) (0 : Int) y50)) else (if (qv qm (4 : Int)) then (match (veil (qi.f BIG y49 (((((List.length qh)) : Nat) : Int) :: ([] : List Int)))) with | none => none | some y52 => E19 qb (-(1 : Int)) ((((List.length qh)) : Nat) : Int) (0 : Int) y52) else E19 qb (-(1 : Int)) ((((List.length qh)) : Nat) : Int) (0 : Int) y49))) else (if (qv qm (3 : Int)) then (match (veil (qi.f BIG y40 (qw :: ([] : List Int)))) with | none => none | some y53 => (if (qv qm (4 : Int)) then (match (veil (qi.f BIG y53 (((((List.length qh)) : Nat) : Int) :: ([] : List Int)))) with | none => none | some y54 => E19 qb (-(1 : Int)) ((((List.length qh)) : Nat) : Int) (0 : Int) y54) else E19 qb (-(1 : Int)) ((((List.length qh)) : Nat) : Int) (0 : Int) y53)) else (if (qv qm (4 : Int)) then (match (veil (qi.f BIG y40 (((((List.length qh)) : Nat) : Int) :: ([] : List Int)))) with | none => none | some y55 => E19 qb (-(1 : Int)) ((((List.length qh)) : Nat) : Int) (0 : Int) y55) else E19 qb (-(1 : Int)) ((((List.length qh)) : Nat) : Int) (0 : Int) y40))))) else (if (qv qm (1 : Int)) then (match (veil (qi.f BIG (y39 ++ (be (Int.toNat (1 : Int)) (Qk qf qg))) (qj :: ([] : List Int)))) with | none => none | some y56 => (if (qv qm (2 : Int)) then (match (veil (qi.f BIG y56 (qA :: (qo :: ([] : List Int))))) with | none => none | some y57 => (if (qv qm (3 : Int)) then (match (veil (qi.f BIG y57 (qw :: ([] : List Int)))) with | none => none | some y58 => (if (qv qm (4 : Int)) then (match (veil (qi.f BIG y58 (((((List.length qh)) : Nat) : Int) :: ([] : List Int)))) with | none => none | some y59 => E19 qb (-(1 : Int)) ((((List.length qh)) : Nat) : Int) (0 : Int) y59) else E19 qb (-(1 : Int)) ((((List.length qh)) : Nat) : Int) (0 : Int) y58)) else (if (qv qm (4 : Int)) then (match (veil (qi.f BIG y57 (((((List.length qh)) : Nat) : Int) :: ([] : List Int)))) with | none => none | some y60 => E19 qb (-(1 : Int)) ((((List.length qh)) : Nat) : Int) (0 : Int) y60) else E19 qb (-(1 : Int)) ((((List.length qh)) : Nat) : Int) (0 : Int) y57))) else (if (qv qm (3 : Int)) then (match (veil (qi.f BIG y56 (qw :: ([] : List Int)))) with | none => none | some y61 => (if (qv qm (4 : Int)) then (match (veil (qi.f BIG y61 (((((List.length qh)) : Nat) : Int) :: ([] : List Int)))) with | none => none | some y62 => E19 qb (-(1 : Int)) ((((List.length qh)) : Nat) : Int) (0 : Int) y62) else E19 qb (-(1 : Int)) ((((List.length qh)) : Nat) : Int) (0 : Int) y61)) else (if (qv qm (4 : Int)) then (match (veil (qi.f BIG y56 (((((List.length qh)) : Nat) : Int) :: ([] : List Int)))) with | none => none | some y63 => E19 qb (-(1 : Int)) ((((List.length qh)) : Nat) : Int) (0 : Int) y63) else E19 qb (-(1 : Int)) ((((List.length qh)) : Nat) : Int) (0 : Int) y56)))) else (if (qv qm (2 : Int)) then (match (veil (qi.f BIG (y39 ++ (be (Int.toNat (1 : Int)) (Qk qf qg))) (qA :: (qo :: ([] : List Int))))) with | none => none | some y64 => (if (qv qm (3 : Int)) then (match (veil (qi.f BIG y64 (qw :: ([] : List Int)))) with | none => none | some y65 => (if (qv qm (4 : Int)) then (match (veil (qi.f BIG y65 (((((List.length qh)) : Nat) : Int) :: ([] : List Int)))) with | none => none | some y66 => E19 qb (-(1 : Int)) ((((List.length qh)) : Nat) : Int) (0 : Int) y66) else E19 qb (-(1 : Int)) ((((List.length qh)) : Nat) : Int) (0 : Int) y65)) else (if (qv qm (4 : Int)) then (match (veil (qi.f BIG y64 (((((List.length qh)) : Nat) : Int) :: ([] : List Int)))) with | none => none | some y67 => E19 qb (-(1 : Int)) ((((List.length qh)) : Nat) : Int) (0 : Int) y67) else E19 qb (-(1 : Int)) ((((List.length qh)) : Nat) : Int) (0 : Int) y64))) else (if (qv qm (3 : Int)) then (match (veil (qi.f BIG (y39 ++ (be (Int.toNat (1 : Int)) (Qk qf qg))) (qw :: ([] : List Int)))) with | none => none | some y68 => (if (qv qm (4 : Int)) then (match (veil (qi.f BIG y68 (((((List.length qh)) : Nat) : Int) :: ([] : List Int)))) with | none => none | some y69 => E19 qb (-(1 : Int)) ((((List.length qh)) : Nat) : Int) (0 : Int) y69) else E19 qb (-(1 : Int)) ((((List.length qh)) : Nat) : Int) (0 : Int) y68)) else (if (qv qm (4 : Int)) then (match (veil (qi.f BIG (y39 ++ (be (Int.toNat (1 : Int)) (Qk qf qg))) (((((List.length qh)) : Nat) : Int) :: ([] : List Int)))) with | none => none | some y70 => E19 qb (-(1 : Int)) ((((List.length qh)) : Nat) : Int) (0 : Int) y70) else E19 qb (-(1 : Int)) ((((List.length qh)) : Nat) : Int) (0 : Int) (y39 ++ (be (Int.toNat (1 : Int)) (Qk qf qg)))))))) else none)) else none))
def zF.f (qa : Nat) (qm qB qM qf qg qL qj qA qo qw : Int) (qh qb : LR) : Option (List Int) := zF.b qm qB qM qf qg qL qj qA qo qw qh qb (zF.l19 qa qm qB qM qf qg qL qj qA qo qw qh qb qa)
theorem zF.l19_eq (qa : Nat) (qm qB qM qf qg qL qj qA qo qw : Int) (qh qb : LR) : ∀ k : Nat, zF.p19 qa qm qB qM qf qg qL qj qA qo qw qh qb k = zF.l19 qa qm qB qM qf qg qL qj qA qo qw qh qb k
 | 0 => by kernel_rfl
 | k + 1 => by
  refine Eq.trans (b := zF.b19 qm qB qM qf qg qL qj qA qo qw qh qb (zF.p19 qa qm qB qM qf qg qL qj qA qo qw qh qb k)) (by kernel_rfl) ?_
  rw [zF.l19_eq qa qm qB qM qf qg qL qj qA qo qw qh qb k]
  kernel_rfl
theorem zF.eq (qa : Nat) (qm qB qM qf qg qL qj qA qo qw : Int) (qh qb : LR) : (denF qg1 loopN qa Tryz.f97 [.own 5 (.int .u8)] [.agg [.d tQi qm, .d tQi qB, .d tQi qM, .d tQi qf, .d tQi qg, .d tQi qL, .d tQi qj, .d tQi qA, .d tQi qo, .d tQi qw, .d (.sl tQr) qh], .d (.sl tQr) qb] [] zF.k) = zF.f qa qm qB qM qf qg qL qj qA qo qw qh qb := by
 refine Eq.trans (b := zF.b qm qB qM qf qg qL qj qA qo qw qh qb (zF.p19 qa qm qB qM qf qg qL qj qA qo qw qh qb qa)) (by kernel_rfl) ?_
 rw [zF.l19_eq qa qm qB qM qf qg qL qj qA qo qw qh qb qa]
 kernel_rfl
def qb8 : Den.Sum := ⟨[.dat (.pair tQi (.pair tQi (.pair tQi (.pair (.pair tQi tQi) (.pair tQi (.pair tQi (.pair tQi (.pair tQi (.pair tQi (.sl tQr)))))))))) true, .dat (.sl tQr) false], fun qH ql κ => match qH, ql with
 | [.agg [.d (.int .i64) qm, .d (.int .i64) qB, .d (.int .i64) qM, .d (.int .i64) qf, .d (.int .i64) qg, .d (.int .i64) qL, .d (.int .i64) qj, .d (.int .i64) qA, .d (.int .i64) qo, .d (.int .i64) qw, .d (.sl (.pair (.int .i64) (.pair (.int .i64) (.pair (.int .i64) (.pair (.pair (.int .i64) (.int .i64)) (.pair .bool (.sl (.pair (.int .i64) (.sl (.int .u8)))))))))) qh], .d (.sl (.pair (.int .i64) (.pair (.int .i64) (.pair (.int .i64) (.pair (.pair (.int .i64) (.int .i64)) (.pair .bool (.sl (.pair (.int .i64) (.sl (.int .u8)))))))))) qb], [] => (match veil (zF.f BIG qm qB qM qf qg qL qj qA qo qw qh qb) with | none => none | some y => κ [.d (.sl (.int .u8)) y] [])
 | _, _ => none⟩
theorem qkH : SumDet qb8 := zi fun _ _ _ _ => by
 unfold qb8
 simp only [veil_eq]
 split
 ·split <;> rfl
 ·rfl
theorem qlF : SumOk Tryz.prog 97 qb8 := by
 have hE : EnvOk Tryz.prog qg1 := env_ok (l := [(78, qbT), (79, qcR), (80, qaD), (82, qbW), (41, qaa), (119, QR), (120, ZV)]) th_ok qX ⟨⟨qgG, qfU⟩, ⟨qgK, qfM⟩, ⟨qdx, qcU⟩, ⟨qgP, qf0⟩, ⟨qbJ, qa5⟩, ⟨qdw, qda⟩, ⟨qgL, qgs⟩, trivial⟩ _
 refine sum_ok hE Tryz.func97 rfl (by kernel_rfl) qb8 [.own 5 (.int .u8)] zF.k ?_
 intro R avs ql κ r h
 unfold qb8 at h
 simp only [veil_eq] at h
 split at h
 ·rename_i qm qB qM qf qg qL qj qA qo qw qh qb
  split at h
  ·cases h
  ·rename_i y hy
   refine ⟨BIG, _, _, _, (zF.eq BIG qm qB qM qf qg qL qj qA qo qw qh qb).trans hy, ?_, h⟩
   intro rs ros hk
   unfold zF.k at hk
   split at hk
   ·rw [← sj hk]; exact ⟨rfl, rfl⟩
   ·cases hk
 ·cases h
def qhq : Env := ⟨th, gam [(76, Q1), (96, qbf), (97, qb8)], fun i => ⟨[], [], []⟩⟩
def Q7.k (rs : List AV) (os : List Den.Obj) : Option ((List Int) × Int) :=
 match rs, os with
 | [.d (.sl (.int .u8)) r0, .d (.int .i64) r1], [] => some (r0, r1)
 | _, _ => none
def Q7.b (qm qB qM qf qg qL qj qA qo qw : Int) (qh qb : LR) : Option ((List Int) × Int) :=
 (if (za qh) then (if (!(q0 qm qB qM qf qg qL qj qA qo qw qh)) then some (([] : List Int), (1 : Int)) else (if (za qb) then (if (!(Qs qb)) then some (([] : List Int), (1 : Int)) else (match (veil (zF.f BIG qm qB qM qf qg qL qj qA qo qw qh qb)) with | none => none | some y0 => (if (decide (((((List.length y0)) : Nat) : Int) > (65499 : Int))) then some (([] : List Int), (14 : Int)) else some (y0, (0 : Int))))) else none)) else none)
def Q7.f (qa : Nat) (qm qB qM qf qg qL qj qA qo qw : Int) (qh qb : LR) : Option ((List Int) × Int) := Q7.b qm qB qM qf qg qL qj qA qo qw qh qb
theorem Q7.eq (qa : Nat) (qm qB qM qf qg qL qj qA qo qw : Int) (qh qb : LR) : (denF qhq loopN qa Tryz.f64 [.dat (.sl (.int .u8)) false, .raw] [.agg [.d tQi qm, .d tQi qB, .d tQi qM, .d tQi qf, .d tQi qg, .d tQi qL, .d tQi qj, .d tQi qA, .d tQi qo, .d tQi qw, .d (.sl tQr) qh], .d (.sl tQr) qb] [] Q7.k) = Q7.f qa qm qB qM qf qg qL qj qA qo qw qh qb := by
 kernel_rfl
def Zo : Den.Sum := ⟨[.dat (.pair tQi (.pair tQi (.pair tQi (.pair (.pair tQi tQi) (.pair tQi (.pair tQi (.pair tQi (.pair tQi (.pair tQi (.sl tQr)))))))))) true, .dat (.sl tQr) false], fun qH ql κ => match qH, ql with
 | [.agg [.d (.int .i64) qm, .d (.int .i64) qB, .d (.int .i64) qM, .d (.int .i64) qf, .d (.int .i64) qg, .d (.int .i64) qL, .d (.int .i64) qj, .d (.int .i64) qA, .d (.int .i64) qo, .d (.int .i64) qw, .d (.sl (.pair (.int .i64) (.pair (.int .i64) (.pair (.int .i64) (.pair (.pair (.int .i64) (.int .i64)) (.pair .bool (.sl (.pair (.int .i64) (.sl (.int .u8)))))))))) qh], .d (.sl (.pair (.int .i64) (.pair (.int .i64) (.pair (.int .i64) (.pair (.pair (.int .i64) (.int .i64)) (.pair .bool (.sl (.pair (.int .i64) (.sl (.int .u8)))))))))) qb], [] => (match veil (Q7.f BIG qm qB qM qf qg qL qj qA qo qw qh qb) with | none => none | some y => κ [.d (.sl (.int .u8)) y.1, .d (.int .i64) y.2] [])
 | _, _ => none⟩
theorem qc2 : SumDet Zo := zi fun _ _ _ _ => by
 unfold Zo
 simp only [veil_eq]
 split
 ·split <;> rfl
 ·rfl
theorem qdp : SumOk Tryz.prog 64 Zo := by
 have hE : EnvOk Tryz.prog qhq := env_ok (l := [(76, Q1), (96, qbf), (97, qb8)]) th_ok qX ⟨⟨qaY, qav⟩, ⟨qfW, qfk⟩, ⟨qlF, qkH⟩, trivial⟩ _
 refine sum_ok hE Tryz.func64 rfl (by kernel_rfl) Zo [.dat (.sl (.int .u8)) false, .raw] Q7.k ?_
 intro R avs ql κ r h
 unfold Zo at h
 simp only [veil_eq] at h
 split at h
 ·rename_i qm qB qM qf qg qL qj qA qo qw qh qb
  split at h
  ·cases h
  ·rename_i y hy
   refine ⟨BIG, _, _, _, (Q7.eq BIG qm qB qM qf qg qL qj qA qo qw qh qb).trans hy, ?_, h⟩
   intro rs ros hk
   unfold Q7.k at hk
   split at hk
   ·rw [← sj hk]; exact ⟨rfl, rfl⟩
   ·cases hk
 ·cases h
def qeG : Env := ⟨th, gam [(52, Zc), (83, qc8)], fun i => ⟨[], [], []⟩⟩
def zm.k (rs : List AV) (os : List Den.Obj) : Option (Int × Int × Bool × (List Int) × Int × Bool) :=
 match rs, os with
 | [.agg [.d (.int .i64) r0, .d (.int .i64) r1]], [.box [.ptr 1 0, .d .bool r2], .box [.d (.sl (.int .u8)) r3, .d (.int .i64) r4, .d .bool r5]] => some (r0, r1, r2, r3, r4, r5)
 | _, _ => none
def zm.b (bs : List Int) (at0 : Int) (bad qY : Bool) : Option (Int × Int × Bool × (List Int) × Int × Bool) :=
 (if (zq bs at0) then (match (veil (Option.some (qy bs (1 : Int) at0 bad))) with | none => none | some y0 => (match (veil (Option.some (zR Qp y0.1))) with | none => none | some y1 => (if qY then some (y1.1, y1.2.1, true, bs, y0.2.1, y0.2.2) else some (y1.1, y1.2.1, (!y1.2.2), bs, y0.2.1, y0.2.2)))) else none)
def zm.f (qa : Nat) (bs : List Int) (at0 : Int) (bad qY : Bool) : Option (Int × Int × Bool × (List Int) × Int × Bool) := zm.b bs at0 bad qY
theorem zm.eq (qa : Nat) (bs : List Int) (at0 : Int) (bad qY : Bool) : (denF qeG loopN qa Tryz.f107 [.dat (.pair tQi tQi) true] [.ptr 0 0] [.box [.ptr 1 0, .d .bool qY], .box [.d (.sl (.int .u8)) bs, .d tQi at0, .d .bool bad]] zm.k) = zm.f qa bs at0 bad qY := by
 kernel_rfl
def Qu : Den.Sum := ⟨[.pb [.frz none [0] 0 (.int .u8)]], fun qH ql κ => match qH, ql with
 | [.ptr 0 0], [.box [.ptr 1 0, .d .bool qY], .box [.d (.sl (.int .u8)) bs, .d (.int .i64) at0, .d .bool bad]] => (match veil (zm.f BIG bs at0 bad qY) with | none => none | some y => κ [.agg [.d (.int .i64) y.1, .d (.int .i64) y.2.1]] [.box [.ptr 1 0, .d .bool y.2.2.1], .box [.d (.sl (.int .u8)) y.2.2.2.1, .d (.int .i64) y.2.2.2.2.1, .d .bool y.2.2.2.2.2]])
 | _, _ => none⟩
theorem qbK : SumDet Qu := zi fun _ _ _ _ => by
 unfold Qu
 simp only [veil_eq]
 split
 ·split <;> rfl
 ·rfl
theorem qbV : SumOk Tryz.prog 107 Qu := by
 have hE : EnvOk Tryz.prog qeG := env_ok (l := [(52, Zc), (83, qc8)]) th_ok qX ⟨⟨qaZ, qax⟩, ⟨qhG, qgJ⟩, trivial⟩ _
 refine sum_ok hE Tryz.func107 rfl (by kernel_rfl) Qu [.dat (.pair tQi tQi) true] zm.k ?_
 intro R avs ql κ r h
 unfold Qu at h
 simp only [veil_eq] at h
 split at h
 ·rename_i qY bs at0 bad
  split at h
  ·cases h
  ·rename_i y hy
   refine ⟨BIG, _, _, _, (zm.eq BIG bs at0 bad qY).trans hy, ?_, h⟩
   intro rs ros hk
   unfold zm.k at hk
   split at hk
   ·rw [← sj hk]; exact ⟨rfl, rfl⟩
   ·cases hk
 ·cases h
def qfg : Env := ⟨th, gam [], fun i => if i = 4 then ⟨[0, 5, 6, 7, 10], [], []⟩ else ⟨[], [], []⟩⟩
def zn.k (rs : List AV) (os : List Den.Obj) : Option (Int × Int × Int) :=
 match rs, os with
 | [.d (.int .u64) r0, .d (.int .i64) r1, .d (.int .i64) r2], [] => some (r0, r1, r2)
 | _, _ => none
def zn.s4 (b : List Int) (x0 x1 : Int) : St := ⟨[.d (.sl (.int .u8)) (b), dD, dD, dD, dD, .d (.int .u64) x0, .d tQi ((0 : Int)), .d tQi ((2 : Int)), .dead, .dead, .d tQi x1, dD, dD, dD, dD, dD, dD, dD, dD, dD, dD, dD, dD, dD, dD, dD, dD, dD, dD, dD, dD, dD, dD, dD, dD, dD, dD, dD, dD, dD, dD, dD, dD, dD, dD, dD, dD, dD, dD, dD, .dead], ofL [], 0⟩
def zn.p4 (qa : Nat) (b : List Int) (k : Nat) := fun x0 x1 => lp qfg qa Tryz.f133 [.raw, .raw, .raw] 0 zn.k 4 [] k (zn.s4 b x0 x1)
def zn.b4 (b : List Int) (A4 : Int → Int → Option (Int × Int × Int)) (x0 : Int) (x1 : Int) : Option (Int × Int × Int) :=
 (if (decide (x1 < (10 : Int))) then (if (decide (x1 ≥ ((((List.length b)) : Nat) : Int))) then some ((0 : Int), (0 : Int), (2 : Int)) else (match (idx b x1) with | none => none | some y2 => (if (x1 == (9 : Int)) then (if (decide (y2 > (1 : Int))) then some ((0 : Int), (0 : Int), (4 : Int)) else (if ((IntKind.wrap .i64 ((7 : Int) * x1)) < (0 : Int)) then none else (if (decide (y2 < (128 : Int))) then (if (y2 == (0 : Int)) then (if (decide (x1 > (0 : Int))) then some ((0 : Int), (0 : Int), (4 : Int)) else some ((bits BinOp.or .u64 x0 (IntKind.wrap .u64 ((IntKind.wrap .u64 (bits BinOp.and .u8 y2 (127 : Int))) * ((2 : Int) ^ (Min.min (Int.toNat (IntKind.wrap .i64 ((7 : Int) * x1))) (IntKind.bits .u64)))))), (IntKind.wrap .i64 (x1 + (1 : Int))), (0 : Int))) else some ((bits BinOp.or .u64 x0 (IntKind.wrap .u64 ((IntKind.wrap .u64 (bits BinOp.and .u8 y2 (127 : Int))) * ((2 : Int) ^ (Min.min (Int.toNat (IntKind.wrap .i64 ((7 : Int) * x1))) (IntKind.bits .u64)))))), (IntKind.wrap .i64 (x1 + (1 : Int))), (0 : Int))) else A4 (bits BinOp.or .u64 x0 (IntKind.wrap .u64 ((IntKind.wrap .u64 (bits BinOp.and .u8 y2 (127 : Int))) * ((2 : Int) ^ (Min.min (Int.toNat (IntKind.wrap .i64 ((7 : Int) * x1))) (IntKind.bits .u64)))))) (IntKind.wrap .i64 (x1 + (1 : Int)))))) else (if ((IntKind.wrap .i64 ((7 : Int) * x1)) < (0 : Int)) then none else (if (decide (y2 < (128 : Int))) then (if (y2 == (0 : Int)) then (if (decide (x1 > (0 : Int))) then some ((0 : Int), (0 : Int), (4 : Int)) else some ((bits BinOp.or .u64 x0 (IntKind.wrap .u64 ((IntKind.wrap .u64 (bits BinOp.and .u8 y2 (127 : Int))) * ((2 : Int) ^ (Min.min (Int.toNat (IntKind.wrap .i64 ((7 : Int) * x1))) (IntKind.bits .u64)))))), (IntKind.wrap .i64 (x1 + (1 : Int))), (0 : Int))) else some ((bits BinOp.or .u64 x0 (IntKind.wrap .u64 ((IntKind.wrap .u64 (bits BinOp.and .u8 y2 (127 : Int))) * ((2 : Int) ^ (Min.min (Int.toNat (IntKind.wrap .i64 ((7 : Int) * x1))) (IntKind.bits .u64)))))), (IntKind.wrap .i64 (x1 + (1 : Int))), (0 : Int))) else A4 (bits BinOp.or .u64 x0 (IntKind.wrap .u64 ((IntKind.wrap .u64 (bits BinOp.and .u8 y2 (127 : Int))) * ((2 : Int) ^ (Min.min (Int.toNat (IntKind.wrap .i64 ((7 : Int) * x1))) (IntKind.bits .u64)))))) (IntKind.wrap .i64 (x1 + (1 : Int)))))))) else some ((0 : Int), (0 : Int), (2 : Int)))
def zn.l4 (qa : Nat) (b : List Int) : Nat → Int → Int → Option (Int × Int × Int)
 | 0, _, _ => none
 | k + 1, x0, x1 => zn.b4 b (zn.l4 qa b k) x0 x1
def zn.b (b : List Int) (E4 : Int → Int → Option (Int × Int × Int)) : Option (Int × Int × Int) :=
 E4 (0 : Int) (0 : Int)
def zn.f (qa : Nat) (b : List Int) : Option (Int × Int × Int) := zn.b b (zn.l4 qa b qa)
theorem zn.l4_eq (qa : Nat) (b : List Int) : ∀ k : Nat, zn.p4 qa b k = zn.l4 qa b k
 | 0 => by kernel_rfl
 | k + 1 => by
  refine Eq.trans (b := zn.b4 b (zn.p4 qa b k)) (by kernel_rfl) ?_
  rw [zn.l4_eq qa b k]
  kernel_rfl
theorem zn.eq (qa : Nat) (b : List Int) : (denF qfg loopN qa Tryz.f133 [.raw, .raw, .raw] [.d (.sl (.int .u8)) b] [] zn.k) = zn.f qa b := by
 refine Eq.trans (b := zn.b b (zn.p4 qa b qa)) (by kernel_rfl) ?_
 rw [zn.l4_eq qa b qa]
 kernel_rfl
def qbe : Den.Sum := ⟨[.dat (.sl (.int .u8)) false], fun qH ql κ => match qH, ql with
 | [.d (.sl (.int .u8)) b], [] => (match veil (zn.f BIG b) with | none => none | some y => κ [.d (.int .u64) y.1, .d (.int .i64) y.2.1, .d (.int .i64) y.2.2] [])
 | _, _ => none⟩
theorem qiW : SumDet qbe := zi fun _ _ _ _ => by
 unfold qbe
 simp only [veil_eq]
 split
 ·split <;> rfl
 ·rfl
theorem qjB : SumOk Tryz.prog 133 qbe := by
 have hE : EnvOk Tryz.prog qfg := env_ok (l := []) th_ok qX trivial _
 refine sum_ok hE Tryz.func133 rfl (by kernel_rfl) qbe [.raw, .raw, .raw] zn.k ?_
 intro R avs ql κ r h
 unfold qbe at h
 simp only [veil_eq] at h
 split at h
 ·rename_i b
  split at h
  ·cases h
  ·rename_i y hy
   refine ⟨BIG, _, _, _, (zn.eq BIG b).trans hy, ?_, h⟩
   intro rs ros hk
   unfold zn.k at hk
   split at hk
   ·rw [← sj hk]; exact ⟨rfl, rfl⟩
   ·cases hk
 ·cases h
def qhf : Env := ⟨th, gam [(57, qgN)], fun i => ⟨[], [], []⟩⟩
def Zv.k (rs : List AV) (os : List Den.Obj) : Option ((List Int) × Int) :=
 match rs, os with
 | [.d (.sl (.int .u8)) r0, .d (.int .i64) r1], [] => some (r0, r1)
 | _, _ => none
def Zv.b (qm qB qM qf qg qL qj qA qo qw : Int) (qh qb : LR) : Option ((List Int) × Int) :=
 (if (za qh) then some ((qd0 qm qB qM qf qg qL qj qA qo qw qh).1, (qd0 qm qB qM qf qg qL qj qA qo qw qh).2) else none)
def Zv.f (qa : Nat) (qm qB qM qf qg qL qj qA qo qw : Int) (qh qb : LR) : Option ((List Int) × Int) := Zv.b qm qB qM qf qg qL qj qA qo qw qh qb
theorem Zv.eq (qa : Nat) (qm qB qM qf qg qL qj qA qo qw : Int) (qh qb : LR) : (denF qhf loopN qa Tryz.f56 [.own 5 (.int .u8), .raw] [.agg [.d tQi qm, .d tQi qB, .d tQi qM, .d tQi qf, .d tQi qg, .d tQi qL, .d tQi qj, .d tQi qA, .d tQi qo, .d tQi qw, .d (.sl tQr) qh], .d (.sl tQr) qb] [] Zv.k) = Zv.f qa qm qB qM qf qg qL qj qA qo qw qh qb := by
 kernel_rfl
def Zn : Den.Sum := ⟨[.dat (.pair tQi (.pair tQi (.pair tQi (.pair (.pair tQi tQi) (.pair tQi (.pair tQi (.pair tQi (.pair tQi (.pair tQi (.sl tQr)))))))))) true, .dat (.sl tQr) false], fun qH ql κ => match qH, ql with
 | [.agg [.d (.int .i64) qm, .d (.int .i64) qB, .d (.int .i64) qM, .d (.int .i64) qf, .d (.int .i64) qg, .d (.int .i64) qL, .d (.int .i64) qj, .d (.int .i64) qA, .d (.int .i64) qo, .d (.int .i64) qw, .d (.sl (.pair (.int .i64) (.pair (.int .i64) (.pair (.int .i64) (.pair (.pair (.int .i64) (.int .i64)) (.pair .bool (.sl (.pair (.int .i64) (.sl (.int .u8)))))))))) qh], .d (.sl (.pair (.int .i64) (.pair (.int .i64) (.pair (.int .i64) (.pair (.pair (.int .i64) (.int .i64)) (.pair .bool (.sl (.pair (.int .i64) (.sl (.int .u8)))))))))) qb], [] => (match veil (Zv.f BIG qm qB qM qf qg qL qj qA qo qw qh qb) with | none => none | some y => κ [.d (.sl (.int .u8)) y.1, .d (.int .i64) y.2] [])
 | _, _ => none⟩
theorem qc1 : SumDet Zn := zi fun _ _ _ _ => by
 unfold Zn
 simp only [veil_eq]
 split
 ·split <;> rfl
 ·rfl
theorem qdl : SumOk Tryz.prog 56 Zn := by
 have hE : EnvOk Tryz.prog qhf := env_ok (l := [(57, qgN)]) th_ok qX ⟨⟨qp5, qo8⟩, trivial⟩ _
 refine sum_ok hE Tryz.func56 rfl (by kernel_rfl) Zn [.own 5 (.int .u8), .raw] Zv.k ?_
 intro R avs ql κ r h
 unfold Zn at h
 simp only [veil_eq] at h
 split at h
 ·rename_i qm qB qM qf qg qL qj qA qo qw qh qb
  split at h
  ·cases h
  ·rename_i y hy
   refine ⟨BIG, _, _, _, (Zv.eq BIG qm qB qM qf qg qL qj qA qo qw qh qb).trans hy, ?_, h⟩
   intro rs ros hk
   unfold Zv.k at hk
   split at hk
   ·rw [← sj hk]; exact ⟨rfl, rfl⟩
   ·cases hk
 ·cases h
def qhe : Env := ⟨th, gam [(59, qgv)], fun i => ⟨[], [], []⟩⟩
def Zu.k (rs : List AV) (os : List Den.Obj) : Option (Int × Int × Int × Int × Int × Int × Int × Int × Int × Int × LR × Int) :=
 match rs, os with
 | [.agg [.d (.int .i64) r0, .d (.int .i64) r1, .d (.int .i64) r2, .d (.int .i64) r3, .d (.int .i64) r4, .d (.int .i64) r5, .d (.int .i64) r6, .d (.int .i64) r7, .d (.int .i64) r8, .d (.int .i64) r9, .d (.sl (.pair (.int .i64) (.pair (.int .i64) (.pair (.int .i64) (.pair (.pair (.int .i64) (.int .i64)) (.pair .bool (.sl (.pair (.int .i64) (.sl (.int .u8)))))))))) r10], .d (.int .i64) r11], [] => some (r0, r1, r2, r3, r4, r5, r6, r7, r8, r9, r10, r11)
 | _, _ => none
def Zu.b (b : List Int) (qb : LR) : Option (Int × Int × Int × Int × Int × Int × Int × Int × Int × Int × LR × Int) :=
 (if (inB b) then (match (veil (Option.some (Ql b))) with | none => none | some y0 => some (y0.1, y0.2.1, y0.2.2.1, y0.2.2.2.1, y0.2.2.2.2.1, y0.2.2.2.2.2.1, y0.2.2.2.2.2.2.1, 0, 0, 0, y0.2.2.2.2.2.2.2.1, y0.2.2.2.2.2.2.2.2)) else none)
def Zu.f (qa : Nat) (b : List Int) (qb : LR) : Option (Int × Int × Int × Int × Int × Int × Int × Int × Int × Int × LR × Int) := Zu.b b qb
theorem Zu.eq (qa : Nat) (b : List Int) (qb : LR) : (denF qhe loopN qa Tryz.f58 [.dat (.pair tQi (.pair tQi (.pair tQi (.pair (.pair tQi tQi) (.pair tQi (.pair tQi (.pair tQi (.pair tQi (.pair tQi (.sl tQr)))))))))) true, .raw] [.d (.sl (.int .u8)) b, .d (.sl tQr) qb] [] Zu.k) = Zu.f qa b qb := by
 kernel_rfl
def Zm : Den.Sum := ⟨[.dat (.sl (.int .u8)) false, .dat (.sl tQr) false], fun qH ql κ => match qH, ql with
 | [.d (.sl (.int .u8)) b, .d (.sl (.pair (.int .i64) (.pair (.int .i64) (.pair (.int .i64) (.pair (.pair (.int .i64) (.int .i64)) (.pair .bool (.sl (.pair (.int .i64) (.sl (.int .u8)))))))))) qb], [] => (match veil (Zu.f BIG b qb) with | none => none | some y => κ [.agg [.d (.int .i64) y.1, .d (.int .i64) y.2.1, .d (.int .i64) y.2.2.1, .d (.int .i64) y.2.2.2.1, .d (.int .i64) y.2.2.2.2.1, .d (.int .i64) y.2.2.2.2.2.1, .d (.int .i64) y.2.2.2.2.2.2.1, .d (.int .i64) y.2.2.2.2.2.2.2.1, .d (.int .i64) y.2.2.2.2.2.2.2.2.1, .d (.int .i64) y.2.2.2.2.2.2.2.2.2.1, .d (.sl (.pair (.int .i64) (.pair (.int .i64) (.pair (.int .i64) (.pair (.pair (.int .i64) (.int .i64)) (.pair .bool (.sl (.pair (.int .i64) (.sl (.int .u8)))))))))) y.2.2.2.2.2.2.2.2.2.2.1], .d (.int .i64) y.2.2.2.2.2.2.2.2.2.2.2] [])
 | _, _ => none⟩
theorem qc0 : SumDet Zm := zi fun _ _ _ _ => by
 unfold Zm
 simp only [veil_eq]
 split
 ·split <;> rfl
 ·rfl
theorem qdk : SumOk Tryz.prog 58 Zm := by
 have hE : EnvOk Tryz.prog qhe := env_ok (l := [(59, qgv)]) th_ok qX ⟨⟨qpa, qn8⟩, trivial⟩ _
 refine sum_ok hE Tryz.func58 rfl (by kernel_rfl) Zm [.dat (.pair tQi (.pair tQi (.pair tQi (.pair (.pair tQi tQi) (.pair tQi (.pair tQi (.pair tQi (.pair tQi (.pair tQi (.sl tQr)))))))))) true, .raw] Zu.k ?_
 intro R avs ql κ r h
 unfold Zm at h
 simp only [veil_eq] at h
 split at h
 ·rename_i b qb
  split at h
  ·cases h
  ·rename_i y hy
   refine ⟨BIG, _, _, _, (Zu.eq BIG b qb).trans hy, ?_, h⟩
   intro rs ros hk
   unfold Zu.k at hk
   split at hk
   ·rw [← sj hk]; exact ⟨rfl, rfl⟩
   ·cases hk
 ·cases h
def qhd : Env := ⟨th, gam [(61, qfx)], fun i => ⟨[], [], []⟩⟩
def Zt.k (rs : List AV) (os : List Den.Obj) : Option ((List Int) × Int) :=
 match rs, os with
 | [.d (.sl (.int .u8)) r0, .d (.int .i64) r1], [] => some (r0, r1)
 | _, _ => none
def Zt.b (qm qB qM qf qg qL qj qA qo qw : Int) (qh qb : LR) : Option ((List Int) × Int) :=
 (if (za qh) then some ((qd1 qm qB qM qf qg qL qj qA qo qw qh).1, (qd1 qm qB qM qf qg qL qj qA qo qw qh).2) else none)
def Zt.f (qa : Nat) (qm qB qM qf qg qL qj qA qo qw : Int) (qh qb : LR) : Option ((List Int) × Int) := Zt.b qm qB qM qf qg qL qj qA qo qw qh qb
theorem Zt.eq (qa : Nat) (qm qB qM qf qg qL qj qA qo qw : Int) (qh qb : LR) : (denF qhd loopN qa Tryz.f60 [.own 5 (.int .u8), .raw] [.agg [.d tQi qm, .d tQi qB, .d tQi qM, .d tQi qf, .d tQi qg, .d tQi qL, .d tQi qj, .d tQi qA, .d tQi qo, .d tQi qw, .d (.sl tQr) qh], .d (.sl tQr) qb] [] Zt.k) = Zt.f qa qm qB qM qf qg qL qj qA qo qw qh qb := by
 kernel_rfl
def Zl : Den.Sum := ⟨[.dat (.pair tQi (.pair tQi (.pair tQi (.pair (.pair tQi tQi) (.pair tQi (.pair tQi (.pair tQi (.pair tQi (.pair tQi (.sl tQr)))))))))) true, .dat (.sl tQr) false], fun qH ql κ => match qH, ql with
 | [.agg [.d (.int .i64) qm, .d (.int .i64) qB, .d (.int .i64) qM, .d (.int .i64) qf, .d (.int .i64) qg, .d (.int .i64) qL, .d (.int .i64) qj, .d (.int .i64) qA, .d (.int .i64) qo, .d (.int .i64) qw, .d (.sl (.pair (.int .i64) (.pair (.int .i64) (.pair (.int .i64) (.pair (.pair (.int .i64) (.int .i64)) (.pair .bool (.sl (.pair (.int .i64) (.sl (.int .u8)))))))))) qh], .d (.sl (.pair (.int .i64) (.pair (.int .i64) (.pair (.int .i64) (.pair (.pair (.int .i64) (.int .i64)) (.pair .bool (.sl (.pair (.int .i64) (.sl (.int .u8)))))))))) qb], [] => (match veil (Zt.f BIG qm qB qM qf qg qL qj qA qo qw qh qb) with | none => none | some y => κ [.d (.sl (.int .u8)) y.1, .d (.int .i64) y.2] [])
 | _, _ => none⟩
theorem qcZ : SumDet Zl := zi fun _ _ _ _ => by
 unfold Zl
 simp only [veil_eq]
 split
 ·split <;> rfl
 ·rfl
theorem qdj : SumOk Tryz.prog 60 Zl := by
 have hE : EnvOk Tryz.prog qhd := env_ok (l := [(61, qfx)]) th_ok qX ⟨⟨qo9, qn7⟩, trivial⟩ _
 refine sum_ok hE Tryz.func60 rfl (by kernel_rfl) Zl [.own 5 (.int .u8), .raw] Zt.k ?_
 intro R avs ql κ r h
 unfold Zl at h
 simp only [veil_eq] at h
 split at h
 ·rename_i qm qB qM qf qg qL qj qA qo qw qh qb
  split at h
  ·cases h
  ·rename_i y hy
   refine ⟨BIG, _, _, _, (Zt.eq BIG qm qB qM qf qg qL qj qA qo qw qh qb).trans hy, ?_, h⟩
   intro rs ros hk
   unfold Zt.k at hk
   split at hk
   ·rw [← sj hk]; exact ⟨rfl, rfl⟩
   ·cases hk
 ·cases h
def qhc : Env := ⟨th, gam [(63, qfb)], fun i => ⟨[], [], []⟩⟩
def Zs.k (rs : List AV) (os : List Den.Obj) : Option (Int × Int × Int × Int × Int × Int × Int × Int × Int × Int × LR × Int) :=
 match rs, os with
 | [.agg [.d (.int .i64) r0, .d (.int .i64) r1, .d (.int .i64) r2, .d (.int .i64) r3, .d (.int .i64) r4, .d (.int .i64) r5, .d (.int .i64) r6, .d (.int .i64) r7, .d (.int .i64) r8, .d (.int .i64) r9, .d (.sl (.pair (.int .i64) (.pair (.int .i64) (.pair (.int .i64) (.pair (.pair (.int .i64) (.int .i64)) (.pair .bool (.sl (.pair (.int .i64) (.sl (.int .u8)))))))))) r10], .d (.int .i64) r11], [] => some (r0, r1, r2, r3, r4, r5, r6, r7, r8, r9, r10, r11)
 | _, _ => none
def Zs.b (b : List Int) (qb : LR) : Option (Int × Int × Int × Int × Int × Int × Int × Int × Int × Int × LR × Int) :=
 (if (inS b) then (match (veil (Option.some (zN b))) with | none => none | some y0 => some (y0.1, y0.2.1, y0.2.2.1, y0.2.2.2.1, y0.2.2.2.2.1, y0.2.2.2.2.2.1, y0.2.2.2.2.2.2.1, 0, 0, 0, y0.2.2.2.2.2.2.2.1, y0.2.2.2.2.2.2.2.2)) else none)
def Zs.f (qa : Nat) (b : List Int) (qb : LR) : Option (Int × Int × Int × Int × Int × Int × Int × Int × Int × Int × LR × Int) := Zs.b b qb
theorem Zs.eq (qa : Nat) (b : List Int) (qb : LR) : (denF qhc loopN qa Tryz.f62 [.dat (.pair tQi (.pair tQi (.pair tQi (.pair (.pair tQi tQi) (.pair tQi (.pair tQi (.pair tQi (.pair tQi (.pair tQi (.sl tQr)))))))))) true, .raw] [.d (.sl (.int .u8)) b, .d (.sl tQr) qb] [] Zs.k) = Zs.f qa b qb := by
 kernel_rfl
def Zk : Den.Sum := ⟨[.dat (.sl (.int .u8)) false, .dat (.sl tQr) false], fun qH ql κ => match qH, ql with
 | [.d (.sl (.int .u8)) b, .d (.sl (.pair (.int .i64) (.pair (.int .i64) (.pair (.int .i64) (.pair (.pair (.int .i64) (.int .i64)) (.pair .bool (.sl (.pair (.int .i64) (.sl (.int .u8)))))))))) qb], [] => (match veil (Zs.f BIG b qb) with | none => none | some y => κ [.agg [.d (.int .i64) y.1, .d (.int .i64) y.2.1, .d (.int .i64) y.2.2.1, .d (.int .i64) y.2.2.2.1, .d (.int .i64) y.2.2.2.2.1, .d (.int .i64) y.2.2.2.2.2.1, .d (.int .i64) y.2.2.2.2.2.2.1, .d (.int .i64) y.2.2.2.2.2.2.2.1, .d (.int .i64) y.2.2.2.2.2.2.2.2.1, .d (.int .i64) y.2.2.2.2.2.2.2.2.2.1, .d (.sl (.pair (.int .i64) (.pair (.int .i64) (.pair (.int .i64) (.pair (.pair (.int .i64) (.int .i64)) (.pair .bool (.sl (.pair (.int .i64) (.sl (.int .u8)))))))))) y.2.2.2.2.2.2.2.2.2.2.1], .d (.int .i64) y.2.2.2.2.2.2.2.2.2.2.2] [])
 | _, _ => none⟩
theorem qcY : SumDet Zk := zi fun _ _ _ _ => by
 unfold Zk
 simp only [veil_eq]
 split
 ·split <;> rfl
 ·rfl
theorem qdi : SumOk Tryz.prog 62 Zk := by
 have hE : EnvOk Tryz.prog qhc := env_ok (l := [(63, qfb)]) th_ok qX ⟨⟨qn9, qmT⟩, trivial⟩ _
 refine sum_ok hE Tryz.func62 rfl (by kernel_rfl) Zk [.dat (.pair tQi (.pair tQi (.pair tQi (.pair (.pair tQi tQi) (.pair tQi (.pair tQi (.pair tQi (.pair tQi (.pair tQi (.sl tQr)))))))))) true, .raw] Zs.k ?_
 intro R avs ql κ r h
 unfold Zk at h
 simp only [veil_eq] at h
 split at h
 ·rename_i b qb
  split at h
  ·cases h
  ·rename_i y hy
   refine ⟨BIG, _, _, _, (Zs.eq BIG b qb).trans hy, ?_, h⟩
   intro rs ros hk
   unfold Zs.k at hk
   split at hk
   ·rw [← sj hk]; exact ⟨rfl, rfl⟩
   ·cases hk
 ·cases h
def qeL : Env := ⟨th, gam [(52, Zc), (84, qaA), (133, qbe)], fun i => if i = 2 then ⟨[0, 1, 6], [(6, 5, (.int .u8))], []⟩ else ⟨[], [], []⟩⟩
def zh.k (rs : List AV) (os : List Den.Obj) : Option (Int × Bool × (List Int) × Int × Bool) :=
 match rs, os with
 | [.d (.int .i64) r0, .d .bool r1], [.box [.d (.sl (.int .u8)) r2, .d (.int .i64) r3, .d .bool r4]] => some (r0, r1, r2, r3, r4)
 | _, _ => none
def zh.s2 (bs : List Int) (at0 : Int) (bad : Bool) (zk x0 : Int) (x1 : Bool) (x2 : (List Int)) : St := ⟨[.ptr 0 0, .d tQi (zk), dD, dD, dD, dD, .row 64, dD, dD, dD, dD, dD, dD, dD, dD, dD, dD, dD, dD, dD, dD, dD, dD, dD, dD, dD, dD, dD, dD, dD, dD, dD, dD, dD, dD, dD, dD, dD, dD, dD, dD, dD, dD, dD, .dead], ofL [(0, .box [.d (.sl (.int .u8)) (bs), .d tQi x0, .d .bool x1]), (64, .row 5 (.int .u8) x2 false)], 1⟩
def zh.p2 (qa : Nat) (bs : List Int) (at0 : Int) (bad : Bool) (zk : Int) (k : Nat) := fun x0 x1 x2 => lp qeL qa Tryz.f121 [.raw, .raw] 1 zh.k 2 [] k (zh.s2 bs at0 bad zk x0 x1 x2)
def zh.b2 (bs : List Int) (at0 : Int) (bad : Bool) (zk : Int) (A2 : Int → Bool → (List Int) → Option (Int × Bool × (List Int) × Int × Bool)) (x0 : Int) (x1 : Bool) (x2 : (List Int)) : Option (Int × Bool × (List Int) × Int × Bool) :=
 (if (decide (((((List.length x2)) : Nat) : Int) < (10 : Int))) then (if (zq bs x0) then (match (veil (Option.some (qy bs (1 : Int) x0 x1))) with | none => none | some y3 => (if y3.2.2 then some ((0 : Int), false, bs, y3.2.1, y3.2.2) else (if ((((List.length x2) + (List.length ((IntKind.wrap .u8 y3.1) :: ([] : List Int)))) * (1 : Nat)) ≤ lim) then (if (decide (y3.1 < (128 : Int))) then (match (veil (zn.f BIG (x2 ++ ((IntKind.wrap .u8 y3.1) :: ([] : List Int))))) with | none => none | some y4 => (if (y4.2.2 != (0 : Int)) then some ((0 : Int), false, bs, y3.2.1, y3.2.2) else (if (decide (zk < (0 : Int))) then some ((0 : Int), false, bs, y3.2.1, y3.2.2) else (if (decide (y4.1 > (IntKind.wrap .u64 zk))) then some ((0 : Int), false, bs, y3.2.1, y3.2.2) else some ((IntKind.wrap .i64 y4.1), true, bs, y3.2.1, y3.2.2))))) else A2 y3.2.1 y3.2.2 (x2 ++ ((IntKind.wrap .u8 y3.1) :: ([] : List Int)))) else none))) else none) else (match (veil (zn.f BIG x2)) with | none => none | some y5 => (if (y5.2.2 != (0 : Int)) then some ((0 : Int), false, bs, x0, x1) else (if (decide (zk < (0 : Int))) then some ((0 : Int), false, bs, x0, x1) else (if (decide (y5.1 > (IntKind.wrap .u64 zk))) then some ((0 : Int), false, bs, x0, x1) else some ((IntKind.wrap .i64 y5.1), true, bs, x0, x1))))))
def zh.l2 (qa : Nat) (bs : List Int) (at0 : Int) (bad : Bool) (zk : Int) : Nat → Int → Bool → (List Int) → Option (Int × Bool × (List Int) × Int × Bool)
 | 0, _, _, _ => none
 | k + 1, x0, x1, x2 => zh.b2 bs at0 bad zk (zh.l2 qa bs at0 bad zk k) x0 x1 x2
def zh.b (bs : List Int) (at0 : Int) (bad : Bool) (zk : Int) (E2 : Int → Bool → (List Int) → Option (Int × Bool × (List Int) × Int × Bool)) : Option (Int × Bool × (List Int) × Int × Bool) :=
 E2 at0 bad ([] : List Int)
def zh.f (qa : Nat) (bs : List Int) (at0 : Int) (bad : Bool) (zk : Int) : Option (Int × Bool × (List Int) × Int × Bool) := zh.b bs at0 bad zk (zh.l2 qa bs at0 bad zk qa)
theorem zh.l2_eq (qa : Nat) (bs : List Int) (at0 : Int) (bad : Bool) (zk : Int) : ∀ k : Nat, zh.p2 qa bs at0 bad zk k = zh.l2 qa bs at0 bad zk k
 | 0 => by kernel_rfl
 | k + 1 => by
  refine Eq.trans (b := zh.b2 bs at0 bad zk (zh.p2 qa bs at0 bad zk k)) (by kernel_rfl) ?_
  rw [zh.l2_eq qa bs at0 bad zk k]
  kernel_rfl
theorem zh.eq (qa : Nat) (bs : List Int) (at0 : Int) (bad : Bool) (zk : Int) : (denF qeL loopN qa Tryz.f121 [.raw, .raw] [.ptr 0 0, .d tQi zk] [.box [.d (.sl (.int .u8)) bs, .d tQi at0, .d .bool bad]] zh.k) = zh.f qa bs at0 bad zk := by
 refine Eq.trans (b := zh.b bs at0 bad zk (zh.p2 qa bs at0 bad zk qa)) (by kernel_rfl) ?_
 rw [zh.l2_eq qa bs at0 bad zk qa]
 kernel_rfl
def qaP : Den.Sum := ⟨[.pb [.frz none [] 0 (.int .u8)], .raw], fun qH ql κ => match qH, ql with
 | [.ptr 0 0, .d (.int .i64) zk], [.box [.d (.sl (.int .u8)) bs, .d (.int .i64) at0, .d .bool bad]] => (match veil (zh.f BIG bs at0 bad zk) with | none => none | some y => κ [.d (.int .i64) y.1, .d .bool y.2.1] [.box [.d (.sl (.int .u8)) y.2.2.1, .d (.int .i64) y.2.2.2.1, .d .bool y.2.2.2.2]])
 | _, _ => none⟩
theorem qih : SumDet qaP := zi fun _ _ _ _ => by
 unfold qaP
 simp only [veil_eq]
 split
 ·split <;> rfl
 ·rfl
theorem qiX : SumOk Tryz.prog 121 qaP := by
 have hE : EnvOk Tryz.prog qeL := env_ok (l := [(52, Zc), (84, qaA), (133, qbe)]) th_ok qX ⟨⟨qaZ, qax⟩, ⟨qcF, qb1⟩, ⟨qjB, qiW⟩, trivial⟩ _
 refine sum_ok hE Tryz.func121 rfl (by kernel_rfl) qaP [.raw, .raw] zh.k ?_
 intro R avs ql κ r h
 unfold qaP at h
 simp only [veil_eq] at h
 split at h
 ·rename_i zk bs at0 bad
  split at h
  ·cases h
  ·rename_i y hy
   refine ⟨BIG, _, _, _, (zh.eq BIG bs at0 bad zk).trans hy, ?_, h⟩
   intro rs ros hk
   unfold zh.k at hk
   split at hk
   ·rw [← sj hk]; exact ⟨rfl, rfl⟩
   ·cases hk
 ·cases h
def qeI : Env := ⟨th, gam [(121, qaP)], fun i => ⟨[], [], []⟩⟩
def qD.k (rs : List AV) (os : List Den.Obj) : Option (Int × Bool × (List Int) × Int × Bool) :=
 match rs, os with
 | [.d (.int .i64) r0], [.box [.ptr 1 0, .d .bool r1], .box [.d (.sl (.int .u8)) r2, .d (.int .i64) r3, .d .bool r4]] => some (r0, r1, r2, r3, r4)
 | _, _ => none
def qD.b (bs : List Int) (at0 : Int) (bad qY : Bool) (limit : Int) : Option (Int × Bool × (List Int) × Int × Bool) :=
 (if qY then some ((0 : Int), qY, bs, at0, bad) else (match (veil (zh.f BIG bs at0 bad limit)) with | none => none | some y0 => some (y0.1, (!y0.2.1), y0.2.2.1, y0.2.2.2.1, y0.2.2.2.2)))
def qD.f (qa : Nat) (bs : List Int) (at0 : Int) (bad qY : Bool) (limit : Int) : Option (Int × Bool × (List Int) × Int × Bool) := qD.b bs at0 bad qY limit
theorem qD.eq (qa : Nat) (bs : List Int) (at0 : Int) (bad qY : Bool) (limit : Int) : (denF qeI loopN qa Tryz.f98 [.raw] [.ptr 0 0, .d tQi limit] [.box [.ptr 1 0, .d .bool qY], .box [.d (.sl (.int .u8)) bs, .d tQi at0, .d .bool bad]] qD.k) = qD.f qa bs at0 bad qY limit := by
 kernel_rfl
def zK : Den.Sum := ⟨[.pb [.frz none [0] 0 (.int .u8)], .raw], fun qH ql κ => match qH, ql with
 | [.ptr 0 0, .d (.int .i64) limit], [.box [.ptr 1 0, .d .bool qY], .box [.d (.sl (.int .u8)) bs, .d (.int .i64) at0, .d .bool bad]] => (match veil (qD.f BIG bs at0 bad qY limit) with | none => none | some y => κ [.d (.int .i64) y.1] [.box [.ptr 1 0, .d .bool y.2.1], .box [.d (.sl (.int .u8)) y.2.2.1, .d (.int .i64) y.2.2.2.1, .d .bool y.2.2.2.2]])
 | _, _ => none⟩
theorem Z7 : SumDet zK := zi fun _ _ _ _ => by
 unfold zK
 simp only [veil_eq]
 split
 ·split <;> rfl
 ·rfl
theorem qaf : SumOk Tryz.prog 98 zK := by
 have hE : EnvOk Tryz.prog qeI := env_ok (l := [(121, qaP)]) th_ok qX ⟨⟨qiX, qih⟩, trivial⟩ _
 refine sum_ok hE Tryz.func98 rfl (by kernel_rfl) zK [.raw] qD.k ?_
 intro R avs ql κ r h
 unfold zK at h
 simp only [veil_eq] at h
 split at h
 ·rename_i limit qY bs at0 bad
  split at h
  ·cases h
  ·rename_i y hy
   refine ⟨BIG, _, _, _, (qD.eq BIG bs at0 bad qY limit).trans hy, ?_, h⟩
   intro rs ros hk
   unfold qD.k at hk
   split at hk
   ·rw [← sj hk]; exact ⟨rfl, rfl⟩
   ·cases hk
 ·cases h
def qee : Env := ⟨th, gam [(76, Q1), (41, qaa), (98, zK), (52, Zc), (107, Qu), (84, qaA)], fun i => ⟨[], [], []⟩⟩
def zJ.k (rs : List AV) (os : List Den.Obj) : Option (Int × Int × Int × Int × Int × Int × Int × Int × Int × Int × Bool × (List Int) × Int × Bool) :=
 match rs, os with
 | [.agg [.d (.int .i64) r0, .d (.int .i64) r1, .d (.int .i64) r2, .d (.int .i64) r3, .d (.int .i64) r4, .d (.int .i64) r5, .d (.int .i64) r6, .d (.int .i64) r7, .d (.int .i64) r8, .d (.int .i64) r9, .nilsl]], [.box [.ptr 1 0, .d .bool r10], .box [.d (.sl (.int .u8)) r11, .d (.int .i64) r12, .d .bool r13]] => some (r0, r1, r2, r3, r4, r5, r6, r7, r8, r9, r10, r11, r12, r13)
 | _, _ => none
def zJ.b (bs : List Int) (at0 : Int) (bad qY : Bool) : Option (Int × Int × Int × Int × Int × Int × Int × Int × Int × Int × Bool × (List Int) × Int × Bool) :=
 (if (zq bs at0) then (match (veil (Option.some (qy bs (1 : Int) at0 bad))) with | none => none | some y0 => (match (veil (qD.f BIG bs y0.2.1 y0.2.2 qY (4095 : Int))) with | none => none | some y1 => (match (veil (qD.f BIG y1.2.2.1 y1.2.2.2.1 y1.2.2.2.2 y1.2.1 (veil (281474976710655 : Int)))) with | none => none | some y2 => (match (veil (zm.f BIG y2.2.2.1 y2.2.2.2.1 y2.2.2.2.2 y2.2.1)) with | none => none | some y3 => (if (qv y0.1 (0 : Int)) then (match (veil (qD.f BIG y3.2.2.2.1 y3.2.2.2.2.1 y3.2.2.2.2.2 y3.2.2.1 (65535 : Int))) with | none => none | some y4 => (if (qv y0.1 (1 : Int)) then (match (veil (qD.f BIG y4.2.2.1 y4.2.2.2.1 y4.2.2.2.2 y4.2.1 (4095 : Int))) with | none => none | some y5 => (if (qv y0.1 (2 : Int)) then (match (veil (qD.f BIG y5.2.2.1 y5.2.2.2.1 y5.2.2.2.2 y5.2.1 (veil (281474976710655 : Int)))) with | none => none | some y6 => (match (veil (qD.f BIG y6.2.2.1 y6.2.2.2.1 y6.2.2.2.2 y6.2.1 (65535 : Int))) with | none => none | some y7 => (if (qv y0.1 (3 : Int)) then (match (veil (qD.f BIG y7.2.2.1 y7.2.2.2.1 y7.2.2.2.2 y7.2.1 (65535 : Int))) with | none => none | some y8 => (if y8.2.2.2.2 then some (y0.1, y1.1, y2.1, y3.1, y3.2.1, y4.1, y5.1, y6.1, y7.1, y8.1, true, y8.2.2.1, y8.2.2.2.1, y8.2.2.2.2) else (if (!(q0 y0.1 y1.1 y2.1 y3.1 y3.2.1 y4.1 y5.1 y6.1 y7.1 y8.1 ([] : LR))) then some (y0.1, y1.1, y2.1, y3.1, y3.2.1, y4.1, y5.1, y6.1, y7.1, y8.1, true, y8.2.2.1, y8.2.2.2.1, y8.2.2.2.2) else some (y0.1, y1.1, y2.1, y3.1, y3.2.1, y4.1, y5.1, y6.1, y7.1, y8.1, y8.2.1, y8.2.2.1, y8.2.2.2.1, y8.2.2.2.2)))) else (if y7.2.2.2.2 then some (y0.1, y1.1, y2.1, y3.1, y3.2.1, y4.1, y5.1, y6.1, y7.1, 0, true, y7.2.2.1, y7.2.2.2.1, y7.2.2.2.2) else (if (!(q0 y0.1 y1.1 y2.1 y3.1 y3.2.1 y4.1 y5.1 y6.1 y7.1 0 ([] : LR))) then some (y0.1, y1.1, y2.1, y3.1, y3.2.1, y4.1, y5.1, y6.1, y7.1, 0, true, y7.2.2.1, y7.2.2.2.1, y7.2.2.2.2) else some (y0.1, y1.1, y2.1, y3.1, y3.2.1, y4.1, y5.1, y6.1, y7.1, 0, y7.2.1, y7.2.2.1, y7.2.2.2.1, y7.2.2.2.2)))))) else (if (qv y0.1 (3 : Int)) then (match (veil (qD.f BIG y5.2.2.1 y5.2.2.2.1 y5.2.2.2.2 y5.2.1 (65535 : Int))) with | none => none | some y9 => (if y9.2.2.2.2 then some (y0.1, y1.1, y2.1, y3.1, y3.2.1, y4.1, y5.1, 0, 0, y9.1, true, y9.2.2.1, y9.2.2.2.1, y9.2.2.2.2) else (if (!(q0 y0.1 y1.1 y2.1 y3.1 y3.2.1 y4.1 y5.1 0 0 y9.1 ([] : LR))) then some (y0.1, y1.1, y2.1, y3.1, y3.2.1, y4.1, y5.1, 0, 0, y9.1, true, y9.2.2.1, y9.2.2.2.1, y9.2.2.2.2) else some (y0.1, y1.1, y2.1, y3.1, y3.2.1, y4.1, y5.1, 0, 0, y9.1, y9.2.1, y9.2.2.1, y9.2.2.2.1, y9.2.2.2.2)))) else (if y5.2.2.2.2 then some (y0.1, y1.1, y2.1, y3.1, y3.2.1, y4.1, y5.1, 0, 0, 0, true, y5.2.2.1, y5.2.2.2.1, y5.2.2.2.2) else (if (!(q0 y0.1 y1.1 y2.1 y3.1 y3.2.1 y4.1 y5.1 0 0 0 ([] : LR))) then some (y0.1, y1.1, y2.1, y3.1, y3.2.1, y4.1, y5.1, 0, 0, 0, true, y5.2.2.1, y5.2.2.2.1, y5.2.2.2.2) else some (y0.1, y1.1, y2.1, y3.1, y3.2.1, y4.1, y5.1, 0, 0, 0, y5.2.1, y5.2.2.1, y5.2.2.2.1, y5.2.2.2.2)))))) else (if (qv y0.1 (2 : Int)) then (match (veil (qD.f BIG y4.2.2.1 y4.2.2.2.1 y4.2.2.2.2 y4.2.1 (veil (281474976710655 : Int)))) with | none => none | some y10 => (match (veil (qD.f BIG y10.2.2.1 y10.2.2.2.1 y10.2.2.2.2 y10.2.1 (65535 : Int))) with | none => none | some y11 => (if (qv y0.1 (3 : Int)) then (match (veil (qD.f BIG y11.2.2.1 y11.2.2.2.1 y11.2.2.2.2 y11.2.1 (65535 : Int))) with | none => none | some y12 => (if y12.2.2.2.2 then some (y0.1, y1.1, y2.1, y3.1, y3.2.1, y4.1, 0, y10.1, y11.1, y12.1, true, y12.2.2.1, y12.2.2.2.1, y12.2.2.2.2) else (if (!(q0 y0.1 y1.1 y2.1 y3.1 y3.2.1 y4.1 0 y10.1 y11.1 y12.1 ([] : LR))) then some (y0.1, y1.1, y2.1, y3.1, y3.2.1, y4.1, 0, y10.1, y11.1, y12.1, true, y12.2.2.1, y12.2.2.2.1, y12.2.2.2.2) else some (y0.1, y1.1, y2.1, y3.1, y3.2.1, y4.1, 0, y10.1, y11.1, y12.1, y12.2.1, y12.2.2.1, y12.2.2.2.1, y12.2.2.2.2)))) else (if y11.2.2.2.2 then some (y0.1, y1.1, y2.1, y3.1, y3.2.1, y4.1, 0, y10.1, y11.1, 0, true, y11.2.2.1, y11.2.2.2.1, y11.2.2.2.2) else (if (!(q0 y0.1 y1.1 y2.1 y3.1 y3.2.1 y4.1 0 y10.1 y11.1 0 ([] : LR))) then some (y0.1, y1.1, y2.1, y3.1, y3.2.1, y4.1, 0, y10.1, y11.1, 0, true, y11.2.2.1, y11.2.2.2.1, y11.2.2.2.2) else some (y0.1, y1.1, y2.1, y3.1, y3.2.1, y4.1, 0, y10.1, y11.1, 0, y11.2.1, y11.2.2.1, y11.2.2.2.1, y11.2.2.2.2)))))) else (if (qv y0.1 (3 : Int)) then (match (veil (qD.f BIG y4.2.2.1 y4.2.2.2.1 y4.2.2.2.2 y4.2.1 (65535 : Int))) with | none => none | some y13 => (if y13.2.2.2.2 then some (y0.1, y1.1, y2.1, y3.1, y3.2.1, y4.1, 0, 0, 0, y13.1, true, y13.2.2.1, y13.2.2.2.1, y13.2.2.2.2) else (if (!(q0 y0.1 y1.1 y2.1 y3.1 y3.2.1 y4.1 0 0 0 y13.1 ([] : LR))) then some (y0.1, y1.1, y2.1, y3.1, y3.2.1, y4.1, 0, 0, 0, y13.1, true, y13.2.2.1, y13.2.2.2.1, y13.2.2.2.2) else some (y0.1, y1.1, y2.1, y3.1, y3.2.1, y4.1, 0, 0, 0, y13.1, y13.2.1, y13.2.2.1, y13.2.2.2.1, y13.2.2.2.2)))) else (if y4.2.2.2.2 then some (y0.1, y1.1, y2.1, y3.1, y3.2.1, y4.1, 0, 0, 0, 0, true, y4.2.2.1, y4.2.2.2.1, y4.2.2.2.2) else (if (!(q0 y0.1 y1.1 y2.1 y3.1 y3.2.1 y4.1 0 0 0 0 ([] : LR))) then some (y0.1, y1.1, y2.1, y3.1, y3.2.1, y4.1, 0, 0, 0, 0, true, y4.2.2.1, y4.2.2.2.1, y4.2.2.2.2) else some (y0.1, y1.1, y2.1, y3.1, y3.2.1, y4.1, 0, 0, 0, 0, y4.2.1, y4.2.2.1, y4.2.2.2.1, y4.2.2.2.2))))))) else (if (qv y0.1 (1 : Int)) then (match (veil (qD.f BIG y3.2.2.2.1 y3.2.2.2.2.1 y3.2.2.2.2.2 y3.2.2.1 (4095 : Int))) with | none => none | some y14 => (if (qv y0.1 (2 : Int)) then (match (veil (qD.f BIG y14.2.2.1 y14.2.2.2.1 y14.2.2.2.2 y14.2.1 (veil (281474976710655 : Int)))) with | none => none | some y15 => (match (veil (qD.f BIG y15.2.2.1 y15.2.2.2.1 y15.2.2.2.2 y15.2.1 (65535 : Int))) with | none => none | some y16 => (if (qv y0.1 (3 : Int)) then (match (veil (qD.f BIG y16.2.2.1 y16.2.2.2.1 y16.2.2.2.2 y16.2.1 (65535 : Int))) with | none => none | some y17 => (if y17.2.2.2.2 then some (y0.1, y1.1, y2.1, y3.1, y3.2.1, 0, y14.1, y15.1, y16.1, y17.1, true, y17.2.2.1, y17.2.2.2.1, y17.2.2.2.2) else (if (!(q0 y0.1 y1.1 y2.1 y3.1 y3.2.1 0 y14.1 y15.1 y16.1 y17.1 ([] : LR))) then some (y0.1, y1.1, y2.1, y3.1, y3.2.1, 0, y14.1, y15.1, y16.1, y17.1, true, y17.2.2.1, y17.2.2.2.1, y17.2.2.2.2) else some (y0.1, y1.1, y2.1, y3.1, y3.2.1, 0, y14.1, y15.1, y16.1, y17.1, y17.2.1, y17.2.2.1, y17.2.2.2.1, y17.2.2.2.2)))) else (if y16.2.2.2.2 then some (y0.1, y1.1, y2.1, y3.1, y3.2.1, 0, y14.1, y15.1, y16.1, 0, true, y16.2.2.1, y16.2.2.2.1, y16.2.2.2.2) else (if (!(q0 y0.1 y1.1 y2.1 y3.1 y3.2.1 0 y14.1 y15.1 y16.1 0 ([] : LR))) then some (y0.1, y1.1, y2.1, y3.1, y3.2.1, 0, y14.1, y15.1, y16.1, 0, true, y16.2.2.1, y16.2.2.2.1, y16.2.2.2.2) else some (y0.1, y1.1, y2.1, y3.1, y3.2.1, 0, y14.1, y15.1, y16.1, 0, y16.2.1, y16.2.2.1, y16.2.2.2.1, y16.2.2.2.2)))))) else (if (qv y0.1 (3 : Int)) then (match (veil (qD.f BIG y14.2.2.1 y14.2.2.2.1 y14.2.2.2.2 y14.2.1 (65535 : Int))) with | none => none | some y18 => (if y18.2.2.2.2 then some (y0.1, y1.1, y2.1, y3.1, y3.2.1, 0, y14.1, 0, 0, y18.1, true, y18.2.2.1, y18.2.2.2.1, y18.2.2.2.2) else (if (!(q0 y0.1 y1.1 y2.1 y3.1 y3.2.1 0 y14.1 0 0 y18.1 ([] : LR))) then some (y0.1, y1.1, y2.1, y3.1, y3.2.1, 0, y14.1, 0, 0, y18.1, true, y18.2.2.1, y18.2.2.2.1, y18.2.2.2.2) else some (y0.1, y1.1, y2.1, y3.1, y3.2.1, 0, y14.1, 0, 0, y18.1, y18.2.1, y18.2.2.1, y18.2.2.2.1, y18.2.2.2.2)))) else (if y14.2.2.2.2 then some (y0.1, y1.1, y2.1, y3.1, y3.2.1, 0, y14.1, 0, 0, 0, true, y14.2.2.1, y14.2.2.2.1, y14.2.2.2.2) else (if (!(q0 y0.1 y1.1 y2.1 y3.1 y3.2.1 0 y14.1 0 0 0 ([] : LR))) then some (y0.1, y1.1, y2.1, y3.1, y3.2.1, 0, y14.1, 0, 0, 0, true, y14.2.2.1, y14.2.2.2.1, y14.2.2.2.2) else some (y0.1, y1.1, y2.1, y3.1, y3.2.1, 0, y14.1, 0, 0, 0, y14.2.1, y14.2.2.1, y14.2.2.2.1, y14.2.2.2.2)))))) else (if (qv y0.1 (2 : Int)) then (match (veil (qD.f BIG y3.2.2.2.1 y3.2.2.2.2.1 y3.2.2.2.2.2 y3.2.2.1 (veil (281474976710655 : Int)))) with | none => none | some y19 => (match (veil (qD.f BIG y19.2.2.1 y19.2.2.2.1 y19.2.2.2.2 y19.2.1 (65535 : Int))) with | none => none | some y20 => (if (qv y0.1 (3 : Int)) then (match (veil (qD.f BIG y20.2.2.1 y20.2.2.2.1 y20.2.2.2.2 y20.2.1 (65535 : Int))) with | none => none | some y21 => (if y21.2.2.2.2 then some (y0.1, y1.1, y2.1, y3.1, y3.2.1, 0, 0, y19.1, y20.1, y21.1, true, y21.2.2.1, y21.2.2.2.1, y21.2.2.2.2) else (if (!(q0 y0.1 y1.1 y2.1 y3.1 y3.2.1 0 0 y19.1 y20.1 y21.1 ([] : LR))) then some (y0.1, y1.1, y2.1, y3.1, y3.2.1, 0, 0, y19.1, y20.1, y21.1, true, y21.2.2.1, y21.2.2.2.1, y21.2.2.2.2) else some (y0.1, y1.1, y2.1, y3.1, y3.2.1, 0, 0, y19.1, y20.1, y21.1, y21.2.1, y21.2.2.1, y21.2.2.2.1, y21.2.2.2.2)))) else (if y20.2.2.2.2 then some (y0.1, y1.1, y2.1, y3.1, y3.2.1, 0, 0, y19.1, y20.1, 0, true, y20.2.2.1, y20.2.2.2.1, y20.2.2.2.2) else (if (!(q0 y0.1 y1.1 y2.1 y3.1 y3.2.1 0 0 y19.1 y20.1 0 ([] : LR))) then some (y0.1, y1.1, y2.1, y3.1, y3.2.1, 0, 0, y19.1, y20.1, 0, true, y20.2.2.1, y20.2.2.2.1, y20.2.2.2.2) else some (y0.1, y1.1, y2.1, y3.1, y3.2.1, 0, 0, y19.1, y20.1, 0, y20.2.1, y20.2.2.1, y20.2.2.2.1, y20.2.2.2.2)))))) else (if (qv y0.1 (3 : Int)) then (match (veil (qD.f BIG y3.2.2.2.1 y3.2.2.2.2.1 y3.2.2.2.2.2 y3.2.2.1 (65535 : Int))) with | none => none | some y22 => (if y22.2.2.2.2 then some (y0.1, y1.1, y2.1, y3.1, y3.2.1, 0, 0, 0, 0, y22.1, true, y22.2.2.1, y22.2.2.2.1, y22.2.2.2.2) else (if (!(q0 y0.1 y1.1 y2.1 y3.1 y3.2.1 0 0 0 0 y22.1 ([] : LR))) then some (y0.1, y1.1, y2.1, y3.1, y3.2.1, 0, 0, 0, 0, y22.1, true, y22.2.2.1, y22.2.2.2.1, y22.2.2.2.2) else some (y0.1, y1.1, y2.1, y3.1, y3.2.1, 0, 0, 0, 0, y22.1, y22.2.1, y22.2.2.1, y22.2.2.2.1, y22.2.2.2.2)))) else (if y3.2.2.2.2.2 then some (y0.1, y1.1, y2.1, y3.1, y3.2.1, 0, 0, 0, 0, 0, true, y3.2.2.2.1, y3.2.2.2.2.1, y3.2.2.2.2.2) else (if (!(q0 y0.1 y1.1 y2.1 y3.1 y3.2.1 0 0 0 0 0 ([] : LR))) then some (y0.1, y1.1, y2.1, y3.1, y3.2.1, 0, 0, 0, 0, 0, true, y3.2.2.2.1, y3.2.2.2.2.1, y3.2.2.2.2.2) else some (y0.1, y1.1, y2.1, y3.1, y3.2.1, 0, 0, 0, 0, 0, y3.2.2.1, y3.2.2.2.1, y3.2.2.2.2.1, y3.2.2.2.2.2))))))))))) else none)
def zJ.f (qa : Nat) (bs : List Int) (at0 : Int) (bad qY : Bool) : Option (Int × Int × Int × Int × Int × Int × Int × Int × Int × Int × Bool × (List Int) × Int × Bool) := zJ.b bs at0 bad qY
theorem zJ.eq (qa : Nat) (bs : List Int) (at0 : Int) (bad qY : Bool) : (denF qee loopN qa Tryz.f74 [.raw] [.ptr 0 0] [.box [.ptr 1 0, .d .bool qY], .box [.d (.sl (.int .u8)) bs, .d tQi at0, .d .bool bad]] zJ.k) = zJ.f qa bs at0 bad qY := by
 kernel_rfl
def Zw : Den.Sum := ⟨[.pb [.frz none [0] 0 (.int .u8)]], fun qH ql κ => match qH, ql with
 | [.ptr 0 0], [.box [.ptr 1 0, .d .bool qY], .box [.d (.sl (.int .u8)) bs, .d (.int .i64) at0, .d .bool bad]] => (match veil (zJ.f BIG bs at0 bad qY) with | none => none | some y => κ [.agg [.d (.int .i64) y.1, .d (.int .i64) y.2.1, .d (.int .i64) y.2.2.1, .d (.int .i64) y.2.2.2.1, .d (.int .i64) y.2.2.2.2.1, .d (.int .i64) y.2.2.2.2.2.1, .d (.int .i64) y.2.2.2.2.2.2.1, .d (.int .i64) y.2.2.2.2.2.2.2.1, .d (.int .i64) y.2.2.2.2.2.2.2.2.1, .d (.int .i64) y.2.2.2.2.2.2.2.2.2.1, .nilsl]] [.box [.ptr 1 0, .d .bool y.2.2.2.2.2.2.2.2.2.2.1], .box [.d (.sl (.int .u8)) y.2.2.2.2.2.2.2.2.2.2.2.1, .d (.int .i64) y.2.2.2.2.2.2.2.2.2.2.2.2.1, .d .bool y.2.2.2.2.2.2.2.2.2.2.2.2.2]])
 | _, _ => none⟩
theorem qfH : SumDet Zw := zi fun _ _ _ _ => by
 unfold Zw
 simp only [veil_eq]
 split
 ·split <;> rfl
 ·rfl
theorem qfZ : SumOk Tryz.prog 74 Zw := by
 have hE : EnvOk Tryz.prog qee := env_ok (l := [(76, Q1), (41, qaa), (98, zK), (52, Zc), (107, Qu), (84, qaA)]) th_ok qX ⟨⟨qaY, qav⟩, ⟨qbJ, qa5⟩, ⟨qaf, Z7⟩, ⟨qaZ, qax⟩, ⟨qbV, qbK⟩, ⟨qcF, qb1⟩, trivial⟩ _
 refine sum_ok hE Tryz.func74 rfl (by kernel_rfl) Zw [.raw] zJ.k ?_
 intro R avs ql κ r h
 unfold Zw at h
 simp only [veil_eq] at h
 split at h
 ·rename_i qY bs at0 bad
  split at h
  ·cases h
  ·rename_i y hy
   refine ⟨BIG, _, _, _, (zJ.eq BIG bs at0 bad qY).trans hy, ?_, h⟩
   intro rs ros hk
   unfold zJ.k at hk
   split at hk
   ·rw [← sj hk]; exact ⟨rfl, rfl⟩
   ·cases hk
 ·cases h
theorem qgE (l : List Int) : (strOf l).size = l.length := strOfNums_size l
def qeN : Nat → Int → List Int
 | 0, u => [48 + u]
 | j + 1, u => if u < 10 then [48 + u] else qeN j (u / 10) ++ [48 + u % 10]
def qqf (v : Int) : List Int := if v < 0 then 45 :: qeN 18 (-v) else qeN 18 v
def Q8 (v : Int) : ByteArray := strOf (qqf v)
theorem qj2 (j : Nat) (u : Int) (h : u < 10) : qeN j u = [48 + u] := by
 cases j with
 | zero => rfl
 | succ j => rw [qeN, if_pos h]
theorem qi9 : ∀ (j : Nat) (u : Int), (qeN j u).length ≤ j + 1
 | 0, u => by simp [qeN]
 | j + 1, u => by
  rw [qeN]
  split
  ·simp
  ·have := qi9 j (u / 10)
   simp; omega
theorem ZL (v : Int) : (Q8 v).size ≤ 20 := by
 unfold Q8
 rw [qgE]
 unfold qqf
 have h1 := qi9 18 v
 have h2 := qi9 18 (-v)
 split
 ·simp; omega
 ·omega
end
end Go.Proofs.YtneiiplppcjjlaaGreatDoor
