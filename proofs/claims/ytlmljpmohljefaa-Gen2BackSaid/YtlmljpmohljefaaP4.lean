/- The codecs, P4: C14 K17 S13 C15 K18 S14 C16 K19 S15 C17 K20 -/
import Derived.Test.YtlmljpmohljefaaTh
import Derived.Test.YtlmljpmohljefaaP3
import Derived.Test.YtlmljpmohljefaaP2
/- printed by denfn.py -/
set_option linter.unusedVariables false
namespace Go.Proofs.Ytlmljpmohljefaa
open Go.Den
noncomputable def inS (l : List Int) : Bool := inB l && decide (l.length < 1000000000)
noncomputable def n7 (n : Int) : Bool := decide (1 ≤ n) && decide (n ≤ 7)
noncomputable def fldsOk (l : List (Int × List Int)) : Bool := decide (l.length < 1099511600) && l.all fun x => inS x.2
noncomputable def valF (x : (Int × List Int)) (n : Int) : Int × Bool := if ((x.2.length : Int) == n) = true then (numB x.2, true) else (0, false)
/-- the number in the next item, which has a tag; the items behind it; whether one was not there -/
noncomputable def takeN (l : List (Int × List Int)) (bad : Bool) (t n : Int) : Int × List (Int × List Int) × Bool :=
  match l with
  | [] => (0, [], true)
  | x :: m => if bad || x.1 != t then (0, x :: m, true) else ((valF x n).1, m, !(valF x n).2)
noncomputable def spanN (l : List (Int × List Int)) (bad : Bool) (t : Int) : Int × Int × List (Int × List Int) × Bool :=
  ((ofGo allF (takeN l bad t 1).1).1, (ofGo allF (takeN l bad t 1).1).2.1, (takeN l bad t 1).2.1, (takeN l bad t 1).2.2)
/-- the items that bytes are -/
noncomputable def splitGo : Nat → List Int → Option (List (Int × List Int))
  | _, [] => some []
  | k + 1, t :: h :: w :: m => if (h * 256 + w) > (m.length : Int) then none else (splitGo k (m.drop (h * 256 + w).toNat)).map fun r => (t, m.take (h * 256 + w).toNat) :: r
  | _, _ => none
noncomputable def splitF (l : List Int) : List (Int × List Int) × Int := match splitGo l.length l with | some r => (r, 0) | none => ([], 2)
noncomputable def s_take : Den.Sum := ⟨[.raw, .raw], fun args objs κ => match args, objs with
  | [.ptr 0 0, .d (.int .i64) n], [.box [.d (.sl (.int .u8)) l, .d (.int .i64) a, .d .bool bad]] => if atOk l a = true then κ [.d (.sl (.int .u8)) (stepF l n a bad).1] [.box [.d (.sl (.int .u8)) l, .d (.int .i64) (stepF l n a bad).2.2.1, .d .bool (stepF l n a bad).2.2.2]] else none
  | _, _ => none⟩
noncomputable def s_takeb : Den.Sum := ⟨[.raw, .raw], fun args objs κ => match args, objs with
  | [.ptr 0 0, .d (.int .i64) n], [.box [.d (.sl (.int .u8)) l, .d (.int .i64) a, .d .bool bad]] => if atOk l a = true then (match veil (some (stepF l n a bad)) with | none => none | some y => κ [.d (.sl (.int .u8)) y.1] [.box [.d (.sl (.int .u8)) l, .d (.int .i64) y.2.2.1, .d .bool y.2.2.2]]) else none
  | _, _ => none⟩
noncomputable def s_split : Den.Sum := ⟨[.dat (.sl (.int .u8)) false], fun args objs κ => match args, objs with
  | [.d (.sl (.int .u8)) l], [] => if inS l = true then κ [.d (.sl (.pair (.int .i64) (.sl (.int .u8)))) (splitF l).1, .d (.int .i64) (splitF l).2] [] else none
  | _, _ => none⟩
noncomputable def s_splitb : Den.Sum := ⟨[.dat (.sl (.int .u8)) false], fun args objs κ => match args, objs with
  | [.d (.sl (.int .u8)) l], [] => if inS l = true then (match veil (some (splitF l)) with | none => none | some y => κ [.d (.sl (.pair (.int .i64) (.sl (.int .u8)))) y.1, .d (.int .i64) y.2] []) else none
  | _, _ => none⟩
noncomputable def s_value : Den.Sum := ⟨[.dat (.pair (.int .i64) (.sl (.int .u8))) true, .raw], fun args objs κ => match args, objs with
  | [.agg [.d (.int .i64) t, .d (.sl (.int .u8)) d], .d (.int .i64) n], [] => if (inB d && n7 n) = true then κ [.d (.int .i64) (valF (t, d) n).1, .d .bool (valF (t, d) n).2] [] else none
  | _, _ => none⟩
noncomputable def s_inum : Den.Sum := ⟨[.raw, .raw, .raw], fun args objs κ => match args, objs with
  | [.ptr 0 0, .d (.int .i64) t, .d (.int .i64) n], [.box [.d (.sl (.pair (.int .i64) (.sl (.int .u8)))) l, .d .bool bad]] => if (fldsOk l && n7 n) = true then κ [.d (.int .i64) (takeN l bad t n).1] [.box [.d (.sl (.pair (.int .i64) (.sl (.int .u8)))) (takeN l bad t n).2.1, .d .bool (takeN l bad t n).2.2]] else none
  | _, _ => none⟩
noncomputable def s_inumb : Den.Sum := ⟨[.raw, .raw, .raw], fun args objs κ => match args, objs with
  | [.ptr 0 0, .d (.int .i64) t, .d (.int .i64) n], [.box [.d (.sl (.pair (.int .i64) (.sl (.int .u8)))) l, .d .bool bad]] => if (fldsOk l && n7 n) = true then (match veil (some (takeN l bad t n)) with | none => none | some y => κ [.d (.int .i64) y.1] [.box [.d (.sl (.pair (.int .i64) (.sl (.int .u8)))) y.2.1, .d .bool y.2.2]]) else none
  | _, _ => none⟩
noncomputable def s_ispan : Den.Sum := ⟨[.raw, .raw], fun args objs κ => match args, objs with
  | [.ptr 0 0, .d (.int .i64) t], [.box [.d (.sl (.pair (.int .i64) (.sl (.int .u8)))) l, .d .bool bad]] => if fldsOk l = true then κ [.agg [.d (.int .i64) (spanN l bad t).1, .d (.int .i64) (spanN l bad t).2.1]] [.box [.d (.sl (.pair (.int .i64) (.sl (.int .u8)))) (spanN l bad t).2.2.1, .d .bool (spanN l bad t).2.2.2]] else none
  | _, _ => none⟩
noncomputable def s_ispanb : Den.Sum := ⟨[.raw, .raw], fun args objs κ => match args, objs with
  | [.ptr 0 0, .d (.int .i64) t], [.box [.d (.sl (.pair (.int .i64) (.sl (.int .u8)))) l, .d .bool bad]] => if fldsOk l = true then (match veil (some (spanN l bad t)) with | none => none | some y => κ [.agg [.d (.int .i64) y.1, .d (.int .i64) y.2.1]] [.box [.d (.sl (.pair (.int .i64) (.sl (.int .u8)))) y.2.2.1, .d .bool y.2.2.2]]) else none
  | _, _ => none⟩
noncomputable def RTake_E : Env := ⟨th, gam [(87, s_step)], fun i => ⟨[], [], []⟩⟩
noncomputable def RTake.k (rs : List AV) (os : List Den.Obj) : Option ((List Int) × (List Int) × Int × Bool) :=
  match rs, os with
  | [.d (.sl (.int .u8)) r0], [.box [.d (.sl (.int .u8)) r1, .d (.int .i64) r2, .d .bool r3]] => some (r0, r1, r2, r3)
  | _, _ => none
noncomputable def RTake.b (n : Int) (l : List Int) (a : Int) (bad : Bool) : Option ((List Int) × (List Int) × Int × Bool) :=
  (if (atOk l a) then (if (!(stepF l n a bad).2.1) then some (([] : List Int), l, (stepF l n a bad).2.2.1, (stepF l n a bad).2.2.2) else (if (((0 : Int) ≤ ((((List.length (stepF l n a bad).1)) : Nat) : Int)) ∧ ((((((List.length (stepF l n a bad).1)) : Nat) : Int) ≤ ((((List.length (stepF l n a bad).1)) : Nat) : Int)) ∧ (((((((List.length (stepF l n a bad).1)) : Nat) : Int) * ((((1 : Nat)) : Nat) : Int)) ≤ (1099511627776 : Int)) ∧ (((((List.length (stepF l n a bad).1)) : Nat) : Int) ≤ (1099511627776 : Int))))) then (if ((false = false) ∧ ((List.length (stepF l n a bad).1) ≤ (List.length (List.replicate (Int.toNat ((((List.length (stepF l n a bad).1)) : Nat) : Int)) (zeroI (Go.Den.Ty.int .u8)))))) then some (((stepF l n a bad).1 ++ (List.drop (List.length (stepF l n a bad).1) (List.replicate (Int.toNat ((((List.length (stepF l n a bad).1)) : Nat) : Int)) (zeroI (Go.Den.Ty.int .u8))))), l, (stepF l n a bad).2.2.1, (stepF l n a bad).2.2.2) else none) else none)) else none)
noncomputable def RTake.f (fuel : Nat) (n : Int) (l : List Int) (a : Int) (bad : Bool) : Option ((List Int) × (List Int) × Int × Bool) := RTake.b n l a bad
theorem RTake.eq (fuel : Nat) (n : Int) (l : List Int) (a : Int) (bad : Bool) : (denF RTake_E loopN fuel Try.f91 [.dat (.sl (.int .u8)) false] [.ptr 0 0, .d (.int .i64) n] [.box [.d (.sl (.int .u8)) l, .d (.int .i64) a, .d .bool bad]] RTake.k) = RTake.f fuel n l a bad := by
  kernel_rfl


noncomputable def Split_E : Env := ⟨th, gam [(54, s_read), (89, s_left), (55, s_rnumb), (91, s_takeb), (57, s_bad)], fun i => if i = 3 then ⟨[4, 5], [(4, 78, (.pair (.int .i64) (.sl (.int .u8))))], []⟩ else ⟨[], [], []⟩⟩
noncomputable def Split.k (rs : List AV) (os : List Den.Obj) : Option ((List (Int × (List Int))) × Int) :=
  match rs, os with
  | [.d (.sl (.pair (.int .i64) (.sl (.int .u8)))) r0, .d (.int .i64) r1], [] => some (r0, r1)
  | _, _ => none
noncomputable def Split.s3 (l : List Int) (x0 : (List (Int × (List Int)))) (x1 : Int) (x2 : Bool) : St := ⟨[.dead, .dead, .dead, .dead, .row 64, .ptr 65 0, .dead, .dead, .dead, .dead, .dead, .dead, .dead, .dead, .dead, .dead, .dead, .dead, .dead, .dead, .dead, .dead, .dead, .dead, .dead, .dead, .dead], ofL [(64, .row 78 (.pair (.int .i64) (.sl (.int .u8))) x0 false), (65, .box [.d (.sl (.int .u8)) (l), .d (.int .i64) x1, .d .bool x2])], 0⟩
noncomputable def Split.b3 (l : List Int) (A3 : (List (Int × (List Int))) → Int → Bool → Option ((List (Int × (List Int))) × Int)) (x0 : (List (Int × (List Int)))) (x1 : Int) (x2 : Bool) : Option ((List (Int × (List Int))) × Int) :=
  (if (atOk l x1) then (if (decide ((leftF l x1 x2) > (0 : Int))) then (if (atOk l x1) then (match (veil (Option.some (readF l (1 : Int) x1 x2))) with | none => none | some y3 => (if (atOk l y3.2.1) then (match (veil (Option.some (readF l (2 : Int) y3.2.1 y3.2.2))) with | none => none | some y4 => (if (atOk l y4.2.1) then (match (veil (Option.some (stepF l y4.1 y4.2.1 y4.2.2))) with | none => none | some y5 => (if y5.2.2.2 then some (([] : List (Int × (List Int))), (2 : Int)) else (if ((((List.length x0) + (List.length ((y3.1, y5.1) :: ([] : List (Int × (List Int)))))) * (32 : Nat)) ≤ lim) then A3 (x0 ++ ((y3.1, y5.1) :: ([] : List (Int × (List Int))))) y5.2.2.1 y5.2.2.2 else none))) else none)) else none)) else none) else some (x0, (0 : Int))) else none)
noncomputable def Split.l3 (fuel : Nat) (l : List Int) : Nat → (List (Int × (List Int))) → Int → Bool → Option ((List (Int × (List Int))) × Int)
  | 0, _, _, _ => none
  | k + 1, x0, x1, x2 => Split.b3 l (Split.l3 fuel l k) x0 x1 x2
noncomputable def Split.b (l : List Int) (E3 : (List (Int × (List Int))) → Int → Bool → Option ((List (Int × (List Int))) × Int)) : Option ((List (Int × (List Int))) × Int) :=
  (if (inB l) then E3 ([] : List (Int × (List Int))) 0 false else none)
noncomputable def Split.f (fuel : Nat) (l : List Int) : Option ((List (Int × (List Int))) × Int) := Split.b l (Split.l3 fuel l fuel)
theorem Split.l3_eq (fuel : Nat) (l : List Int) : ∀ (k : Nat) (x0 : (List (Int × (List Int)))) (x1 : Int) (x2 : Bool), lp Split_E fuel Try.f68 [.dat (.sl (.pair (.int .i64) (.sl (.int .u8)))) false, .raw] 0 Split.k 3 [] k (Split.s3 l x0 x1 x2) = Split.l3 fuel l k x0 x1 x2 := by
  intro k
  induction k with
  | zero => intro x0 x1 x2; rfl
  | succ k ih =>
    intro x0 x1 x2
    have h : lp Split_E fuel Try.f68 [.dat (.sl (.pair (.int .i64) (.sl (.int .u8)))) false, .raw] 0 Split.k 3 [] (k + 1) (Split.s3 l x0 x1 x2) = Split.b3 l (fun x0 x1 x2 => lp Split_E fuel Try.f68 [.dat (.sl (.pair (.int .i64) (.sl (.int .u8)))) false, .raw] 0 Split.k 3 [] k (Split.s3 l x0 x1 x2)) x0 x1 x2 := by kernel_rfl
    rw [h]
    have e3 : (fun x0 x1 x2 => lp Split_E fuel Try.f68 [.dat (.sl (.pair (.int .i64) (.sl (.int .u8)))) false, .raw] 0 Split.k 3 [] k (Split.s3 l x0 x1 x2)) = Split.l3 fuel l k := (funext fun x0 => (funext fun x1 => (funext fun x2 => ih x0 x1 x2)))
    rw [e3]
    rfl
theorem Split.eq (fuel : Nat) (l : List Int) : (denF Split_E loopN fuel Try.f68 [.dat (.sl (.pair (.int .i64) (.sl (.int .u8)))) false, .raw] [.d (.sl (.int .u8)) l] [] Split.k) = Split.f fuel l := by
  have h : (denF Split_E loopN fuel Try.f68 [.dat (.sl (.pair (.int .i64) (.sl (.int .u8)))) false, .raw] [.d (.sl (.int .u8)) l] [] Split.k) = Split.b l (fun x0 x1 x2 => lp Split_E fuel Try.f68 [.dat (.sl (.pair (.int .i64) (.sl (.int .u8)))) false, .raw] 0 Split.k 3 [] fuel (Split.s3 l x0 x1 x2)) := by kernel_rfl
  rw [h]
  have e3 : (fun x0 x1 x2 => lp Split_E fuel Try.f68 [.dat (.sl (.pair (.int .i64) (.sl (.int .u8)))) false, .raw] 0 Split.k 3 [] fuel (Split.s3 l x0 x1 x2)) = Split.l3 fuel l fuel := (funext fun x0 => (funext fun x1 => (funext fun x2 => Split.l3_eq fuel l fuel x0 x1 x2)))
  rw [e3]
  rfl


noncomputable def Value_E : Env := ⟨th, gam [(54, s_read), (55, s_rnum), (59, s_done)], fun i => ⟨[], [], []⟩⟩
noncomputable def Value.k (rs : List AV) (os : List Den.Obj) : Option (Int × Bool) :=
  match rs, os with
  | [.d (.int .i64) r0, .d .bool r1], [] => some (r0, r1)
  | _, _ => none
noncomputable def Value.b (t : Int) (d : List Int) (n : Int) : Option (Int × Bool) :=
  (if (inB d) then (if (atOk d 0) then (if (atOk d (readF d n 0 false).2.1) then (if (!((!(readF d n 0 false).2.2) && ((leftF d (readF d n 0 false).2.1 (readF d n 0 false).2.2) == (0 : Int)))) then some ((0 : Int), false) else some ((readF d n 0 false).1, true)) else none) else none) else none)
noncomputable def Value.f (fuel : Nat) (t : Int) (d : List Int) (n : Int) : Option (Int × Bool) := Value.b t d n
theorem Value.eq (fuel : Nat) (t : Int) (d : List Int) (n : Int) : (denF Value_E loopN fuel Try.f92 [.raw, .raw] [.agg [.d (.int .i64) t, .d (.sl (.int .u8)) d], .d (.int .i64) n] [] Value.k) = Value.f fuel t d n := by
  kernel_rfl


noncomputable def INum_E : Env := ⟨th, gam [(92, s_value)], fun i => ⟨[], [], []⟩⟩
noncomputable def INum.k (rs : List AV) (os : List Den.Obj) : Option (Int × (List (Int × (List Int))) × Bool) :=
  match rs, os with
  | [.d (.int .i64) r0], [.box [.d (.sl (.pair (.int .i64) (.sl (.int .u8)))) r1, .d .bool r2]] => some (r0, r1, r2)
  | _, _ => none
noncomputable def INum.b (t : Int) (n : Int) (l : List (Int × List Int)) (bad : Bool) : Option (Int × (List (Int × (List Int))) × Bool) :=
  (if bad then some ((0 : Int), l, true) else (if (((((List.length l)) : Nat) : Int) == (0 : Int)) then some ((0 : Int), l, true) else (match (idx l (0 : Int)) with | none => none | some y0 => (if (y0.1 != t) then some ((0 : Int), l, true) else (match (idx l (0 : Int)) with | none => none | some y1 => (if ((inB y1.2) && (n7 n)) then (if (((0 : Int) ≤ (1 : Int)) ∧ ((1 : Int) ≤ ((((List.length l)) : Nat) : Int))) then some ((valF (y1.1, y1.2) n).1, (List.drop (Int.toNat (1 : Int)) (List.take (List.length l) l)), (!(valF (y1.1, y1.2) n).2)) else none) else none))))))
noncomputable def INum.f (fuel : Nat) (t : Int) (n : Int) (l : List (Int × List Int)) (bad : Bool) : Option (Int × (List (Int × (List Int))) × Bool) := INum.b t n l bad
theorem INum.eq (fuel : Nat) (t : Int) (n : Int) (l : List (Int × List Int)) (bad : Bool) : (denF INum_E loopN fuel Try.f69 [.raw] [.ptr 0 0, .d (.int .i64) t, .d (.int .i64) n] [.box [.d (.sl (.pair (.int .i64) (.sl (.int .u8)))) l, .d .bool bad]] INum.k) = INum.f fuel t n l bad := by
  kernel_rfl


noncomputable def ISpan_E : Env := ⟨th, gam [(69, s_inumb), (56, s_sofb)], fun i => ⟨[], [], []⟩⟩
noncomputable def ISpan.k (rs : List AV) (os : List Den.Obj) : Option (Int × Int × (List (Int × (List Int))) × Bool) :=
  match rs, os with
  | [.agg [.d (.int .i64) r0, .d (.int .i64) r1]], [.box [.d (.sl (.pair (.int .i64) (.sl (.int .u8)))) r2, .d .bool r3]] => some (r0, r1, r2, r3)
  | _, _ => none
noncomputable def ISpan.b (t : Int) (l : List (Int × List Int)) (bad : Bool) : Option (Int × Int × (List (Int × (List Int))) × Bool) :=
  (if ((fldsOk l) && (n7 (1 : Int))) then (match (veil (Option.some (takeN l bad t (1 : Int)))) with | none => none | some y0 => (match (veil (Option.some (ofGo allF y0.1))) with | none => none | some y1 => some (y1.1, y1.2.1, y0.2.1, y0.2.2))) else none)
noncomputable def ISpan.f (fuel : Nat) (t : Int) (l : List (Int × List Int)) (bad : Bool) : Option (Int × Int × (List (Int × (List Int))) × Bool) := ISpan.b t l bad
theorem ISpan.eq (fuel : Nat) (t : Int) (l : List (Int × List Int)) (bad : Bool) : (denF ISpan_E loopN fuel Try.f71 [.dat (.pair (.int .i64) (.int .i64)) true] [.ptr 0 0, .d (.int .i64) t] [.box [.d (.sl (.pair (.int .i64) (.sl (.int .u8)))) l, .d .bool bad]] ISpan.k) = ISpan.f fuel t l bad := by
  kernel_rfl


end Go.Proofs.Ytlmljpmohljefaa

set_option linter.unusedVariables false
set_option linter.unusedSimpArgs false
namespace Go.Proofs.Ytlmljpmohljefaa
open Go.Den
theorem inS_iff (l : List Int) : inS l = true ↔ inB l = true ∧ l.length < 1000000000 := by unfold inS; simp
theorem n7_iff (n : Int) : n7 n = true ↔ 1 ≤ n ∧ n ≤ 7 := by unfold n7; simp
theorem fldsOk_iff (l : List (Int × List Int)) : fldsOk l = true ↔ l.length < 1099511600 ∧ ∀ x ∈ l, inS x.2 = true := by unfold fldsOk; simp [List.all_eq_true]
theorem step_len (l : List Int) (n a : Int) (bad : Bool) : (stepF l n a bad).1.length ≤ l.length := by
  unfold stepF
  split
  · simp
  · split
    · simp
    · unfold seg; simp; omega
theorem step_none (l : List Int) (n a : Int) (bad : Bool) (h : (stepF l n a bad).2.1 = false) : (stepF l n a bad).1 = [] := by
  unfold stepF at h ⊢
  split
  · rfl
  · rename_i c
    rw [if_neg c] at h
    split
    · rfl
    · rename_i c2
      rw [if_neg c2] at h
      cases h
theorem RTake.pure (n : Int) (l : List Int) (a : Int) (bad : Bool) (hl : atOk l a = true) : RTake.f 0 n l a bad = some ((stepF l n a bad).1, l, (stepF l n a bad).2.2.1, (stepF l n a bad).2.2.2) := by
  unfold RTake.f RTake.b
  rw [if_pos hl]
  have h1 := step_len l n a bad
  obtain ⟨k1, k2, k3⟩ := (atOk_iff l a).1 hl
  have h2 := ((inB_iff l).1 k1).1
  cases hs : (stepF l n a bad).2.1
  · rw [if_pos (by simp), step_none l n a bad hs]
  · rw [if_neg (by simp), if_pos (by refine ⟨by omega, by omega, by omega, by omega⟩), if_pos (by simp)]
    simp
theorem Value.pure (t n : Int) (d : List Int) (hl : (inB d && n7 n) = true) : Value.f 0 t d n = some ((valF (t, d) n).1, (valF (t, d) n).2) := by
  rw [Bool.and_eq_true] at hl
  obtain ⟨hb, hn⟩ := hl
  obtain ⟨n1, n7⟩ := (n7_iff n).1 hn
  have h0 : atOk d 0 = true := (atOk_iff d 0).2 ⟨hb, by omega, by omega⟩
  have h1 := readF_at d n 0 false h0
  unfold Value.f Value.b
  rw [if_pos hb, if_pos h0, if_pos h1]
  have hn' : (if (decide (n < 1) || decide (n > 7)) = true then (-1 : Int) else n) = n := if_neg (by simp; omega)
  unfold valF
  by_cases c : n ≤ (d.length : Int)
  · have hst : stepF d n 0 false = (seg d 0 n, true, 0 + n, false) := by
      unfold stepF
      rw [if_neg (by simp), if_neg (by simp; omega)]
    have hr : readF d n 0 false = (numB (seg d 0 n), 0 + n, false) := by
      unfold readF
      dsimp only
      rw [hn', hst]
      rfl
    rw [hr]
    by_cases c2 : (d.length : Int) = n
    · have hseg : seg d 0 n = d := by
        unfold seg
        rw [show (0 : Int).toNat = 0 from rfl, List.drop_zero, List.take_of_length_le (by omega)]
      rw [hseg]
      simp [leftF, c2]
    · have c3 : ¬ ((d.length : Int) - (0 + n) = 0) := by omega
      simp [leftF, c2]
      omega
  · have hst : stepF d n 0 false = ([], false, 0, true) := by
      unfold stepF
      rw [if_neg (by simp), if_pos (by simp; omega)]
    have hr : readF d n 0 false = (0, 0, true) := by
      unfold readF
      dsimp only
      rw [hn', hst]
      rfl
    rw [hr]
    have c2 : ¬ ((d.length : Int) = n) := by omega
    simp [c2]
theorem idx_zero_cons {α : Type} (x : α) (m : List α) : idx (x :: m) (0 : Int) = some x := rfl
theorem INum.pure (t n : Int) (l : List (Int × List Int)) (bad : Bool) (hl : (fldsOk l && n7 n) = true) : INum.f 0 t n l bad = some ((takeN l bad t n).1, (takeN l bad t n).2.1, (takeN l bad t n).2.2) := by
  rw [Bool.and_eq_true] at hl
  obtain ⟨hf, hn⟩ := hl
  obtain ⟨f1, f2⟩ := (fldsOk_iff l).1 hf
  unfold INum.f INum.b takeN
  cases bad
  · cases l with
    | nil => rfl
    | cons x m =>
      have hx : inB x.2 = true := ((inS_iff _).1 (f2 x (by simp))).1
      rw [if_neg (by simp), if_neg (by simp; omega), idx_zero_cons]
      dsimp only
      by_cases c : x.1 = t
      · rw [if_neg (by simpa using c), if_pos (by rw [hx, hn]; rfl), if_pos (by simp; omega), if_neg (by simp [c])]
        simp
      · rw [if_pos (by simpa using c), if_pos (by simp [c])]
  · rw [if_pos rfl]
    cases l <;> simp
theorem ISpan.pure (t : Int) (l : List (Int × List Int)) (bad : Bool) (hl : fldsOk l = true) : ISpan.f 0 t l bad = some ((spanN l bad t).1, (spanN l bad t).2.1, (spanN l bad t).2.2.1, (spanN l bad t).2.2.2) := by
  unfold ISpan.f ISpan.b spanN
  simp only [veil_eq]
  rw [hl, if_pos (by rfl)]
theorem read_short (l : List Int) (n a : Int) (rest : List Int) (h1 : 1 ≤ n) (h7 : n ≤ 7) (h0 : 0 ≤ a) (hd : l.drop a.toNat = rest) (ha : a ≤ (l.length : Int)) (hr : (rest.length : Int) < n) : readF l n a false = (0, a, true) := by
  have hn' : (if (decide (n < 1) || decide (n > 7)) = true then (-1 : Int) else n) = n := if_neg (by simp; omega)
  have hlen : rest.length = l.length - a.toNat := by rw [← hd]; simp
  have hst : stepF l n a false = ([], false, a, true) := by
    unfold stepF
    rw [if_neg (by simp), if_pos (by simp; omega)]
  unfold readF
  dsimp only
  rw [hn', hst]
  rfl
theorem be2 (h w : Int) (h0 : 0 ≤ h) (h1 : h < 256) (w0 : 0 ≤ w) (w1 : w < 256) : be 2 (h * 256 + w) = [h, w] := by
  show be 1 ((h * 256 + w) / 256) ++ [(h * 256 + w) % 256] = [h, w]
  rw [show (h * 256 + w) / 256 = h from by omega, show (h * 256 + w) % 256 = w from by omega, be1 h h0 h1]
  rfl
theorem Split.loop (fuel : Nat) (l : List Int) (hl : inS l = true) : ∀ (k m : Nat) (a : Int) (acc : List (Int × List Int)), atOk l a = true → l.length - a.toNat < k → l.length - a.toNat ≤ m → acc.length ≤ a.toNat →
    Split.l3 fuel l k acc a false = (match splitGo m (l.drop a.toNat) with | some r => some (acc ++ r, 0) | none => some ([], 2)) := by
  obtain ⟨hb, hlen⟩ := (inS_iff l).1 hl
  intro k
  induction k with
  | zero => intro m a acc h1 h2; omega
  | succ k ih =>
    intro m a acc h1 h2 h3 h4
    obtain ⟨k1, k2, k3⟩ := (atOk_iff l a).1 h1
    rw [Split.l3]
    unfold Split.b3
    simp only [veil_eq]
    rw [if_pos h1]
    generalize hd : l.drop a.toNat = rest
    have hrl : rest.length = l.length - a.toNat := by rw [← hd]; simp
    have hmem : ∀ c ∈ rest, 0 ≤ c ∧ c ≤ 255 := fun c hc => ((inB_iff l).1 hb).2 c (List.mem_of_mem_drop (hd ▸ hc))
    cases rest with
    | nil =>
      simp at hrl
      rw [if_neg (by simp [leftF]; omega)]
      cases m <;> simp [splitGo]
    | cons t rest =>
      simp at hrl
      obtain ⟨m, rfl⟩ : ∃ m', m = m' + 1 := ⟨m - 1, by omega⟩
      have ht := hmem t (by simp)
      rw [if_pos (by simp [leftF]; omega), if_pos h1]
      have hr1 := read_be l 1 a t rest h1 (by omega) (by omega) ht.1 (by simp; omega) (by rw [hd, n1, be1 t ht.1 (by omega)]; rfl)
      obtain ⟨r1, r2, r3⟩ := hr1
      rw [r1]
      dsimp only
      rw [if_pos r3]
      match rest, hrl, hmem, hd, r2 with
      | [], hrl, hmem, hd, r2 =>
        rw [read_short l 2 (a + 1) [] (by omega) (by omega) (by omega) r2 (by simp at hrl; omega) (by simp)]
        dsimp only
        rw [if_pos r3]
        simp [stepF, splitGo]
      | [h], hrl, hmem, hd, r2 =>
        rw [read_short l 2 (a + 1) [h] (by omega) (by omega) (by omega) r2 (by simp at hrl; omega) (by simp)]
        dsimp only
        rw [if_pos r3]
        simp [stepF, splitGo]
      | h :: w :: rest, hrl, hmem, hd, r2 =>
        have hh := hmem h (by simp)
        have hw := hmem w (by simp)
        simp at hrl
        obtain ⟨q1, q2, q3⟩ := read_be l 2 (a + 1) (h * 256 + w) rest r3 (by omega) (by omega) (by omega) (by simp; omega) (by rw [r2, n2, be2 h w hh.1 (by omega) hw.1 (by omega)]; rfl)
        rw [q1]
        dsimp only
        rw [if_pos q3]
        rw [splitGo]
        have e3 : a + 1 + 2 = a + 3 := by omega
        rw [e3] at q2 q3 ⊢
        by_cases c : h * 256 + w > (rest.length : Int)
        · have hst : stepF l (h * 256 + w) (a + 3) false = ([], false, a + 3, true) := by
            unfold stepF
            rw [if_neg (by simp), if_pos (by simp; omega)]
          rw [hst, if_pos c]
          rfl
        · have hst : stepF l (h * 256 + w) (a + 3) false = (seg l (a + 3) (h * 256 + w), true, a + 3 + (h * 256 + w), false) := by
            unfold stepF
            rw [if_neg (by simp), if_neg (by simp; omega)]
          have hseg : seg l (a + 3) (h * 256 + w) = rest.take (h * 256 + w).toNat := by
            unfold seg
            rw [List.drop_take, show (a + 3 + (h * 256 + w)).toNat = (a + 3).toNat + (h * 256 + w).toNat from by omega, Nat.add_sub_cancel_left, q2]
          have hdr : l.drop (a + 3 + (h * 256 + w)).toNat = rest.drop (h * 256 + w).toNat := by
            rw [show (a + 3 + (h * 256 + w)).toNat = (a + 3).toNat + (h * 256 + w).toNat from by omega, ← List.drop_drop, q2]
          rw [hst, if_neg c]
          dsimp only
          rw [if_neg (by simp), if_pos (by simp [lim]; omega)]
          rw [ih m (a + 3 + (h * 256 + w)) _ ((atOk_iff _ _).2 ⟨hb, by omega, by omega⟩) (by omega) (by omega) (by simp; omega), hdr, hseg]
          cases splitGo m (rest.drop (h * 256 + w).toNat) <;> simp
theorem Split.pure (l : List Int) (hl : inS l = true) : Split.f (l.length + 1) l = some ((splitF l).1, (splitF l).2) := by
  obtain ⟨hb, hlen⟩ := (inS_iff l).1 hl
  unfold Split.f Split.b
  rw [if_pos hb, Split.loop (l.length + 1) l hl (l.length + 1) l.length 0 [] ((atOk_iff _ _).2 ⟨hb, by omega, by omega⟩) (by simp) (by simp) (by simp)]
  unfold splitF
  rw [show (0 : Int).toNat = 0 from rfl, List.drop_zero]
  cases splitGo l.length l <;> rfl
end Go.Proofs.Ytlmljpmohljefaa

set_option linter.unusedVariables false
namespace Go.Proofs.Ytlmljpmohljefaa
open Go.Den
theorem s_take_det : SumDet s_take := fun avs objs R κ => by
  show s_take.run avs objs (two κ) = (s_take.run avs objs (two some)).bind κ
  unfold s_take
  simp only
  split
  · first | rfl | (split <;> rfl)
  · rfl
theorem s_take_ok : SumOk Try.prog 91 s_take := by
  have hE : EnvOk Try.prog RTake_E := env_ok (l := [(87, s_step)]) th_ok any_ok ⟨⟨s_step_ok, s_step_det⟩, trivial⟩ _
  refine sum_ok hE Try.func91 rfl (by kernel_rfl) s_take [.dat (.sl (.int .u8)) false] RTake.k ?_
  intro R avs objs κ r h
  unfold s_take at h
  simp only at h
  split at h
  · rename_i n l a bad
    split at h
    case isFalse => cases h
    rename_i hl
    refine ⟨0, _, _, _, (RTake.eq (0) n l a bad).trans (RTake.pure n l a bad hl), ?_, h⟩
    intro rs ros hk
    unfold RTake.k at hk
    split at hk
    · first | (cases hk; exact ⟨rfl, rfl⟩) | (have e := Option.some.inj hk; rw [← e]; exact ⟨rfl, rfl⟩)
    · cases hk
  · cases h
theorem s_takeb_det : SumDet s_takeb := fun avs objs R κ => by
  show s_takeb.run avs objs (two κ) = (s_takeb.run avs objs (two some)).bind κ
  unfold s_takeb
  simp only [veil_eq]
  split
  · first | rfl | (split <;> rfl)
  · rfl
theorem s_takeb_ok : SumOk Try.prog 91 s_takeb := ⟨s_take_ok.1, fun avs objs κ r hr => s_take_ok.2 avs objs κ r (by
  unfold s_takeb at hr
  simp only [veil_eq] at hr
  split at hr
  · exact hr
  · cases hr)⟩
theorem s_split_det : SumDet s_split := fun avs objs R κ => by
  show s_split.run avs objs (two κ) = (s_split.run avs objs (two some)).bind κ
  unfold s_split
  simp only
  split
  · first | rfl | (split <;> rfl)
  · rfl
theorem s_split_ok : SumOk Try.prog 68 s_split := by
  have hE : EnvOk Try.prog Split_E := env_ok (l := [(54, s_read), (89, s_left), (55, s_rnumb), (91, s_takeb), (57, s_bad)]) th_ok any_ok ⟨⟨s_read_ok, s_read_det⟩, ⟨s_left_ok, s_left_det⟩, ⟨s_rnumb_ok, s_rnumb_det⟩, ⟨s_takeb_ok, s_takeb_det⟩, ⟨s_bad_ok, s_bad_det⟩, trivial⟩ _
  refine sum_ok hE Try.func68 rfl (by kernel_rfl) s_split [.dat (.sl (.pair (.int .i64) (.sl (.int .u8)))) false, .raw] Split.k ?_
  intro R avs objs κ r h
  unfold s_split at h
  simp only at h
  split at h
  · rename_i l
    split at h
    case isFalse => cases h
    rename_i hl
    refine ⟨l.length + 1, _, _, _, (Split.eq (l.length + 1) l).trans (Split.pure l hl), ?_, h⟩
    intro rs ros hk
    unfold Split.k at hk
    split at hk
    · first | (cases hk; exact ⟨rfl, rfl⟩) | (have e := Option.some.inj hk; rw [← e]; exact ⟨rfl, rfl⟩)
    · cases hk
  · cases h
theorem s_splitb_det : SumDet s_splitb := fun avs objs R κ => by
  show s_splitb.run avs objs (two κ) = (s_splitb.run avs objs (two some)).bind κ
  unfold s_splitb
  simp only [veil_eq]
  split
  · first | rfl | (split <;> rfl)
  · rfl
theorem s_splitb_ok : SumOk Try.prog 68 s_splitb := ⟨s_split_ok.1, fun avs objs κ r hr => s_split_ok.2 avs objs κ r (by
  unfold s_splitb at hr
  simp only [veil_eq] at hr
  split at hr
  · exact hr
  · cases hr)⟩
theorem s_value_det : SumDet s_value := fun avs objs R κ => by
  show s_value.run avs objs (two κ) = (s_value.run avs objs (two some)).bind κ
  unfold s_value
  simp only
  split
  · first | rfl | (split <;> rfl)
  · rfl
theorem s_value_ok : SumOk Try.prog 92 s_value := by
  have hE : EnvOk Try.prog Value_E := env_ok (l := [(54, s_read), (55, s_rnum), (59, s_done)]) th_ok any_ok ⟨⟨s_read_ok, s_read_det⟩, ⟨s_rnum_ok, s_rnum_det⟩, ⟨s_done_ok, s_done_det⟩, trivial⟩ _
  refine sum_ok hE Try.func92 rfl (by kernel_rfl) s_value [.raw, .raw] Value.k ?_
  intro R avs objs κ r h
  unfold s_value at h
  simp only at h
  split at h
  · rename_i t d n
    split at h
    case isFalse => cases h
    rename_i hl
    refine ⟨0, _, _, _, (Value.eq (0) t d n).trans (Value.pure t n d hl), ?_, h⟩
    intro rs ros hk
    unfold Value.k at hk
    split at hk
    · first | (cases hk; exact ⟨rfl, rfl⟩) | (have e := Option.some.inj hk; rw [← e]; exact ⟨rfl, rfl⟩)
    · cases hk
  · cases h
theorem s_inum_det : SumDet s_inum := fun avs objs R κ => by
  show s_inum.run avs objs (two κ) = (s_inum.run avs objs (two some)).bind κ
  unfold s_inum
  simp only
  split
  · first | rfl | (split <;> rfl)
  · rfl
theorem s_inum_ok : SumOk Try.prog 69 s_inum := by
  have hE : EnvOk Try.prog INum_E := env_ok (l := [(92, s_value)]) th_ok any_ok ⟨⟨s_value_ok, s_value_det⟩, trivial⟩ _
  refine sum_ok hE Try.func69 rfl (by kernel_rfl) s_inum [.raw] INum.k ?_
  intro R avs objs κ r h
  unfold s_inum at h
  simp only at h
  split at h
  · rename_i t n l bad
    split at h
    case isFalse => cases h
    rename_i hl
    refine ⟨0, _, _, _, (INum.eq (0) t n l bad).trans (INum.pure t n l bad hl), ?_, h⟩
    intro rs ros hk
    unfold INum.k at hk
    split at hk
    · first | (cases hk; exact ⟨rfl, rfl⟩) | (have e := Option.some.inj hk; rw [← e]; exact ⟨rfl, rfl⟩)
    · cases hk
  · cases h
theorem s_inumb_det : SumDet s_inumb := fun avs objs R κ => by
  show s_inumb.run avs objs (two κ) = (s_inumb.run avs objs (two some)).bind κ
  unfold s_inumb
  simp only [veil_eq]
  split
  · first | rfl | (split <;> rfl)
  · rfl
theorem s_inumb_ok : SumOk Try.prog 69 s_inumb := ⟨s_inum_ok.1, fun avs objs κ r hr => s_inum_ok.2 avs objs κ r (by
  unfold s_inumb at hr
  simp only [veil_eq] at hr
  split at hr
  · exact hr
  · cases hr)⟩
theorem s_ispan_det : SumDet s_ispan := fun avs objs R κ => by
  show s_ispan.run avs objs (two κ) = (s_ispan.run avs objs (two some)).bind κ
  unfold s_ispan
  simp only
  split
  · first | rfl | (split <;> rfl)
  · rfl
theorem s_ispan_ok : SumOk Try.prog 71 s_ispan := by
  have hE : EnvOk Try.prog ISpan_E := env_ok (l := [(69, s_inumb), (56, s_sofb)]) th_ok any_ok ⟨⟨s_inumb_ok, s_inumb_det⟩, ⟨s_sofb_ok, s_sofb_det⟩, trivial⟩ _
  refine sum_ok hE Try.func71 rfl (by kernel_rfl) s_ispan [.dat (.pair (.int .i64) (.int .i64)) true] ISpan.k ?_
  intro R avs objs κ r h
  unfold s_ispan at h
  simp only at h
  split at h
  · rename_i t l bad
    split at h
    case isFalse => cases h
    rename_i hl
    refine ⟨0, _, _, _, (ISpan.eq (0) t l bad).trans (ISpan.pure t l bad hl), ?_, h⟩
    intro rs ros hk
    unfold ISpan.k at hk
    split at hk
    · first | (cases hk; exact ⟨rfl, rfl⟩) | (have e := Option.some.inj hk; rw [← e]; exact ⟨rfl, rfl⟩)
    · cases hk
  · cases h
theorem s_ispanb_det : SumDet s_ispanb := fun avs objs R κ => by
  show s_ispanb.run avs objs (two κ) = (s_ispanb.run avs objs (two some)).bind κ
  unfold s_ispanb
  simp only [veil_eq]
  split
  · first | rfl | (split <;> rfl)
  · rfl
theorem s_ispanb_ok : SumOk Try.prog 71 s_ispanb := ⟨s_ispan_ok.1, fun avs objs κ r hr => s_ispan_ok.2 avs objs κ r (by
  unfold s_ispanb at hr
  simp only [veil_eq] at hr
  split at hr
  · exact hr
  · cases hr)⟩
end Go.Proofs.Ytlmljpmohljefaa

/- printed by denfn.py -/
set_option linter.unusedVariables false
namespace Go.Proofs.Ytlmljpmohljefaa
open Go.Den
noncomputable def recD (b : List Int) : (Int × Int × Int × (Int × Int) × Bool × List (Int × List Int)) × Bool :=
  let y := splitF b
  let y1 := takeN y.1 (y.2 != 0) 1 2
  let y2 := takeN y1.2.1 y1.2.2 2 4
  let y3 := takeN y2.2.1 y2.2.2 3 1
  let y4 := spanN y3.2.1 y3.2.2 4
  ((y1.1, y2.1, y3.1 % 128, (y4.1, y4.2.1), decide (y3.1 ≥ 128), y4.2.2.1), !y4.2.2.2)
noncomputable def takeIf (kind p : Int) (l : List (Int × List Int)) (bad : Bool) (t : Int) : Int × List (Int × List Int) × Bool := if hasF kind p then takeN l bad t 2 else (0, l, bad)
noncomputable def s_rec2 : Den.Sum := ⟨[.dat (.sl (.int .u8)) false], fun args objs κ => match args, objs with
  | [.d (.sl (.int .u8)) b], [] => if inS b = true then κ [.agg [.d (.int .i64) (recD b).1.1, .d (.int .i64) (recD b).1.2.1, .d (.int .i64) (recD b).1.2.2.1, .d (.int .i64) (recD b).1.2.2.2.1.1, .d (.int .i64) (recD b).1.2.2.2.1.2, .d .bool (recD b).1.2.2.2.2.1, .d (.sl (.pair (.int .i64) (.sl (.int .u8)))) (recD b).1.2.2.2.2.2], .d .bool (recD b).2] [] else none
  | _, _ => none⟩
noncomputable def s_rec2b : Den.Sum := ⟨[.dat (.sl (.int .u8)) false], fun args objs κ => match args, objs with
  | [.d (.sl (.int .u8)) b], [] => if inS b = true then (match veil (some (recD b)) with | none => none | some y => κ [.agg [.d (.int .i64) y.1.1, .d (.int .i64) y.1.2.1, .d (.int .i64) y.1.2.2.1, .d (.int .i64) y.1.2.2.2.1.1, .d (.int .i64) y.1.2.2.2.1.2, .d .bool y.1.2.2.2.2.1, .d (.sl (.pair (.int .i64) (.sl (.int .u8)))) y.1.2.2.2.2.2], .d .bool y.2] []) else none
  | _, _ => none⟩
noncomputable def s_tk : Den.Sum := ⟨[.raw, .raw, .raw, .raw], fun args objs κ => match args, objs with
  | [.d (.int .i64) p, .d (.int .i64) t, .ptr 0 0, .ptr 1 0], [.box [.d (.int .i64) kind, .d (.int .i64) from0, .d (.int .i64) inc, .d (.int .i64) lo, .d (.int .i64) hi, .d (.int .i64) seq, .d (.int .i64) target, .d (.int .i64) life, .d (.int .i64) epoch, .d (.int .i64) base, .nilsl], .box [.ptr 2 0], .box [.d (.sl (.pair (.int .i64) (.sl (.int .u8)))) l, .d .bool bad]] => if fldsOk l = true then κ [.d (.int .i64) (takeIf kind p l bad t).1] [.box [.d (.int .i64) kind, .d (.int .i64) from0, .d (.int .i64) inc, .d (.int .i64) lo, .d (.int .i64) hi, .d (.int .i64) seq, .d (.int .i64) target, .d (.int .i64) life, .d (.int .i64) epoch, .d (.int .i64) base, .nilsl], .box [.ptr 2 0], .box [.d (.sl (.pair (.int .i64) (.sl (.int .u8)))) (takeIf kind p l bad t).2.1, .d .bool (takeIf kind p l bad t).2.2]] else none
  | _, _ => none⟩
noncomputable def s_tkb : Den.Sum := ⟨[.raw, .raw, .raw, .raw], fun args objs κ => match args, objs with
  | [.d (.int .i64) p, .d (.int .i64) t, .ptr 0 0, .ptr 1 0], [.box [.d (.int .i64) kind, .d (.int .i64) from0, .d (.int .i64) inc, .d (.int .i64) lo, .d (.int .i64) hi, .d (.int .i64) seq, .d (.int .i64) target, .d (.int .i64) life, .d (.int .i64) epoch, .d (.int .i64) base, .nilsl], .box [.ptr 2 0], .box [.d (.sl (.pair (.int .i64) (.sl (.int .u8)))) l, .d .bool bad]] => if fldsOk l = true then (match veil (some (takeIf kind p l bad t)) with | none => none | some y => κ [.d (.int .i64) y.1] [.box [.d (.int .i64) kind, .d (.int .i64) from0, .d (.int .i64) inc, .d (.int .i64) lo, .d (.int .i64) hi, .d (.int .i64) seq, .d (.int .i64) target, .d (.int .i64) life, .d (.int .i64) epoch, .d (.int .i64) base, .nilsl], .box [.ptr 2 0], .box [.d (.sl (.pair (.int .i64) (.sl (.int .u8)))) y.2.1, .d .bool y.2.2]]) else none
  | _, _ => none⟩
noncomputable def Rec2_E : Env := ⟨th, gam [(68, s_splitb), (69, s_inumb), (71, s_ispanb)], fun i => ⟨[], [], []⟩⟩
noncomputable def Rec2.k (rs : List AV) (os : List Den.Obj) : Option (Int × Int × Int × Int × Int × Bool × (List (Int × (List Int))) × Bool) :=
  match rs, os with
  | [.agg [.d (.int .i64) r0, .d (.int .i64) r1, .d (.int .i64) r2, .d (.int .i64) r3, .d (.int .i64) r4, .d .bool r5, .d (.sl (.pair (.int .i64) (.sl (.int .u8)))) r6], .d .bool r7], [] => some (r0, r1, r2, r3, r4, r5, r6, r7)
  | _, _ => none
noncomputable def Rec2.b (b : List Int) : Option (Int × Int × Int × Int × Int × Bool × (List (Int × (List Int))) × Bool) :=
  (if (inS b) then (match (veil (Option.some (splitF b))) with | none => none | some y0 => (if ((fldsOk y0.1) && (n7 (2 : Int))) then (match (veil (Option.some (takeN y0.1 (y0.2 != (0 : Int)) (1 : Int) (2 : Int)))) with | none => none | some y1 => (if ((fldsOk y1.2.1) && (n7 (4 : Int))) then (match (veil (Option.some (takeN y1.2.1 y1.2.2 (2 : Int) (4 : Int)))) with | none => none | some y2 => (if ((fldsOk y2.2.1) && (n7 (1 : Int))) then (match (veil (Option.some (takeN y2.2.1 y2.2.2 (3 : Int) (1 : Int)))) with | none => none | some y3 => (if (fldsOk y3.2.1) then (match (veil (Option.some (spanN y3.2.1 y3.2.2 (4 : Int)))) with | none => none | some y4 => (if (((((List.length y4.2.2.1)) : Nat) : Int) == (0 : Int)) then some (y1.1, y2.1, (bits Go.BinOp.andNot .i64 y3.1 (128 : Int)), y4.1, y4.2.1, (decide (y3.1 ≥ (128 : Int))), ([] : List (Int × (List Int))), (!y4.2.2.2)) else some (y1.1, y2.1, (bits Go.BinOp.andNot .i64 y3.1 (128 : Int)), y4.1, y4.2.1, (decide (y3.1 ≥ (128 : Int))), y4.2.2.1, (!y4.2.2.2)))) else none)) else none)) else none)) else none)) else none)
noncomputable def Rec2.f (fuel : Nat) (b : List Int) : Option (Int × Int × Int × Int × Int × Bool × (List (Int × (List Int))) × Bool) := Rec2.b b
theorem Rec2.eq (fuel : Nat) (b : List Int) : (denF Rec2_E loopN fuel Try.f72 [.dat (.pair (.int .i64) (.pair (.int .i64) (.pair (.int .i64) (.pair (.pair (.int .i64) (.int .i64)) (.pair .bool (.sl (.pair (.int .i64) (.sl (.int .u8))))))))) true, .raw] [.d (.sl (.int .u8)) b] [] Rec2.k) = Rec2.f fuel b := by
  kernel_rfl


noncomputable def Tk_E : Env := ⟨th, gam [(50, s_has), (69, s_inumb)], fun i => ⟨[], [], []⟩⟩
noncomputable def Tk.k (rs : List AV) (os : List Den.Obj) : Option (Int × Int × Int × Int × Int × Int × Int × Int × Int × Int × Int × (List (Int × (List Int))) × Bool) :=
  match rs, os with
  | [.d (.int .i64) r0], [.box [.d (.int .i64) r1, .d (.int .i64) r2, .d (.int .i64) r3, .d (.int .i64) r4, .d (.int .i64) r5, .d (.int .i64) r6, .d (.int .i64) r7, .d (.int .i64) r8, .d (.int .i64) r9, .d (.int .i64) r10, .nilsl], .box [.ptr 2 0], .box [.d (.sl (.pair (.int .i64) (.sl (.int .u8)))) r11, .d .bool r12]] => some (r0, r1, r2, r3, r4, r5, r6, r7, r8, r9, r10, r11, r12)
  | _, _ => none
noncomputable def Tk.b (p : Int) (t : Int) (kind : Int) (from0 : Int) (inc : Int) (lo : Int) (hi : Int) (seq : Int) (target : Int) (life : Int) (epoch : Int) (base : Int) (l : List (Int × List Int)) (bad : Bool) : Option (Int × Int × Int × Int × Int × Int × Int × Int × Int × Int × Int × (List (Int × (List Int))) × Bool) :=
  (if (!(hasF kind p)) then some ((0 : Int), kind, from0, inc, lo, hi, seq, target, life, epoch, base, l, bad) else (if ((fldsOk l) && (n7 (2 : Int))) then (match (veil (Option.some (takeN l bad t (2 : Int)))) with | none => none | some y0 => some (y0.1, kind, from0, inc, lo, hi, seq, target, life, epoch, base, y0.2.1, y0.2.2)) else none))
noncomputable def Tk.f (fuel : Nat) (p : Int) (t : Int) (kind : Int) (from0 : Int) (inc : Int) (lo : Int) (hi : Int) (seq : Int) (target : Int) (life : Int) (epoch : Int) (base : Int) (l : List (Int × List Int)) (bad : Bool) : Option (Int × Int × Int × Int × Int × Int × Int × Int × Int × Int × Int × (List (Int × (List Int))) × Bool) := Tk.b p t kind from0 inc lo hi seq target life epoch base l bad
theorem Tk.eq (fuel : Nat) (p : Int) (t : Int) (kind : Int) (from0 : Int) (inc : Int) (lo : Int) (hi : Int) (seq : Int) (target : Int) (life : Int) (epoch : Int) (base : Int) (l : List (Int × List Int)) (bad : Bool) : (denF Tk_E loopN fuel Try.f70 [.raw] [.d (.int .i64) p, .d (.int .i64) t, .ptr 0 0, .ptr 1 0] [.box [.d (.int .i64) kind, .d (.int .i64) from0, .d (.int .i64) inc, .d (.int .i64) lo, .d (.int .i64) hi, .d (.int .i64) seq, .d (.int .i64) target, .d (.int .i64) life, .d (.int .i64) epoch, .d (.int .i64) base, .nilsl], .box [.ptr 2 0], .box [.d (.sl (.pair (.int .i64) (.sl (.int .u8)))) l, .d .bool bad]] Tk.k) = Tk.f fuel p t kind from0 inc lo hi seq target life epoch base l bad := by
  kernel_rfl


end Go.Proofs.Ytlmljpmohljefaa

set_option linter.unusedVariables false
set_option linter.unusedSimpArgs false
namespace Go.Proofs.Ytlmljpmohljefaa
open Go.Den
abbrev LF := List (Int × List Int)
theorem splitGo_ok : ∀ (k : Nat) (l : List Int) (r : LF), (∀ c ∈ l, 0 ≤ c ∧ c ≤ 255) → splitGo k l = some r →
    r.flatMap fieldB = l ∧ 3 * r.length ≤ l.length ∧ ∀ x ∈ r, (0 ≤ x.1 ∧ x.1 ≤ 255) ∧ x.2.length ≤ 65535 ∧ x.2.length ≤ l.length ∧ ∀ c ∈ x.2, 0 ≤ c ∧ c ≤ 255
  | k, [], r, hl, h => by
    have : r = [] := by cases k <;> simp [splitGo] at h <;> exact h.symm ▸ rfl
    subst this
    simp
  | 0, t :: l, r, hl, h => by simp [splitGo] at h
  | k + 1, [t], r, hl, h => by simp [splitGo] at h
  | k + 1, [t, a], r, hl, h => by simp [splitGo] at h
  | k + 1, t :: a :: w :: m, r, hl, h => by
    rw [splitGo] at h
    have ht := hl t (by simp)
    have ha := hl a (by simp)
    have hw := hl w (by simp)
    split at h
    · cases h
    · rename_i c
      generalize hn : (a * 256 + w).toNat = n at h
      have hnn : (n : Int) = a * 256 + w := by omega
      cases hs : splitGo k (m.drop n) with
      | none => rw [hs] at h; cases h
      | some q =>
        rw [hs] at h
        simp at h
        subst h
        obtain ⟨i1, i2, i3⟩ := splitGo_ok k (m.drop n) q (fun c hc => hl c (by simp [List.mem_of_mem_drop hc])) hs
        have hlen : (m.take n).length = n := by rw [List.length_take]; omega
        refine ⟨?_, ?_, ?_⟩
        · rw [List.flatMap_cons, i1]
          unfold fieldB
          rw [hlen]
          have e1 : ((n / 256 : Nat) : Int) = a := by omega
          have e2 : ((n % 256 : Nat) : Int) = w := by omega
          simp only [e1, e2]
          simp
        · simp at i2 ⊢; omega
        · intro x hx
          rcases List.mem_cons.1 hx with rfl | hx
          · refine ⟨ht, by rw [hlen]; omega, by rw [hlen]; simp; omega, fun c hc => hl c (by simp [List.mem_of_mem_take hc])⟩
          · obtain ⟨j1, j2, j3, j4⟩ := i3 x hx
            refine ⟨j1, j2, ?_, j4⟩
            simp at j3 ⊢
            omega
theorem inB_bytes {l : List Int} (h : inB l = true) : ∀ c ∈ l, 0 ≤ c ∧ c ≤ 255 := ((inB_iff l).1 h).2
theorem inS_of {l : List Int} (h : ∀ c ∈ l, 0 ≤ c ∧ c ≤ 255) (hl : l.length < 1000000000) : inS l = true := (inS_iff l).2 ⟨(inB_iff l).2 ⟨by omega, h⟩, hl⟩
theorem split_flds (b : List Int) (h : inS b = true) : fldsOk (splitF b).1 = true := by
  obtain ⟨hb, hl⟩ := (inS_iff b).1 h
  unfold splitF
  cases hs : splitGo b.length b with
  | none => rfl
  | some r =>
    obtain ⟨i1, i2, i3⟩ := splitGo_ok b.length b r (inB_bytes hb) hs
    refine (fldsOk_iff _).2 ⟨by show r.length < _; omega, fun x hx => ?_⟩
    obtain ⟨j1, j2, j3, j4⟩ := i3 x hx
    exact inS_of j4 (by omega)
theorem take_flds {l : LF} (h : fldsOk l = true) (bad : Bool) (t n : Int) : fldsOk (takeN l bad t n).2.1 = true := by
  unfold takeN
  cases l with
  | nil => rfl
  | cons x m =>
    dsimp only
    split
    · exact h
    · obtain ⟨h1, h2⟩ := (fldsOk_iff _).1 h
      refine (fldsOk_iff _).2 ⟨?_, fun y hy => h2 y (by simp [hy])⟩
      simp at h1
      show m.length < _
      omega
theorem span_flds {l : LF} (h : fldsOk l = true) (bad : Bool) (t : Int) : fldsOk (spanN l bad t).2.2.1 = true := take_flds h bad t 1
theorem take_byte {l : LF} (h : fldsOk l = true) (bad : Bool) (t : Int) : 0 ≤ (takeN l bad t 1).1 ∧ (takeN l bad t 1).1 ≤ 255 := by
  unfold takeN
  cases l with
  | nil => simp
  | cons x m =>
    dsimp only
    split
    · simp
    · unfold valF
      split
      · rename_i c
        have hx := ((inS_iff _).1 (((fldsOk_iff _).1 h).2 x (by simp))).1
        have hb := inB_bytes hx
        obtain ⟨a, v⟩ := x
        simp at c
        match v, c with
        | [c0], _ =>
          have := hb c0 (by simp)
          simp [numB]
          omega
      · simp
theorem andNot128 (v : Int) (h0 : 0 ≤ v) (h1 : v ≤ 255) : bits Go.BinOp.andNot .i64 v 128 = v % 128 := by
  have key : ∀ i : Fin 256, bits Go.BinOp.andNot .i64 ((i.val : Nat) : Int) 128 = ((i.val : Nat) : Int) % 128 := by decide +kernel
  have := key ⟨v.toNat, by omega⟩
  simp only [Int.toNat_of_nonneg h0] at this
  exact this
theorem Rec2.pure (b : List Int) (hl : inS b = true) : Rec2.f 0 b = some ((recD b).1.1, (recD b).1.2.1, (recD b).1.2.2.1, (recD b).1.2.2.2.1.1, (recD b).1.2.2.2.1.2, (recD b).1.2.2.2.2.1, (recD b).1.2.2.2.2.2, (recD b).2) := by
  unfold Rec2.f Rec2.b
  simp only [veil_eq]
  have h0 := split_flds b hl
  have h1 := take_flds h0 ((splitF b).2 != 0) 1 2
  unfold recD
  dsimp only
  generalize takeN (splitF b).1 ((splitF b).2 != 0) 1 2 = y1 at h1 ⊢
  have h2 := take_flds h1 y1.2.2 2 4
  generalize takeN y1.2.1 y1.2.2 2 4 = y2 at h2 ⊢
  have h3 := take_flds h2 y2.2.2 3 1
  have h3b := take_byte h2 y2.2.2 3
  generalize takeN y2.2.1 y2.2.2 3 1 = y3 at h3 h3b ⊢
  generalize spanN y3.2.1 y3.2.2 4 = y4
  rw [hl, h0, h1, h2, h3, andNot128 _ h3b.1 h3b.2]
  have k2 : n7 2 = true := rfl
  have k4 : n7 4 = true := rfl
  have k1 : n7 1 = true := rfl
  rw [k2, k4, k1]
  simp only [Bool.and_self, if_true]
  split
  · rename_i c
    have : y4.2.2.1 = [] := by simpa using c
    rw [this]
  · rfl
theorem Tk.pure (p t kind from0 inc lo hi seq target life epoch base : Int) (l : LF) (bad : Bool) (hl : fldsOk l = true) :
    Tk.f 0 p t kind from0 inc lo hi seq target life epoch base l bad = some ((takeIf kind p l bad t).1, kind, from0, inc, lo, hi, seq, target, life, epoch, base, (takeIf kind p l bad t).2.1, (takeIf kind p l bad t).2.2) := by
  unfold Tk.f Tk.b takeIf
  simp only [veil_eq]
  have k2 : n7 2 = true := rfl
  rw [hl, k2]
  cases hasF kind p <;> rfl
end Go.Proofs.Ytlmljpmohljefaa

set_option linter.unusedVariables false
namespace Go.Proofs.Ytlmljpmohljefaa
open Go.Den
theorem s_rec2_det : SumDet s_rec2 := fun avs objs R κ => by
  show s_rec2.run avs objs (two κ) = (s_rec2.run avs objs (two some)).bind κ
  unfold s_rec2
  simp only
  split
  · first | rfl | (split <;> rfl)
  · rfl
theorem s_rec2_ok : SumOk Try.prog 72 s_rec2 := by
  have hE : EnvOk Try.prog Rec2_E := env_ok (l := [(68, s_splitb), (69, s_inumb), (71, s_ispanb)]) th_ok any_ok ⟨⟨s_splitb_ok, s_splitb_det⟩, ⟨s_inumb_ok, s_inumb_det⟩, ⟨s_ispanb_ok, s_ispanb_det⟩, trivial⟩ _
  refine sum_ok hE Try.func72 rfl (by kernel_rfl) s_rec2 [.dat (.pair (.int .i64) (.pair (.int .i64) (.pair (.int .i64) (.pair (.pair (.int .i64) (.int .i64)) (.pair .bool (.sl (.pair (.int .i64) (.sl (.int .u8))))))))) true, .raw] Rec2.k ?_
  intro R avs objs κ r h
  unfold s_rec2 at h
  simp only at h
  split at h
  · rename_i b
    split at h
    case isFalse => cases h
    rename_i hl
    refine ⟨0, _, _, _, (Rec2.eq (0) b).trans (Rec2.pure b hl), ?_, h⟩
    intro rs ros hk
    unfold Rec2.k at hk
    split at hk
    · first | (cases hk; exact ⟨rfl, rfl⟩) | (have e := Option.some.inj hk; rw [← e]; exact ⟨rfl, rfl⟩)
    · cases hk
  · cases h
theorem s_rec2b_det : SumDet s_rec2b := fun avs objs R κ => by
  show s_rec2b.run avs objs (two κ) = (s_rec2b.run avs objs (two some)).bind κ
  unfold s_rec2b
  simp only [veil_eq]
  split
  · first | rfl | (split <;> rfl)
  · rfl
theorem s_rec2b_ok : SumOk Try.prog 72 s_rec2b := ⟨s_rec2_ok.1, fun avs objs κ r hr => s_rec2_ok.2 avs objs κ r (by
  unfold s_rec2b at hr
  simp only [veil_eq] at hr
  split at hr
  · exact hr
  · cases hr)⟩
theorem s_tk_det : SumDet s_tk := fun avs objs R κ => by
  show s_tk.run avs objs (two κ) = (s_tk.run avs objs (two some)).bind κ
  unfold s_tk
  simp only
  split
  · first | rfl | (split <;> rfl)
  · rfl
theorem s_tk_ok : SumOk Try.prog 70 s_tk := by
  have hE : EnvOk Try.prog Tk_E := env_ok (l := [(50, s_has), (69, s_inumb)]) th_ok any_ok ⟨⟨s_has_ok, s_has_det⟩, ⟨s_inumb_ok, s_inumb_det⟩, trivial⟩ _
  refine sum_ok hE Try.func70 rfl (by kernel_rfl) s_tk [.raw] Tk.k ?_
  intro R avs objs κ r h
  unfold s_tk at h
  simp only at h
  split at h
  · rename_i p t kind from0 inc lo hi seq target life epoch base l bad
    split at h
    case isFalse => cases h
    rename_i hl
    refine ⟨0, _, _, _, (Tk.eq (0) p t kind from0 inc lo hi seq target life epoch base l bad).trans (Tk.pure p t kind from0 inc lo hi seq target life epoch base l bad hl), ?_, h⟩
    intro rs ros hk
    unfold Tk.k at hk
    split at hk
    · first | (cases hk; exact ⟨rfl, rfl⟩) | (have e := Option.some.inj hk; rw [← e]; exact ⟨rfl, rfl⟩)
    · cases hk
  · cases h
theorem s_tkb_det : SumDet s_tkb := fun avs objs R κ => by
  show s_tkb.run avs objs (two κ) = (s_tkb.run avs objs (two some)).bind κ
  unfold s_tkb
  simp only [veil_eq]
  split
  · first | rfl | (split <;> rfl)
  · rfl
theorem s_tkb_ok : SumOk Try.prog 70 s_tkb := ⟨s_tk_ok.1, fun avs objs κ r hr => s_tk_ok.2 avs objs κ r (by
  unfold s_tkb at hr
  simp only [veil_eq] at hr
  split at hr
  · exact hr
  · cases hr)⟩
end Go.Proofs.Ytlmljpmohljefaa

/- printed by denfn.py -/
set_option linter.unusedVariables false
namespace Go.Proofs.Ytlmljpmohljefaa
open Go.Den
noncomputable def recsD : List (Int × List Int) → Option (List (Int × Int × Int × (Int × Int) × Bool × List (Int × List Int)))
  | [] => some []
  | x :: m => if !(recD x.2).2 || x.1 != 7 then none else (recsD m).map fun r => (recD x.2).1 :: r
noncomputable def end2 (bad : Bool) (kind from0 inc lo hi seq target : Int) (recs : Option (List (Int × Int × Int × (Int × Int) × Bool × List (Int × List Int)))) : Int × Int × Int × Int × Int × Int × Int × List (Int × Int × Int × (Int × Int) × Bool × List (Int × List Int)) × Int :=
  match recs with
  | none => (0, 0, 0, 0, 0, 0, 0, [], 4)
  | some r => if !bad && fits2 kind from0 inc lo hi seq target 0 0 0 r then (kind, from0, inc, lo, hi, seq, target, r, 0) else (0, 0, 0, 0, 0, 0, 0, [], 4)
noncomputable def decF2 (b : List Int) : Int × Int × Int × Int × Int × Int × Int × List (Int × Int × Int × (Int × Int) × Bool × List (Int × List Int)) × Int :=
  let y := splitF b
  let y1 := takeN y.1 (y.2 != 0 || decide ((b.length : Int) > 65499)) 1 1
  let y2 := takeN y1.2.1 y1.2.2 2 2
  let y3 := takeN y2.2.1 y2.2.2 3 6
  let y4 := spanN y3.2.1 y3.2.2 4
  let y5 := takeIf y1.1 0 y4.2.2.1 y4.2.2.2 5
  let y6 := takeIf y1.1 1 y5.2.1 y5.2.2 6
  end2 y6.2.2 y1.1 y2.1 y3.1 y4.1 y4.2.1 y5.1 y6.1 (recsD y6.2.1)
noncomputable def s_dec2 : Den.Sum := ⟨[.dat (.sl (.int .u8)) false], fun args objs κ => match args, objs with
  | [.d (.sl (.int .u8)) b], [] => if inS b = true then κ [.agg [.d (.int .i64) (decF2 b).1, .d (.int .i64) (decF2 b).2.1, .d (.int .i64) (decF2 b).2.2.1, .d (.int .i64) (decF2 b).2.2.2.1, .d (.int .i64) (decF2 b).2.2.2.2.1, .d (.int .i64) (decF2 b).2.2.2.2.2.1, .d (.int .i64) (decF2 b).2.2.2.2.2.2.1, .d (.int .i64) 0, .d (.int .i64) 0, .d (.int .i64) 0, .d (.sl (.pair (.int .i64) (.pair (.int .i64) (.pair (.int .i64) (.pair (.pair (.int .i64) (.int .i64)) (.pair .bool (.sl (.pair (.int .i64) (.sl (.int .u8)))))))))) ((decF2 b).2.2.2.2.2.2.2.1)], .d (.int .i64) ((decF2 b).2.2.2.2.2.2.2.2)] [] else none
  | _, _ => none⟩
noncomputable def s_dec2b : Den.Sum := ⟨[.dat (.sl (.int .u8)) false], fun args objs κ => match args, objs with
  | [.d (.sl (.int .u8)) b], [] => if inS b = true then (match veil (some (decF2 b)) with | none => none | some y => κ [.agg [.d (.int .i64) y.1, .d (.int .i64) y.2.1, .d (.int .i64) y.2.2.1, .d (.int .i64) y.2.2.2.1, .d (.int .i64) y.2.2.2.2.1, .d (.int .i64) y.2.2.2.2.2.1, .d (.int .i64) y.2.2.2.2.2.2.1, .d (.int .i64) 0, .d (.int .i64) 0, .d (.int .i64) 0, .d (.sl (.pair (.int .i64) (.pair (.int .i64) (.pair (.int .i64) (.pair (.pair (.int .i64) (.int .i64)) (.pair .bool (.sl (.pair (.int .i64) (.sl (.int .u8)))))))))) (y.2.2.2.2.2.2.2.1)], .d (.int .i64) (y.2.2.2.2.2.2.2.2)] []) else none
  | _, _ => none⟩
noncomputable def Decode2_E : Env := ⟨th, gam [(68, s_splitb), (70, s_tkb), (72, s_rec2b), (27, s_fits2), (69, s_inumb), (71, s_ispanb)], fun i => if i = 11 then ⟨[2, 6, 7, 50, 51, 52], [(1458, 50, (.pair (.int .i64) (.pair (.int .i64) (.pair (.int .i64) (.pair (.pair (.int .i64) (.int .i64)) (.pair .bool (.sl (.pair (.int .i64) (.sl (.int .u8))))))))))], []⟩ else ⟨[], [], []⟩⟩
noncomputable def Decode2.k (rs : List AV) (os : List Den.Obj) : Option (Int × Int × Int × Int × Int × Int × Int × Int × Int × Int × (List (Int × (Int × (Int × ((Int × Int) × (Bool × (List (Int × (List Int))))))))) × Int) :=
  match rs, os with
  | [.agg [.d (.int .i64) r0, .d (.int .i64) r1, .d (.int .i64) r2, .d (.int .i64) r3, .d (.int .i64) r4, .d (.int .i64) r5, .d (.int .i64) r6, .d (.int .i64) r7, .d (.int .i64) r8, .d (.int .i64) r9, .d (.sl (.pair (.int .i64) (.pair (.int .i64) (.pair (.int .i64) (.pair (.pair (.int .i64) (.int .i64)) (.pair .bool (.sl (.pair (.int .i64) (.sl (.int .u8)))))))))) r10], .d (.int .i64) r11], [] => some (r0, r1, r2, r3, r4, r5, r6, r7, r8, r9, r10, r11)
  | _, _ => none
noncomputable def Decode2.s11 (b : List Int) (x7 : (List (Int × (List Int)))) (x8 : Int) (x9 : Int) (x10 : (List (Int × (List Int)))) (x11 : Bool) (x12 : Int) (x13 : Int) (x14 : Int) (x15 : Int) (x16 : Int) (x17 : Int) (x18 : Int) (x19 : (List (Int × (Int × (Int × ((Int × Int) × (Bool × (List (Int × (List Int)))))))))) : St := ⟨[.dead, .dead, .ptr 64 0, .dead, .dead, .dead, .ptr 65 0, .ptr 67 0, .dead, .dead, .dead, .dead, .dead, .dead, .dead, .dead, .dead, .dead, .dead, .dead, .dead, .dead, .dead, .dead, .dead, .dead, .dead, .dead, .dead, .dead, .dead, .dead, .dead, .dead, .dead, .dead, .dead, .dead, .dead, .dead, .dead, .dead, .dead, .dead, .dead, .dead, .dead, .dead, .dead, .dead, .d (.sl (.pair (.int .i64) (.sl (.int .u8)))) x7, .d (.int .i64) x8, .d (.int .i64) x9, .dead, .dead, .dead, .dead, .dead, .dead, .dead, .dead, .dead, .dead, .dead, .dead, .dead, .dead, .dead, .dead, .dead, .dead, .dead, .dead, .dead, .dead, .dead, .dead, .dead, .dead, .dead, .dead, .dead, .dead, .dead, .dead, .dead, .dead, .dead], ofL [(64, .box [.d (.int .i64) (0), .d (.int .i64) (0), .d (.int .i64) (0), .d (.int .i64) (0), .d (.int .i64) (0), .d (.int .i64) (0), .d (.int .i64) (0), .d (.int .i64) (0), .d (.int .i64) (0), .d (.int .i64) (0), .nilsl]), (65, .box [.ptr 66 0]), (66, .box [.d (.sl (.pair (.int .i64) (.sl (.int .u8)))) x10, .d .bool x11]), (67, .box [.d (.int .i64) x12, .d (.int .i64) x13, .d (.int .i64) x14, .d (.int .i64) x15, .d (.int .i64) x16, .d (.int .i64) x17, .d (.int .i64) x18, .d (.int .i64) (0), .d (.int .i64) (0), .d (.int .i64) (0), .row 68]), (68, .row 50 (.pair (.int .i64) (.pair (.int .i64) (.pair (.int .i64) (.pair (.pair (.int .i64) (.int .i64)) (.pair .bool (.sl (.pair (.int .i64) (.sl (.int .u8))))))))) x19 false)], 0⟩
noncomputable def Decode2.b11 (b : List Int) (A11 : (List (Int × (List Int))) → Int → Int → (List (Int × (List Int))) → Bool → Int → Int → Int → Int → Int → Int → Int → (List (Int × (Int × (Int × ((Int × Int) × (Bool × (List (Int × (List Int))))))))) → Option (Int × Int × Int × Int × Int × Int × Int × Int × Int × Int × (List (Int × (Int × (Int × ((Int × Int) × (Bool × (List (Int × (List Int))))))))) × Int)) (x7 : (List (Int × (List Int)))) (x8 : Int) (x9 : Int) (x10 : (List (Int × (List Int)))) (x11 : Bool) (x12 : Int) (x13 : Int) (x14 : Int) (x15 : Int) (x16 : Int) (x17 : Int) (x18 : Int) (x19 : (List (Int × (Int × (Int × ((Int × Int) × (Bool × (List (Int × (List Int)))))))))) : Option (Int × Int × Int × Int × Int × Int × Int × Int × Int × Int × (List (Int × (Int × (Int × ((Int × Int) × (Bool × (List (Int × (List Int))))))))) × Int) :=
  (if (decide (x9 < x8)) then (match (idx x7 x9) with | none => none | some y20 => (if (inS y20.2) then (match (veil (Option.some (recD y20.2))) with | none => none | some y21 => (if (!y21.2) then some (0, 0, 0, 0, 0, 0, 0, 0, 0, 0, ([] : List (Int × (Int × (Int × ((Int × Int) × (Bool × (List (Int × (List Int))))))))), (4 : Int)) else (if (y20.1 != (7 : Int)) then some (0, 0, 0, 0, 0, 0, 0, 0, 0, 0, ([] : List (Int × (Int × (Int × ((Int × Int) × (Bool × (List (Int × (List Int))))))))), (4 : Int)) else (if ((((List.length x19) + (List.length ((y21.1.1, (y21.1.2.1, (y21.1.2.2.1, ((y21.1.2.2.2.1.1, y21.1.2.2.2.1.2), (y21.1.2.2.2.2.1, y21.1.2.2.2.2.2))))) :: ([] : List (Int × (Int × (Int × ((Int × Int) × (Bool × (List (Int × (List Int)))))))))))) * (72 : Nat)) ≤ lim) then A11 x7 x8 (Go.IntKind.wrap .i64 (x9 + (1 : Int))) x10 x11 x12 x13 x14 x15 x16 x17 x18 (x19 ++ ((y21.1.1, (y21.1.2.1, (y21.1.2.2.1, ((y21.1.2.2.2.1.1, y21.1.2.2.2.1.2), (y21.1.2.2.2.2.1, y21.1.2.2.2.2.2))))) :: ([] : List (Int × (Int × (Int × ((Int × Int) × (Bool × (List (Int × (List Int))))))))))) else none)))) else none)) else (if x11 then some (0, 0, 0, 0, 0, 0, 0, 0, 0, 0, ([] : List (Int × (Int × (Int × ((Int × Int) × (Bool × (List (Int × (List Int))))))))), (4 : Int)) else (if (smallRecs x19) then (if (!(fits2 x12 x13 x14 x15 x16 x17 x18 0 0 0 x19)) then some (0, 0, 0, 0, 0, 0, 0, 0, 0, 0, ([] : List (Int × (Int × (Int × ((Int × Int) × (Bool × (List (Int × (List Int))))))))), (4 : Int)) else some (x12, x13, x14, x15, x16, x17, x18, 0, 0, 0, x19, (0 : Int))) else none)))
noncomputable def Decode2.l11 (fuel : Nat) (b : List Int) : Nat → (List (Int × (List Int))) → Int → Int → (List (Int × (List Int))) → Bool → Int → Int → Int → Int → Int → Int → Int → (List (Int × (Int × (Int × ((Int × Int) × (Bool × (List (Int × (List Int))))))))) → Option (Int × Int × Int × Int × Int × Int × Int × Int × Int × Int × (List (Int × (Int × (Int × ((Int × Int) × (Bool × (List (Int × (List Int))))))))) × Int)
  | 0, _, _, _, _, _, _, _, _, _, _, _, _, _ => none
  | k + 1, x7, x8, x9, x10, x11, x12, x13, x14, x15, x16, x17, x18, x19 => Decode2.b11 b (Decode2.l11 fuel b k) x7 x8 x9 x10 x11 x12 x13 x14 x15 x16 x17 x18 x19
noncomputable def Decode2.b (b : List Int) (E11 : (List (Int × (List Int))) → Int → Int → (List (Int × (List Int))) → Bool → Int → Int → Int → Int → Int → Int → Int → (List (Int × (Int × (Int × ((Int × Int) × (Bool × (List (Int × (List Int))))))))) → Option (Int × Int × Int × Int × Int × Int × Int × Int × Int × Int × (List (Int × (Int × (Int × ((Int × Int) × (Bool × (List (Int × (List Int))))))))) × Int)) : Option (Int × Int × Int × Int × Int × Int × Int × Int × Int × Int × (List (Int × (Int × (Int × ((Int × Int) × (Bool × (List (Int × (List Int))))))))) × Int) :=
  (if (inS b) then (match (veil (Option.some (splitF b))) with | none => none | some y0 => (if (y0.2 != (0 : Int)) then (if ((fldsOk y0.1) && (n7 (1 : Int))) then (match (veil (Option.some (takeN y0.1 true (1 : Int) (1 : Int)))) with | none => none | some y1 => (if ((fldsOk y1.2.1) && (n7 (2 : Int))) then (match (veil (Option.some (takeN y1.2.1 y1.2.2 (2 : Int) (2 : Int)))) with | none => none | some y2 => (if ((fldsOk y2.2.1) && (n7 (6 : Int))) then (match (veil (Option.some (takeN y2.2.1 y2.2.2 (3 : Int) (6 : Int)))) with | none => none | some y3 => (if (fldsOk y3.2.1) then (match (veil (Option.some (spanN y3.2.1 y3.2.2 (4 : Int)))) with | none => none | some y4 => (if (fldsOk y4.2.2.1) then (match (veil (Option.some (takeIf y1.1 (0 : Int) y4.2.2.1 y4.2.2.2 (5 : Int)))) with | none => none | some y5 => (if (fldsOk y5.2.1) then (match (veil (Option.some (takeIf y1.1 (1 : Int) y5.2.1 y5.2.2 (6 : Int)))) with | none => none | some y6 => E11 y6.2.1 ((((List.length y6.2.1)) : Nat) : Int) (0 : Int) y6.2.1 y6.2.2 y1.1 y2.1 y3.1 y4.1 y4.2.1 y5.1 y6.1 ([] : List (Int × (Int × (Int × ((Int × Int) × (Bool × (List (Int × (List Int)))))))))) else none)) else none)) else none)) else none)) else none)) else none) else (if ((fldsOk y0.1) && (n7 (1 : Int))) then (match (veil (Option.some (takeN y0.1 (decide (((((List.length b)) : Nat) : Int) > (65499 : Int))) (1 : Int) (1 : Int)))) with | none => none | some y22 => (if ((fldsOk y22.2.1) && (n7 (2 : Int))) then (match (veil (Option.some (takeN y22.2.1 y22.2.2 (2 : Int) (2 : Int)))) with | none => none | some y23 => (if ((fldsOk y23.2.1) && (n7 (6 : Int))) then (match (veil (Option.some (takeN y23.2.1 y23.2.2 (3 : Int) (6 : Int)))) with | none => none | some y24 => (if (fldsOk y24.2.1) then (match (veil (Option.some (spanN y24.2.1 y24.2.2 (4 : Int)))) with | none => none | some y25 => (if (fldsOk y25.2.2.1) then (match (veil (Option.some (takeIf y22.1 (0 : Int) y25.2.2.1 y25.2.2.2 (5 : Int)))) with | none => none | some y26 => (if (fldsOk y26.2.1) then (match (veil (Option.some (takeIf y22.1 (1 : Int) y26.2.1 y26.2.2 (6 : Int)))) with | none => none | some y27 => E11 y27.2.1 ((((List.length y27.2.1)) : Nat) : Int) (0 : Int) y27.2.1 y27.2.2 y22.1 y23.1 y24.1 y25.1 y25.2.1 y26.1 y27.1 ([] : List (Int × (Int × (Int × ((Int × Int) × (Bool × (List (Int × (List Int)))))))))) else none)) else none)) else none)) else none)) else none)) else none))) else none)
noncomputable def Decode2.f (fuel : Nat) (b : List Int) : Option (Int × Int × Int × Int × Int × Int × Int × Int × Int × Int × (List (Int × (Int × (Int × ((Int × Int) × (Bool × (List (Int × (List Int))))))))) × Int) := Decode2.b b (Decode2.l11 fuel b fuel)
theorem Decode2.l11_eq (fuel : Nat) (b : List Int) : ∀ (k : Nat) (x7 : (List (Int × (List Int)))) (x8 : Int) (x9 : Int) (x10 : (List (Int × (List Int)))) (x11 : Bool) (x12 : Int) (x13 : Int) (x14 : Int) (x15 : Int) (x16 : Int) (x17 : Int) (x18 : Int) (x19 : (List (Int × (Int × (Int × ((Int × Int) × (Bool × (List (Int × (List Int)))))))))), lp Decode2_E fuel Try.f31 [.dat (.pair (.int .i64) (.pair (.int .i64) (.pair (.int .i64) (.pair (.pair (.int .i64) (.int .i64)) (.pair (.int .i64) (.pair (.int .i64) (.pair (.int .i64) (.pair (.int .i64) (.pair (.int .i64) (.sl (.pair (.int .i64) (.pair (.int .i64) (.pair (.int .i64) (.pair (.pair (.int .i64) (.int .i64)) (.pair .bool (.sl (.pair (.int .i64) (.sl (.int .u8))))))))))))))))))) true, .raw] 0 Decode2.k 11 [] k (Decode2.s11 b x7 x8 x9 x10 x11 x12 x13 x14 x15 x16 x17 x18 x19) = Decode2.l11 fuel b k x7 x8 x9 x10 x11 x12 x13 x14 x15 x16 x17 x18 x19 := by
  intro k
  induction k with
  | zero => intro x7 x8 x9 x10 x11 x12 x13 x14 x15 x16 x17 x18 x19; rfl
  | succ k ih =>
    intro x7 x8 x9 x10 x11 x12 x13 x14 x15 x16 x17 x18 x19
    have h : lp Decode2_E fuel Try.f31 [.dat (.pair (.int .i64) (.pair (.int .i64) (.pair (.int .i64) (.pair (.pair (.int .i64) (.int .i64)) (.pair (.int .i64) (.pair (.int .i64) (.pair (.int .i64) (.pair (.int .i64) (.pair (.int .i64) (.sl (.pair (.int .i64) (.pair (.int .i64) (.pair (.int .i64) (.pair (.pair (.int .i64) (.int .i64)) (.pair .bool (.sl (.pair (.int .i64) (.sl (.int .u8))))))))))))))))))) true, .raw] 0 Decode2.k 11 [] (k + 1) (Decode2.s11 b x7 x8 x9 x10 x11 x12 x13 x14 x15 x16 x17 x18 x19) = Decode2.b11 b (fun x7 x8 x9 x10 x11 x12 x13 x14 x15 x16 x17 x18 x19 => lp Decode2_E fuel Try.f31 [.dat (.pair (.int .i64) (.pair (.int .i64) (.pair (.int .i64) (.pair (.pair (.int .i64) (.int .i64)) (.pair (.int .i64) (.pair (.int .i64) (.pair (.int .i64) (.pair (.int .i64) (.pair (.int .i64) (.sl (.pair (.int .i64) (.pair (.int .i64) (.pair (.int .i64) (.pair (.pair (.int .i64) (.int .i64)) (.pair .bool (.sl (.pair (.int .i64) (.sl (.int .u8))))))))))))))))))) true, .raw] 0 Decode2.k 11 [] k (Decode2.s11 b x7 x8 x9 x10 x11 x12 x13 x14 x15 x16 x17 x18 x19)) x7 x8 x9 x10 x11 x12 x13 x14 x15 x16 x17 x18 x19 := by kernel_rfl
    rw [h]
    have e11 : (fun x7 x8 x9 x10 x11 x12 x13 x14 x15 x16 x17 x18 x19 => lp Decode2_E fuel Try.f31 [.dat (.pair (.int .i64) (.pair (.int .i64) (.pair (.int .i64) (.pair (.pair (.int .i64) (.int .i64)) (.pair (.int .i64) (.pair (.int .i64) (.pair (.int .i64) (.pair (.int .i64) (.pair (.int .i64) (.sl (.pair (.int .i64) (.pair (.int .i64) (.pair (.int .i64) (.pair (.pair (.int .i64) (.int .i64)) (.pair .bool (.sl (.pair (.int .i64) (.sl (.int .u8))))))))))))))))))) true, .raw] 0 Decode2.k 11 [] k (Decode2.s11 b x7 x8 x9 x10 x11 x12 x13 x14 x15 x16 x17 x18 x19)) = Decode2.l11 fuel b k := (funext fun x7 => (funext fun x8 => (funext fun x9 => (funext fun x10 => (funext fun x11 => (funext fun x12 => (funext fun x13 => (funext fun x14 => (funext fun x15 => (funext fun x16 => (funext fun x17 => (funext fun x18 => (funext fun x19 => ih x7 x8 x9 x10 x11 x12 x13 x14 x15 x16 x17 x18 x19)))))))))))))
    rw [e11]
    rfl
theorem Decode2.eq (fuel : Nat) (b : List Int) : (denF Decode2_E loopN fuel Try.f31 [.dat (.pair (.int .i64) (.pair (.int .i64) (.pair (.int .i64) (.pair (.pair (.int .i64) (.int .i64)) (.pair (.int .i64) (.pair (.int .i64) (.pair (.int .i64) (.pair (.int .i64) (.pair (.int .i64) (.sl (.pair (.int .i64) (.pair (.int .i64) (.pair (.int .i64) (.pair (.pair (.int .i64) (.int .i64)) (.pair .bool (.sl (.pair (.int .i64) (.sl (.int .u8))))))))))))))))))) true, .raw] [.d (.sl (.int .u8)) b] [] Decode2.k) = Decode2.f fuel b := by
  have h : (denF Decode2_E loopN fuel Try.f31 [.dat (.pair (.int .i64) (.pair (.int .i64) (.pair (.int .i64) (.pair (.pair (.int .i64) (.int .i64)) (.pair (.int .i64) (.pair (.int .i64) (.pair (.int .i64) (.pair (.int .i64) (.pair (.int .i64) (.sl (.pair (.int .i64) (.pair (.int .i64) (.pair (.int .i64) (.pair (.pair (.int .i64) (.int .i64)) (.pair .bool (.sl (.pair (.int .i64) (.sl (.int .u8))))))))))))))))))) true, .raw] [.d (.sl (.int .u8)) b] [] Decode2.k) = Decode2.b b (fun x7 x8 x9 x10 x11 x12 x13 x14 x15 x16 x17 x18 x19 => lp Decode2_E fuel Try.f31 [.dat (.pair (.int .i64) (.pair (.int .i64) (.pair (.int .i64) (.pair (.pair (.int .i64) (.int .i64)) (.pair (.int .i64) (.pair (.int .i64) (.pair (.int .i64) (.pair (.int .i64) (.pair (.int .i64) (.sl (.pair (.int .i64) (.pair (.int .i64) (.pair (.int .i64) (.pair (.pair (.int .i64) (.int .i64)) (.pair .bool (.sl (.pair (.int .i64) (.sl (.int .u8))))))))))))))))))) true, .raw] 0 Decode2.k 11 [] fuel (Decode2.s11 b x7 x8 x9 x10 x11 x12 x13 x14 x15 x16 x17 x18 x19)) := by kernel_rfl
  rw [h]
  have e11 : (fun x7 x8 x9 x10 x11 x12 x13 x14 x15 x16 x17 x18 x19 => lp Decode2_E fuel Try.f31 [.dat (.pair (.int .i64) (.pair (.int .i64) (.pair (.int .i64) (.pair (.pair (.int .i64) (.int .i64)) (.pair (.int .i64) (.pair (.int .i64) (.pair (.int .i64) (.pair (.int .i64) (.pair (.int .i64) (.sl (.pair (.int .i64) (.pair (.int .i64) (.pair (.int .i64) (.pair (.pair (.int .i64) (.int .i64)) (.pair .bool (.sl (.pair (.int .i64) (.sl (.int .u8))))))))))))))))))) true, .raw] 0 Decode2.k 11 [] fuel (Decode2.s11 b x7 x8 x9 x10 x11 x12 x13 x14 x15 x16 x17 x18 x19)) = Decode2.l11 fuel b fuel := (funext fun x7 => (funext fun x8 => (funext fun x9 => (funext fun x10 => (funext fun x11 => (funext fun x12 => (funext fun x13 => (funext fun x14 => (funext fun x15 => (funext fun x16 => (funext fun x17 => (funext fun x18 => (funext fun x19 => Decode2.l11_eq fuel b fuel x7 x8 x9 x10 x11 x12 x13 x14 x15 x16 x17 x18 x19)))))))))))))
  rw [e11]
  rfl


end Go.Proofs.Ytlmljpmohljefaa

set_option linter.unusedVariables false
set_option linter.unusedSimpArgs false
namespace Go.Proofs.Ytlmljpmohljefaa
open Go.Den
noncomputable def outD (e : Int × Int × Int × Int × Int × Int × Int × LR × Int) : Int × Int × Int × Int × Int × Int × Int × Int × Int × Int × LR × Int :=
  (e.1, e.2.1, e.2.2.1, e.2.2.2.1, e.2.2.2.2.1, e.2.2.2.2.2.1, e.2.2.2.2.2.2.1, 0, 0, 0, e.2.2.2.2.2.2.2.1, e.2.2.2.2.2.2.2.2)
theorem flds_small {l : LF} (h : fldsOk l = true) : smallBag l = true := by
  obtain ⟨h1, h2⟩ := (fldsOk_iff l).1 h
  refine (smallBag_iff l).2 ⟨by omega, fun x hx => ?_⟩
  have := ((inS_iff _).1 (h2 x hx)).2
  omega
theorem recD_flds (b : List Int) (hl : inS b = true) : fldsOk (recD b).1.2.2.2.2.2 = true := by
  unfold recD
  dsimp only
  exact span_flds (take_flds (take_flds (take_flds (split_flds b hl) _ _ _) _ _ _) _ _ _) _ _
theorem Decode2.loop (fuel : Nat) (b : List Int) (fs fs' : LF) (bad : Bool) (kind from0 inc lo hi seq target : Int) (hf : fldsOk fs = true) : ∀ (k i : Nat) (acc : LR), i ≤ fs.length → fs.length - i < k → acc.length + (fs.length - i) < 2000000000 → (∀ r ∈ acc, smallBag r.2.2.2.2.2 = true) →
    Decode2.l11 fuel b k fs (fs.length : Int) (i : Int) fs' bad kind from0 inc lo hi seq target acc = some (outD (end2 bad kind from0 inc lo hi seq target ((recsD (fs.drop i)).map fun r => acc ++ r))) := by
  obtain ⟨hf1, hf2⟩ := (fldsOk_iff fs).1 hf
  intro k
  induction k with
  | zero => intro i acc h1 h2; omega
  | succ k ih =>
    intro i acc h1 h2 h3 h4
    rw [Decode2.l11]
    unfold Decode2.b11
    simp only [veil_eq]
    by_cases hi' : i < fs.length
    · rw [if_pos (by simp; omega), idx_at, List.getElem?_eq_getElem hi']
      dsimp only
      have hx := hf2 fs[i] (List.getElem_mem hi')
      rw [List.drop_eq_getElem_cons hi', recsD]
      generalize fs[i] = x at hx ⊢
      rw [if_pos hx]
      have hsm := flds_small (recD_flds x.2 hx)
      cases c1 : (recD x.2).2
      · rw [if_pos (by simp), if_pos (by simp)]
        rfl
      · by_cases c2 : x.1 = 7
        · rw [if_neg (by simp), if_neg (by simpa using c2), if_pos (by simp [lim]; omega), if_neg (by simp [c2]), wrap_small ((i : Int) + 1) (by omega) (by omega)]
          simp only [rec_eta]
          have := ih (i + 1) (acc ++ [(recD x.2).1]) (by omega) (by omega) (by simp; omega) (by
            intro r hr
            rcases List.mem_append.1 hr with hr | hr
            · exact h4 r hr
            · simp at hr; subst hr; exact hsm)
          rw [show ((i + 1 : Nat) : Int) = (i : Int) + 1 from by omega] at this
          rw [this]
          cases recsD (fs.drop (i + 1)) <;> simp
        · rw [if_neg (by simp), if_pos (by simpa using c2), if_pos (by simp [c2])]
          rfl
    · rw [if_neg (by simp; omega), List.drop_of_length_le (by omega)]
      have hs : smallRecs acc = true := (smallRecs_iff acc).2 ⟨by omega, h4⟩
      cases bad
      · rw [if_neg (by simp), hs, if_pos rfl]
        simp only [recsD, Option.map_some, List.append_nil, end2, Bool.not_false, Bool.true_and]
        cases fits2 kind from0 inc lo hi seq target 0 0 0 acc <;> rfl
      · rfl
theorem takeIf_flds {l : LF} (h : fldsOk l = true) (kind p : Int) (bad : Bool) (t : Int) : fldsOk (takeIf kind p l bad t).2.1 = true := by
  unfold takeIf
  split
  · exact take_flds h bad t 2
  · exact h
theorem take_len {l : LF} (bad : Bool) (t n : Int) : (takeN l bad t n).2.1.length ≤ l.length := by
  unfold takeN
  cases l with
  | nil => simp
  | cons x m => dsimp only; split <;> simp
theorem takeIf_len {l : LF} (kind p : Int) (bad : Bool) (t : Int) : (takeIf kind p l bad t).2.1.length ≤ l.length := by
  unfold takeIf
  split
  · exact take_len bad t 2
  · simp
theorem split_len (b : List Int) (h : inS b = true) : (splitF b).1.length ≤ b.length := by
  obtain ⟨hb, hl⟩ := (inS_iff b).1 h
  unfold splitF
  cases hs : splitGo b.length b with
  | none => simp
  | some r =>
    have := (splitGo_ok b.length b r (inB_bytes hb) hs).2.1
    show r.length ≤ _
    omega
theorem Decode2.pure (b : List Int) (hl : inS b = true) : Decode2.f (b.length + 1) b = some (outD (decF2 b)) := by
  have hbl := ((inS_iff b).1 hl).2
  unfold Decode2.f Decode2.b
  simp only [veil_eq]
  have h0 := split_flds b hl
  have g0 := split_len b hl
  rw [hl, if_pos rfl, h0]
  have k2 : n7 2 = true := rfl
  have k6 : n7 6 = true := rfl
  have k1 : n7 1 = true := rfl
  rw [k2, k6, k1]
  unfold decF2
  dsimp only
  cases hy : ((splitF b).2 != 0)
  · rw [if_neg (by simp), Bool.false_or]
    generalize decide ((b.length : Int) > 65499) = bad0
    have h1 := take_flds h0 bad0 1 1
    have g1 := @take_len (splitF b).1 bad0 1 1
    generalize takeN (splitF b).1 bad0 1 1 = y1 at h1 g1 ⊢
    have h2 := take_flds h1 y1.2.2 2 2
    have g2 := @take_len y1.2.1 y1.2.2 2 2
    generalize takeN y1.2.1 y1.2.2 2 2 = y2 at h2 g2 ⊢
    have h3 := take_flds h2 y2.2.2 3 6
    have g3 := @take_len y2.2.1 y2.2.2 3 6
    generalize takeN y2.2.1 y2.2.2 3 6 = y3 at h3 g3 ⊢
    have h4 := span_flds h3 y3.2.2 4
    have g4 : (spanN y3.2.1 y3.2.2 4).2.2.1.length ≤ _ := @take_len y3.2.1 y3.2.2 4 1
    generalize spanN y3.2.1 y3.2.2 4 = y4 at h4 g4 ⊢
    have h5 := takeIf_flds h4 y1.1 0 y4.2.2.2 5
    have g5 := @takeIf_len y4.2.2.1 y1.1 0 y4.2.2.2 5
    generalize takeIf y1.1 0 y4.2.2.1 y4.2.2.2 5 = y5 at h5 g5 ⊢
    have h6 := takeIf_flds h5 y1.1 1 y5.2.2 6
    have g6 := @takeIf_len y5.2.1 y1.1 1 y5.2.2 6
    generalize takeIf y1.1 1 y5.2.1 y5.2.2 6 = y6 at h6 g6 ⊢
    have hlp := Decode2.loop (b.length + 1) b y6.2.1 y6.2.1 y6.2.2 y1.1 y2.1 y3.1 y4.1 y4.2.1 y5.1 y6.1 h6 (b.length + 1) 0 [] (by omega) (by omega) (by simp; omega) (by simp)
    rw [show ((0 : Nat) : Int) = 0 from rfl, List.drop_zero] at hlp
    simp only [Bool.and_true, if_true, h1, h2, h3, h4, h5, h6]
    rw [hlp]
    simp
  · rw [if_pos rfl, Bool.true_or]
    have h1 := take_flds h0 true 1 1
    have g1 := @take_len (splitF b).1 true 1 1
    generalize takeN (splitF b).1 true 1 1 = y1 at h1 g1 ⊢
    have h2 := take_flds h1 y1.2.2 2 2
    have g2 := @take_len y1.2.1 y1.2.2 2 2
    generalize takeN y1.2.1 y1.2.2 2 2 = y2 at h2 g2 ⊢
    have h3 := take_flds h2 y2.2.2 3 6
    have g3 := @take_len y2.2.1 y2.2.2 3 6
    generalize takeN y2.2.1 y2.2.2 3 6 = y3 at h3 g3 ⊢
    have h4 := span_flds h3 y3.2.2 4
    have g4 : (spanN y3.2.1 y3.2.2 4).2.2.1.length ≤ _ := @take_len y3.2.1 y3.2.2 4 1
    generalize spanN y3.2.1 y3.2.2 4 = y4 at h4 g4 ⊢
    have h5 := takeIf_flds h4 y1.1 0 y4.2.2.2 5
    have g5 := @takeIf_len y4.2.2.1 y1.1 0 y4.2.2.2 5
    generalize takeIf y1.1 0 y4.2.2.1 y4.2.2.2 5 = y5 at h5 g5 ⊢
    have h6 := takeIf_flds h5 y1.1 1 y5.2.2 6
    have g6 := @takeIf_len y5.2.1 y1.1 1 y5.2.2 6
    generalize takeIf y1.1 1 y5.2.1 y5.2.2 6 = y6 at h6 g6 ⊢
    have hlp := Decode2.loop (b.length + 1) b y6.2.1 y6.2.1 y6.2.2 y1.1 y2.1 y3.1 y4.1 y4.2.1 y5.1 y6.1 h6 (b.length + 1) 0 [] (by omega) (by omega) (by simp; omega) (by simp)
    rw [show ((0 : Nat) : Int) = 0 from rfl, List.drop_zero] at hlp
    simp only [Bool.and_true, if_true, h1, h2, h3, h4, h5, h6]
    rw [hlp]
    simp
end Go.Proofs.Ytlmljpmohljefaa

set_option linter.unusedVariables false
namespace Go.Proofs.Ytlmljpmohljefaa
open Go.Den
theorem s_dec2_det : SumDet s_dec2 := fun avs objs R κ => by
  show s_dec2.run avs objs (two κ) = (s_dec2.run avs objs (two some)).bind κ
  unfold s_dec2
  simp only
  split
  · first | rfl | (split <;> rfl)
  · rfl
theorem s_dec2_ok : SumOk Try.prog 31 s_dec2 := by
  have hE : EnvOk Try.prog Decode2_E := env_ok (l := [(68, s_splitb), (70, s_tkb), (72, s_rec2b), (27, s_fits2), (69, s_inumb), (71, s_ispanb)]) th_ok any_ok ⟨⟨s_splitb_ok, s_splitb_det⟩, ⟨s_tkb_ok, s_tkb_det⟩, ⟨s_rec2b_ok, s_rec2b_det⟩, ⟨s_fits2_ok, s_fits2_det⟩, ⟨s_inumb_ok, s_inumb_det⟩, ⟨s_ispanb_ok, s_ispanb_det⟩, trivial⟩ _
  refine sum_ok hE Try.func31 rfl (by kernel_rfl) s_dec2 [.dat (.pair (.int .i64) (.pair (.int .i64) (.pair (.int .i64) (.pair (.pair (.int .i64) (.int .i64)) (.pair (.int .i64) (.pair (.int .i64) (.pair (.int .i64) (.pair (.int .i64) (.pair (.int .i64) (.sl (.pair (.int .i64) (.pair (.int .i64) (.pair (.int .i64) (.pair (.pair (.int .i64) (.int .i64)) (.pair .bool (.sl (.pair (.int .i64) (.sl (.int .u8))))))))))))))))))) true, .raw] Decode2.k ?_
  intro R avs objs κ r h
  unfold s_dec2 at h
  simp only at h
  split at h
  · rename_i b
    split at h
    case isFalse => cases h
    rename_i hl
    refine ⟨b.length + 1, _, _, _, (Decode2.eq (b.length + 1) b).trans (Decode2.pure b hl), ?_, h⟩
    intro rs ros hk
    unfold Decode2.k at hk
    split at hk
    · first | (cases hk; exact ⟨rfl, rfl⟩) | (have e := Option.some.inj hk; rw [← e]; exact ⟨rfl, rfl⟩)
    · cases hk
  · cases h
theorem s_dec2b_det : SumDet s_dec2b := fun avs objs R κ => by
  show s_dec2b.run avs objs (two κ) = (s_dec2b.run avs objs (two some)).bind κ
  unfold s_dec2b
  simp only [veil_eq]
  split
  · first | rfl | (split <;> rfl)
  · rfl
theorem s_dec2b_ok : SumOk Try.prog 31 s_dec2b := ⟨s_dec2_ok.1, fun avs objs κ r hr => s_dec2_ok.2 avs objs κ r (by
  unfold s_dec2b at hr
  simp only [veil_eq] at hr
  split at hr
  · exact hr
  · cases hr)⟩
end Go.Proofs.Ytlmljpmohljefaa

/- printed by denfn.py -/
set_option linter.unusedVariables false
namespace Go.Proofs.Ytlmljpmohljefaa
open Go.Den
noncomputable def Gen2Image_E : Env := ⟨th, gam [(25, s_awake13), (31, s_dec2b), (26, s_enc2)], fun i => ⟨[], [], []⟩⟩
noncomputable def Gen2Image.k (rs : List AV) (os : List Den.Obj) : Option Bool :=
  match rs, os with
  | [.d .bool r0], [] => some r0
  | _, _ => none
noncomputable def Gen2Image.b (l : List Int) : Option Bool :=
  (if (decide (((((List.length l)) : Nat) : Int) > (2000 : Int))) then some (true) else (if (inS l) then (match (veil (Option.some (decF2 l))) with | none => none | some y0 => (if (y0.2.2.2.2.2.2.2.2 != (0 : Int)) then some (true) else (if (smallRecs y0.2.2.2.2.2.2.2.1) then (if ((enc2 y0.1 y0.2.1 y0.2.2.1 y0.2.2.2.1 y0.2.2.2.2.1 y0.2.2.2.2.2.1 y0.2.2.2.2.2.2.1 0 0 0 y0.2.2.2.2.2.2.2.1).2 == (0 : Int)) then (if ((ByteArray.toList (strOf (enc2 y0.1 y0.2.1 y0.2.2.1 y0.2.2.2.1 y0.2.2.2.2.1 y0.2.2.2.2.2.1 y0.2.2.2.2.2.2.1 0 0 0 y0.2.2.2.2.2.2.2.1).1)) == (ByteArray.toList (strOf l))) then some (true) else some (false)) else some (false)) else none))) else none))
noncomputable def Gen2Image.f (fuel : Nat) (l : List Int) : Option Bool := Gen2Image.b l
theorem Gen2Image.eq (fuel : Nat) (l : List Int) : (denF Gen2Image_E loopN fuel Try.f8 [.raw] [.d (.sl (.int .u8)) l] [] Gen2Image.k) = Gen2Image.f fuel l := by
  kernel_rfl


end Go.Proofs.Ytlmljpmohljefaa

set_option linter.unusedVariables false
set_option linter.unusedSimpArgs false
namespace Go.Proofs.Ytlmljpmohljefaa
open Go.Den
theorem take_ok {l : LF} (hf : fldsOk l = true) (bad : Bool) (t n : Int) (n1 : 1 ≤ n) (n7 : n ≤ 7) (h : (takeN l bad t n).2.2 = false) :
    bad = false ∧ l.flatMap fieldB = itB t n (takeN l bad t n).1 ++ (takeN l bad t n).2.1.flatMap fieldB := by
  unfold takeN at h ⊢
  cases l with
  | nil => cases h
  | cons x m =>
    dsimp only at h ⊢
    split at h
    · cases h
    · rename_i c
      rw [if_neg c]
      simp at c
      unfold valF at h ⊢
      split at h
      · rename_i c2
        rw [if_pos c2]
        simp at c2
        refine ⟨c.1, ?_⟩
        have hx := inB_bytes ((inS_iff _).1 (((fldsOk_iff _).1 hf).2 x (by simp))).1
        have hb := be_numB x.2 hx
        rw [List.flatMap_cons]
        unfold fieldB itB
        rw [show n.toNat = x.2.length from by omega, hb, c.2]
        have e1 : ((x.2.length / 256 : Nat) : Int) = 0 := by omega
        have e2 : ((x.2.length % 256 : Nat) : Int) = n := by omega
        rw [e1, e2]
        try rfl
      · cases h
theorem ofGo_ok {c : Int} (h : okS (ofGo allF c).1 (ofGo allF c).2.1 = true) : (ofGo allF c).1 * 16 + (ofGo allF c).2.1 = c := by
  have h2 : (ofGo allF c).2.2 = true := by
    unfold allF ofGo ofGo ofGo ofGo ofGo ofGo ofGo at h ⊢
    split
    · rfl
    rename_i c1
    rw [if_neg c1] at h
    split
    · rfl
    rename_i c2
    rw [if_neg c2] at h
    split
    · rfl
    rename_i c3
    rw [if_neg c3] at h
    split
    · rfl
    rename_i c4
    rw [if_neg c4] at h
    split
    · rfl
    rename_i c5
    rw [if_neg c5] at h
    split
    · rfl
    rename_i c6
    rw [if_neg c6] at h
    cases h
  have := ofGo_some h2
  rw [code_eq h] at this
  exact this
theorem recD_ok (b : List Int) (hl : inS b = true) (h : (recD b).2 = true) (hr : recOkT (recD b).1 = true) : innerL (recD b).1 = b := by
  have f7 := (recOk_facts hr).2.2.2.2.2.2.1
  unfold recD at h f7 ⊢
  dsimp only at h f7 ⊢
  have h0 := split_flds b hl
  have h1 := take_flds h0 ((splitF b).2 != 0) 1 2
  have t1 := take_ok h0 ((splitF b).2 != 0) 1 2 (by omega) (by omega)
  generalize takeN (splitF b).1 ((splitF b).2 != 0) 1 2 = y1 at *
  have h2 := take_flds h1 y1.2.2 2 4
  have t2 := take_ok h1 y1.2.2 2 4 (by omega) (by omega)
  generalize takeN y1.2.1 y1.2.2 2 4 = y2 at *
  have h3 := take_flds h2 y2.2.2 3 1
  have h3b := take_byte h2 y2.2.2 3
  have t3 := take_ok h2 y2.2.2 3 1 (by omega) (by omega)
  generalize takeN y2.2.1 y2.2.2 3 1 = y3 at *
  have t4 := take_ok h3 y3.2.2 4 1 (by omega) (by omega)
  unfold spanN at h f7 ⊢
  dsimp only at h f7 ⊢
  have e4 := ofGo_ok f7
  generalize takeN y3.2.1 y3.2.2 4 1 = y4 at *
  obtain ⟨q4, p4⟩ := t4 (by simpa using h)
  obtain ⟨q3, p3⟩ := t3 q4
  obtain ⟨q2, p2⟩ := t2 q3
  obtain ⟨q1, p1⟩ := t1 q2
  have hs : (splitF b).1.flatMap fieldB = b := by
    unfold splitF at q1 ⊢
    cases hs : splitGo b.length b with
    | none => rw [hs] at q1; simp at q1
    | some r => exact (splitGo_ok b.length b r (inB_bytes ((inS_iff b).1 hl).1) hs).1
  unfold innerL cutSt
  dsimp only
  rw [e4]
  have e3 : (if decide (y3.1 ≥ 128) = true then y3.1 % 128 + 128 else y3.1 % 128) = y3.1 := by
    split
    · rename_i c; simp at c; omega
    · rename_i c; simp at c; omega
  rw [e3]
  conv => rhs; rw [← hs, p1, p2, p3, p4]
theorem recsD_ok : ∀ (fs : LF) (r : LR), fldsOk fs = true → recsD fs = some r → (∀ x ∈ r, recOkT x = true) → r.flatMap recB2 = fs.flatMap fieldB ∧ ∀ x ∈ r, smallBag x.2.2.2.2.2 = true
  | [], r, hf, h, hr => by
    simp [recsD] at h
    subst h
    exact ⟨rfl, by simp⟩
  | x :: m, r, hf, h, hr => by
    rw [recsD] at h
    obtain ⟨f1, f2⟩ := (fldsOk_iff _).1 hf
    have hm : fldsOk m = true := (fldsOk_iff _).2 ⟨by simp at f1; omega, fun y hy => f2 y (by simp [hy])⟩
    split at h
    · cases h
    · rename_i c
      simp at c
      cases hs : recsD m with
      | none => rw [hs] at h; cases h
      | some q =>
        rw [hs] at h
        simp at h
        subst h
        obtain ⟨i1, i2⟩ := recsD_ok m q hm hs (fun y hy => hr y (by simp [hy]))
        have hx := f2 x (by simp)
        have hrx := hr (recD x.2).1 (by simp)
        refine ⟨?_, ?_⟩
        · rw [List.flatMap_cons, List.flatMap_cons, i1]
          unfold recB2
          rw [recD_ok x.2 hx c.1 hrx, ← c.2]
        · intro y hy
          rcases List.mem_cons.1 hy with rfl | hy
          · exact flds_small (recD_flds x.2 hx)
          · exact i2 y hy
theorem takeIf_ok {l : LF} (hf : fldsOk l = true) (kind p : Int) (bad : Bool) (t : Int) (h : (takeIf kind p l bad t).2.2 = false) :
    bad = false ∧ l.flatMap fieldB = (if hasF kind p then itB t 2 (takeIf kind p l bad t).1 else []) ++ (takeIf kind p l bad t).2.1.flatMap fieldB := by
  unfold takeIf at h ⊢
  cases hc : hasF kind p
  · rw [hc] at h
    simp at h ⊢
    exact h
  · rw [hc] at h
    simp at h ⊢
    exact take_ok hf bad t 2 (by omega) (by omega) h
/-- what was read is what is written -/
theorem image2 (l : List Int) (hl : inS l = true) (h : (decF2 l).2.2.2.2.2.2.2.2 = 0) :
    fits2 (decF2 l).1 (decF2 l).2.1 (decF2 l).2.2.1 (decF2 l).2.2.2.1 (decF2 l).2.2.2.2.1 (decF2 l).2.2.2.2.2.1 (decF2 l).2.2.2.2.2.2.1 0 0 0 (decF2 l).2.2.2.2.2.2.2.1 = true ∧
    body2 (decF2 l).1 (decF2 l).2.1 (decF2 l).2.2.1 (decF2 l).2.2.2.1 (decF2 l).2.2.2.2.1 (decF2 l).2.2.2.2.2.1 (decF2 l).2.2.2.2.2.2.1 (decF2 l).2.2.2.2.2.2.2.1 = l ∧ smallRecs (decF2 l).2.2.2.2.2.2.2.1 = true := by
  unfold decF2 at h ⊢
  dsimp only at h ⊢
  have h0 := split_flds l hl
  generalize hb0 : ((splitF l).2 != 0 || decide ((l.length : Int) > 65499)) = bad0 at *
  have h1 := take_flds h0 bad0 1 1
  have t1 := take_ok h0 bad0 1 1 (by omega) (by omega)
  generalize takeN (splitF l).1 bad0 1 1 = y1 at *
  have h2 := take_flds h1 y1.2.2 2 2
  have t2 := take_ok h1 y1.2.2 2 2 (by omega) (by omega)
  generalize takeN y1.2.1 y1.2.2 2 2 = y2 at *
  have h3 := take_flds h2 y2.2.2 3 6
  have t3 := take_ok h2 y2.2.2 3 6 (by omega) (by omega)
  generalize takeN y2.2.1 y2.2.2 3 6 = y3 at *
  have h4 := take_flds h3 y3.2.2 4 1
  have t4 := take_ok h3 y3.2.2 4 1 (by omega) (by omega)
  unfold spanN at h ⊢
  dsimp only at h ⊢
  generalize takeN y3.2.1 y3.2.2 4 1 = y4 at *
  have h5 := takeIf_flds h4 y1.1 0 y4.2.2 5
  have t5 := takeIf_ok h4 y1.1 0 y4.2.2 5
  generalize takeIf y1.1 0 y4.2.1 y4.2.2 5 = y5 at *
  have h6 := takeIf_flds h5 y1.1 1 y5.2.2 6
  have t6 := takeIf_ok h5 y1.1 1 y5.2.2 6
  generalize takeIf y1.1 1 y5.2.1 y5.2.2 6 = y6 at *
  cases hr : recsD y6.2.1 with
  | none => rw [hr] at h; simp [end2] at h
  | some r =>
    rw [hr] at h
    unfold end2 at h ⊢
    dsimp only at h ⊢
    split at h
    · rename_i c
      rw [if_pos c]
      dsimp only
      simp at c
      obtain ⟨hv, w1, w2, w3, w4⟩ := fits2_facts c.2
      obtain ⟨v1, v2, v3, v4, v5, v6, v7, v8, v9, v10, v11, _, v12, v13⟩ := valid_facts hv
      obtain ⟨i1, i2⟩ := recsD_ok y6.2.1 r h6 hr v13
      obtain ⟨q6, p6⟩ := t6 c.1
      obtain ⟨q5, p5⟩ := t5 q6
      obtain ⟨q4, p4⟩ := t4 q5
      obtain ⟨q3, p3⟩ := t3 q4
      obtain ⟨q2, p2⟩ := t2 q3
      obtain ⟨q1, p1⟩ := t1 q2
      have hs : (splitF l).1.flatMap fieldB = l := by
        rw [q1] at hb0
        unfold splitF at hb0 ⊢
        cases hs : splitGo l.length l with
        | none => rw [hs] at hb0; simp at hb0
        | some r => exact (splitGo_ok l.length l r (inB_bytes ((inS_iff l).1 hl).1) hs).1
      refine ⟨c.2, ?_, (smallRecs_iff r).2 ⟨by omega, i2⟩⟩
      unfold body2
      rw [ofGo_ok v7, i1]
      conv => rhs; rw [← hs, p1, p2, p3, p4, p5, p6]
    · cases h
theorem Gen2Image.pure (l : List Int) (hl : ∀ c ∈ l, 0 ≤ c ∧ c ≤ 255) : Gen2Image.f 0 l = some true := by
  unfold Gen2Image.f Gen2Image.b
  by_cases h : ((l.length : Nat) : Int) > 2000
  · rw [if_pos (by simpa using h)]
  · have hb : inS l = true := inS_of hl (by omega)
    rw [if_neg (by simpa using h), if_pos hb, veil_eq]
    dsimp only
    by_cases h0 : (decF2 l).2.2.2.2.2.2.2.2 = 0
    · obtain ⟨i1, i2, i3⟩ := image2 l hb h0
      rw [if_neg (by simp [h0]), if_pos i3]
      have hv := (fits2_facts i1).1
      unfold enc2
      rw [hv, i1, i2]
      simp
    · rw [if_pos (by simpa using h0)]
end Go.Proofs.Ytlmljpmohljefaa

