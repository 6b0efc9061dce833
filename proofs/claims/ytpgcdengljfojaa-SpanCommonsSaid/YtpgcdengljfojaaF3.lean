/- printed by denfn.py -/
import Derived.Test.YtpgcdengljfojaaTh
import Derived.Test.YtpgcdengljfojaaG2
set_option linter.unusedVariables false
namespace Go.Proofs.Ytpgcdengljfojaa
open Go.Den
noncomputable def s16 : Den.Sum := ⟨[.dat (.pair (.int .i64) (.int .i64)) true, .dat (.pair (.int .i64) (.int .i64)) true], fun args objs κ => match args, objs with
  | [.agg [.d (.int .i64) a, .d (.int .i64) b], .agg [.d (.int .i64) c, .d (.int .i64) d]], [] => κ [.d (.int .i64) (commonF [(a, b), (c, d)]).2.1] []
  | _, _ => none⟩
noncomputable def codeF (a b : Int) : Int := if !okS a b then 0 else Den.bits .or .i64 (Go.IntKind.wrap .i64 (a * 16)) b
noncomputable def s25 : Den.Sum := ⟨[.dat (.pair (.int .i64) (.int .i64)) true], fun args objs κ => match args, objs with
  | [.agg [.d (.int .i64) a, .d (.int .i64) b]], [] => κ [.d (.int .i64) (codeF a b)] []
  | _, _ => none⟩
noncomputable def s19 : Den.Sum := ⟨[.dat (.pair (.int .i64) (.int .i64)) true], fun args objs κ => match args, objs with
  | [.agg [.d (.int .i64) a, .d (.int .i64) b]], [] => κ [.d .bool (okS a b)] []
  | _, _ => none⟩
noncomputable def allF : List (Int × Int) := [(1, 1), (1, 2), (1, 3), (2, 2), (2, 3), (3, 3)]
noncomputable def s22 : Den.Sum := ⟨[], fun args objs κ => match args, objs with
  | [], [] => κ [.row 0] [.row 33 (.pair (.int .i64) (.int .i64)) allF false]
  | _, _ => none⟩
noncomputable def indexF (l : List (Int × Int)) (a b : Int) : Int := match l.findIdx? (fun y => y == (a, b)) with | some i => i | none => -1
noncomputable def s44 : Den.Sum := ⟨[.dat (.sl (.pair (.int .i64) (.int .i64))) false, .dat (.pair (.int .i64) (.int .i64)) true], fun args objs κ => match args, objs with
  | [.d (.sl (.pair (.int .i64) (.int .i64))) l, .agg [.d (.int .i64) a, .d (.int .i64) b]], [] => if l.length < 1099511627776 then κ [.d (.int .i64) (indexF l a b)] [] else none
  | _, _ => none⟩
noncomputable def s36 : Den.Sum := ⟨[.dat (.sl (.pair (.int .i64) (.int .i64))) false, .dat (.pair (.int .i64) (.int .i64)) true], fun args objs κ => match args, objs with
  | [.d (.sl (.pair (.int .i64) (.int .i64))) l, .agg [.d (.int .i64) a, .d (.int .i64) b]], [] => if l.length < 1099511627776 then κ [.d .bool (decide (indexF l a b ≥ 0))] [] else none
  | _, _ => none⟩
noncomputable def inGo : List (Int × Int) → Int → Bool
  | [], m => decide (m ≥ 1) && decide (m ≤ 3)
  | s :: l, m => if !okS s.1 s.2 || decide (m < s.1) || decide (m > s.2) then false else inGo l m
noncomputable def s15 : Den.Sum := ⟨[.dat (.sl (.pair (.int .i64) (.int .i64))) false, .raw], fun args objs κ => match args, objs with
  | [.d (.sl (.pair (.int .i64) (.int .i64))) l, .d (.int .i64) m], [] => if l.length < 1099511627776 then κ [.d .bool (inGo l m)] [] else none
  | _, _ => none⟩
noncomputable def digF (s : ByteArray) (i : Nat) : Int := ((s.data.toList.getD i 0).toNat : Int) - 48
noncomputable def parseF (s : ByteArray) : Int × Int × Int := if s.size ≠ 3 then (0, 0, 4) else if (s.data.toList.getD 1 0).toNat ≠ 45 then (0, 0, 4) else if indexF allF (digF s 0) (digF s 2) < 0 then (0, 0, 4) else (digF s 0, digF s 2, 0)
noncomputable def s20 : Den.Sum := ⟨[.raw], fun args objs κ => match args, objs with
  | [.d .str s], [] => κ [.agg [.d (.int .i64) (parseF s).1, .d (.int .i64) (parseF s).2.1], .d (.int .i64) (parseF s).2.2] []
  | _, _ => none⟩
noncomputable def s17 : Den.Sum := ⟨[], fun args objs κ => match args, objs with
  | [], [] => κ [.d .bool true] []
  | _, _ => none⟩
noncomputable def Contains_E : Env := ⟨th, gam [(44, s44)], fun i => ⟨[], [], []⟩⟩
noncomputable def Contains.k (rs : List AV) (os : List Den.Obj) : Option Bool :=
  match rs, os with
  | [.d .bool r0], [] => some r0
  | _, _ => none
noncomputable def Contains.b (l : List (Int × Int)) (a : Int) (b : Int) : Option Bool :=
  (if ((List.length l) < (1099511627776 : Nat)) then some ((decide ((indexF l a b) ≥ (0 : Int)))) else none)
noncomputable def Contains.f (fuel : Nat) (l : List (Int × Int)) (a : Int) (b : Int) : Option Bool := Contains.b l a b
theorem Contains.eq (fuel : Nat) (l : List (Int × Int)) (a : Int) (b : Int) : (denF Contains_E loopN fuel Try.f36 [.raw] [.d (.sl (.pair (.int .i64) (.int .i64))) l, .agg [.d (.int .i64) a, .d (.int .i64) b]] [] Contains.k) = Contains.f fuel l a b := by
  kernel_rfl


noncomputable def inL_E : Env := ⟨th, gam [(19, s19)], fun i => if i = 2 then ⟨[0, 1, 5], [], []⟩ else ⟨[], [], []⟩⟩
noncomputable def inL.k (rs : List AV) (os : List Den.Obj) : Option Bool :=
  match rs, os with
  | [.d .bool r0], [] => some r0
  | _, _ => none
noncomputable def inL.s2 (l : List (Int × Int)) (m : Int) (x0 : Int) : St := ⟨[.d (.sl (.pair (.int .i64) (.int .i64))) (l), .d (.int .i64) (m), .dead, .dead, .dead, .d (.int .i64) x0, .dead, .dead, .dead, .dead, .dead, .dead, .dead, .dead, .dead, .dead, .dead, .dead, .dead, .dead, .dead, .dead, .dead, .dead, .dead, .dead, .dead, .dead, .dead, .dead, .dead, .dead, .dead, .dead, .dead, .dead, .dead, .dead, .dead, .dead, .dead, .dead], ofL [], 0⟩
noncomputable def inL.b2 (l : List (Int × Int)) (m : Int) (A2 : Int → Option Bool) (x0 : Int) : Option Bool :=
  (if (decide (x0 < ((((List.length l)) : Nat) : Int))) then (match (idx l x0) with | none => none | some y1 => (if (!(okS y1.1 y1.2)) then some (false) else (match (idx l x0) with | none => none | some y2 => (if (decide (m < y2.1)) then some (false) else (match (idx l x0) with | none => none | some y3 => (if (decide (m > y3.2)) then some (false) else A2 (Go.IntKind.wrap .i64 (x0 + (1 : Int))))))))) else (if (decide (m ≥ (1 : Int))) then some ((decide (m ≤ (3 : Int)))) else some (false)))
noncomputable def inL.l2 (fuel : Nat) (l : List (Int × Int)) (m : Int) : Nat → Int → Option Bool
  | 0, _ => none
  | k + 1, x0 => inL.b2 l m (inL.l2 fuel l m k) x0
noncomputable def inL.b (l : List (Int × Int)) (m : Int) (E2 : Int → Option Bool) : Option Bool :=
  E2 (0 : Int)
noncomputable def inL.f (fuel : Nat) (l : List (Int × Int)) (m : Int) : Option Bool := inL.b l m (inL.l2 fuel l m fuel)
theorem inL.l2_eq (fuel : Nat) (l : List (Int × Int)) (m : Int) : ∀ (k : Nat) (x0 : Int), lp inL_E fuel Try.f15 [.raw] 0 inL.k 2 [] k (inL.s2 l m x0) = inL.l2 fuel l m k x0 := by
  intro k
  induction k with
  | zero => intro x0; rfl
  | succ k ih =>
    intro x0
    have h : lp inL_E fuel Try.f15 [.raw] 0 inL.k 2 [] (k + 1) (inL.s2 l m x0) = inL.b2 l m (fun x0 => lp inL_E fuel Try.f15 [.raw] 0 inL.k 2 [] k (inL.s2 l m x0)) x0 := by kernel_rfl
    rw [h]
    have e2 : (fun x0 => lp inL_E fuel Try.f15 [.raw] 0 inL.k 2 [] k (inL.s2 l m x0)) = inL.l2 fuel l m k := (funext fun x0 => ih x0)
    rw [e2]
    rfl
theorem inL.eq (fuel : Nat) (l : List (Int × Int)) (m : Int) : (denF inL_E loopN fuel Try.f15 [.raw] [.d (.sl (.pair (.int .i64) (.int .i64))) l, .d (.int .i64) m] [] inL.k) = inL.f fuel l m := by
  have h : (denF inL_E loopN fuel Try.f15 [.raw] [.d (.sl (.pair (.int .i64) (.int .i64))) l, .d (.int .i64) m] [] inL.k) = inL.b l m (fun x0 => lp inL_E fuel Try.f15 [.raw] 0 inL.k 2 [] fuel (inL.s2 l m x0)) := by kernel_rfl
  rw [h]
  have e2 : (fun x0 => lp inL_E fuel Try.f15 [.raw] 0 inL.k 2 [] fuel (inL.s2 l m x0)) = inL.l2 fuel l m fuel := (funext fun x0 => inL.l2_eq fuel l m fuel x0)
  rw [e2]
  rfl


noncomputable def Parse_E : Env := ⟨th, gam [(22, s22), (36, s36)], fun i => ⟨[], [], []⟩⟩
noncomputable def Parse.k (rs : List AV) (os : List Den.Obj) : Option (Int × Int × Int) :=
  match rs, os with
  | [.agg [.d (.int .i64) r0, .d (.int .i64) r1], .d (.int .i64) r2], [] => some (r0, r1, r2)
  | _, _ => none
noncomputable def Parse.b (s : ByteArray) : Option (Int × Int × Int) :=
  (if (((((ByteArray.size s)) : Nat) : Int) != (3 : Int)) then some (0, 0, (4 : Int)) else (match (idx (Array.toList (ByteArray.data s)) (1 : Int)) with | none => none | some y0 => (if (((((UInt8.toNat y0)) : Nat) : Int) != (45 : Int)) then some (0, 0, (4 : Int)) else (match (idx (Array.toList (ByteArray.data s)) (0 : Int)) with | none => none | some y1 => (match (idx (Array.toList (ByteArray.data s)) (2 : Int)) with | none => none | some y2 => (if (!(decide ((indexF allF (Go.IntKind.wrap .i64 ((Go.IntKind.wrap .i64 ((((UInt8.toNat y1)) : Nat) : Int)) - (48 : Int))) (Go.IntKind.wrap .i64 ((Go.IntKind.wrap .i64 ((((UInt8.toNat y2)) : Nat) : Int)) - (48 : Int)))) ≥ (0 : Int)))) then some (0, 0, (4 : Int)) else some ((Go.IntKind.wrap .i64 ((Go.IntKind.wrap .i64 ((((UInt8.toNat y1)) : Nat) : Int)) - (48 : Int))), (Go.IntKind.wrap .i64 ((Go.IntKind.wrap .i64 ((((UInt8.toNat y2)) : Nat) : Int)) - (48 : Int))), (0 : Int))))))))
noncomputable def Parse.f (fuel : Nat) (s : ByteArray) : Option (Int × Int × Int) := Parse.b s
theorem Parse.eq (fuel : Nat) (s : ByteArray) : (denF Parse_E loopN fuel Try.f20 [.dat (.pair (.int .i64) (.int .i64)) true, .raw] [.d .str s] [] Parse.k) = Parse.f fuel s := by
  kernel_rfl


noncomputable def awake5_E : Env := ⟨th, gam [(14, s14), (20, s20), (25, s25)], fun i => ⟨[], [], []⟩⟩
noncomputable def awake5.k (rs : List AV) (os : List Den.Obj) : Option Bool :=
  match rs, os with
  | [.d .bool r0], [] => some r0
  | _, _ => none
noncomputable def awake5.b (u : Unit) : Option Bool :=
  some (((parseF (⟨((51 :: (45 :: (49 :: [])))).toArray⟩ : ByteArray)).2.2 == (4 : Int)))
noncomputable def awake5.f (fuel : Nat) (u : Unit) : Option Bool := awake5.b u
theorem awake5.eq (fuel : Nat) (u : Unit) : (denF awake5_E loopN fuel Try.f17 [.raw] [] [] awake5.k) = awake5.f fuel u := by
  kernel_rfl


noncomputable def SpanMeets_E : Env := ⟨th, gam [(14, s14), (15, s15), (16, s16), (17, s17)], fun i => if i = 6 then ⟨[2, 3, 5, 6, 7, 8, 9, 10], [], [9]⟩ else ⟨[], [], []⟩⟩
noncomputable def SpanMeets.k (rs : List AV) (os : List Den.Obj) : Option Bool :=
  match rs, os with
  | [.d .bool r0], [] => some r0
  | _, _ => none
noncomputable def SpanMeets.s6 (a : Int) (b : Int) (c : Int) (d : Int) (x0 : Bool) (x1 : Int) (x2 : Int) (x3 : (List (Int × Int))) (x4 : Int) (x5 : Int) (x6 : Int) : St := ⟨[.dead, .dead, .ptr 64 0, .ptr 65 0, .dead, .ptr 66 0, .d .bool x0, .d (.int .i64) x1, .d (.int .i64) x2, .d (.sl (.pair (.int .i64) (.int .i64))) x3, .d (.int .i64) x4, .dead, .dead, .dead, .dead, .dead, .dead, .dead, .dead, .dead, .dead, .dead, .dead, .dead, .dead, .dead, .dead, .dead, .dead, .dead, .dead, .dead, .dead, .dead, .dead, .dead, .dead, .dead, .dead, .dead, .dead, .dead, .dead, .dead, .dead, .dead, .dead, .dead, .dead, .dead, .dead, .dead, .dead, .dead, .dead, .dead, .dead], ofL [(64, .box [.d (.int .i64) (a), .d (.int .i64) (b)]), (65, .box [.d (.int .i64) (c), .d (.int .i64) (d)]), (66, .box [.d (.int .i64) x5, .d (.int .i64) x6])], 0⟩
noncomputable def SpanMeets.b6 (a : Int) (b : Int) (c : Int) (d : Int) (A6 : Bool → Int → Int → (List (Int × Int)) → Int → Int → Int → Option Bool) (x0 : Bool) (x1 : Int) (x2 : Int) (x3 : (List (Int × Int))) (x4 : Int) (x5 : Int) (x6 : Int) : Option Bool :=
  (if (decide (x4 ≥ (1 : Int))) then (if ((List.length x3) < (1099511627776 : Nat)) then (if (inGo x3 x4) then (if (x1 == (0 : Int)) then A6 x0 x4 x4 x3 (Go.IntKind.wrap .i64 (x4 - (1 : Int))) x5 x6 else A6 x0 x1 x4 x3 (Go.IntKind.wrap .i64 (x4 - (1 : Int))) x5 x6) else A6 x0 x1 x2 x3 (Go.IntKind.wrap .i64 (x4 - (1 : Int))) x5 x6) else none) else (if (x5 == x2) then (if (x6 == x1) then (if (x0 == (decide (x1 > (0 : Int)))) then (if ((commonF ((a, b) :: ((c, d) :: []))).2.1 == x1) then some (true) else some (false)) else some (false)) else some (false)) else some (false)))
noncomputable def SpanMeets.l6 (fuel : Nat) (a : Int) (b : Int) (c : Int) (d : Int) : Nat → Bool → Int → Int → (List (Int × Int)) → Int → Int → Int → Option Bool
  | 0, _, _, _, _, _, _, _ => none
  | k + 1, x0, x1, x2, x3, x4, x5, x6 => SpanMeets.b6 a b c d (SpanMeets.l6 fuel a b c d k) x0 x1 x2 x3 x4 x5 x6
noncomputable def SpanMeets.b (a : Int) (b : Int) (c : Int) (d : Int) (E6 : Bool → Int → Int → (List (Int × Int)) → Int → Int → Int → Option Bool) : Option Bool :=
  E6 (commonF ((a, b) :: ((c, d) :: []))).2.2 (0 : Int) (0 : Int) ((a, b) :: ((c, d) :: [])) (3 : Int) (commonF ((a, b) :: ((c, d) :: []))).1 (commonF ((a, b) :: ((c, d) :: []))).2.1
noncomputable def SpanMeets.f (fuel : Nat) (a : Int) (b : Int) (c : Int) (d : Int) : Option Bool := SpanMeets.b a b c d (SpanMeets.l6 fuel a b c d fuel)
theorem SpanMeets.l6_eq (fuel : Nat) (a : Int) (b : Int) (c : Int) (d : Int) : ∀ (k : Nat) (x0 : Bool) (x1 : Int) (x2 : Int) (x3 : (List (Int × Int))) (x4 : Int) (x5 : Int) (x6 : Int), lp SpanMeets_E fuel Try.f4 [.raw] 0 SpanMeets.k 6 [] k (SpanMeets.s6 a b c d x0 x1 x2 x3 x4 x5 x6) = SpanMeets.l6 fuel a b c d k x0 x1 x2 x3 x4 x5 x6 := by
  intro k
  induction k with
  | zero => intro x0 x1 x2 x3 x4 x5 x6; rfl
  | succ k ih =>
    intro x0 x1 x2 x3 x4 x5 x6
    have h : lp SpanMeets_E fuel Try.f4 [.raw] 0 SpanMeets.k 6 [] (k + 1) (SpanMeets.s6 a b c d x0 x1 x2 x3 x4 x5 x6) = SpanMeets.b6 a b c d (fun x0 x1 x2 x3 x4 x5 x6 => lp SpanMeets_E fuel Try.f4 [.raw] 0 SpanMeets.k 6 [] k (SpanMeets.s6 a b c d x0 x1 x2 x3 x4 x5 x6)) x0 x1 x2 x3 x4 x5 x6 := by kernel_rfl
    rw [h]
    have e6 : (fun x0 x1 x2 x3 x4 x5 x6 => lp SpanMeets_E fuel Try.f4 [.raw] 0 SpanMeets.k 6 [] k (SpanMeets.s6 a b c d x0 x1 x2 x3 x4 x5 x6)) = SpanMeets.l6 fuel a b c d k := (funext fun x0 => (funext fun x1 => (funext fun x2 => (funext fun x3 => (funext fun x4 => (funext fun x5 => (funext fun x6 => ih x0 x1 x2 x3 x4 x5 x6)))))))
    rw [e6]
    rfl
theorem SpanMeets.eq (fuel : Nat) (a : Int) (b : Int) (c : Int) (d : Int) : (denF SpanMeets_E loopN fuel Try.f4 [.raw] [.agg [.d (.int .i64) a, .d (.int .i64) b], .agg [.d (.int .i64) c, .d (.int .i64) d]] [] SpanMeets.k) = SpanMeets.f fuel a b c d := by
  have h : (denF SpanMeets_E loopN fuel Try.f4 [.raw] [.agg [.d (.int .i64) a, .d (.int .i64) b], .agg [.d (.int .i64) c, .d (.int .i64) d]] [] SpanMeets.k) = SpanMeets.b a b c d (fun x0 x1 x2 x3 x4 x5 x6 => lp SpanMeets_E fuel Try.f4 [.raw] 0 SpanMeets.k 6 [] fuel (SpanMeets.s6 a b c d x0 x1 x2 x3 x4 x5 x6)) := by kernel_rfl
  rw [h]
  have e6 : (fun x0 x1 x2 x3 x4 x5 x6 => lp SpanMeets_E fuel Try.f4 [.raw] 0 SpanMeets.k 6 [] fuel (SpanMeets.s6 a b c d x0 x1 x2 x3 x4 x5 x6)) = SpanMeets.l6 fuel a b c d fuel := (funext fun x0 => (funext fun x1 => (funext fun x2 => (funext fun x3 => (funext fun x4 => (funext fun x5 => (funext fun x6 => SpanMeets.l6_eq fuel a b c d fuel x0 x1 x2 x3 x4 x5 x6)))))))
  rw [e6]
  rfl


end Go.Proofs.Ytpgcdengljfojaa
