/- printed by denfn.py -/
import Derived.Test.YtpgcdengljfojaaTh
import Derived.Test.YtpgcdengljfojaaG1
import Derived.Test.YtpgcdengljfojaaG2
set_option linter.unusedVariables false
namespace Go.Proofs.Ytpgcdengljfojaa
open Go.Den
noncomputable def tickF (t : Int) : Int := veil (maxI 0 (minI t 281474976710655))
noncomputable def s34 : Den.Sum := ⟨[.raw], fun args objs κ => match args, objs with
  | [.d (.int .i64) t], [] => κ [.d (.int .i64) (tickF t)] []
  | _, _ => none⟩
noncomputable def s10 : Den.Sum := ⟨[], fun args objs κ => match args, objs with
  | [], [] => κ [.ptr 0 0] [.box [.d .bool false, .d (.int .i64) 0, .d (.int .i64) 0, .d (.int .i64) 0, .d (.int .i64) 0, .d .bool false, .d .bool false, .nilsl]]
  | _, _ => none⟩
noncomputable def s11 : Den.Sum := ⟨[.raw, .raw, .dat (.pair (.int .i64) (.pair (.int .i64) (.int .i64))) true], fun args objs κ => match args, objs with
  | [.ptr 0 0, .d (.int .i64) now, .agg [.d (.int .i64) a, .d (.int .i64) b, .d (.int .i64) c]], [.box [.d .bool x0, .d (.int .i64) x1, .d (.int .i64) x2, .d (.int .i64) x3, .d (.int .i64) x4, .d .bool x5, .d .bool x6, .nilsl]] => κ [] [.box [.d .bool true, .d (.int .i64) a, .d (.int .i64) b, .d (.int .i64) c, .d (.int .i64) (tickF now), .d .bool false, .d .bool false, .nilsl]]
  | _, _ => none⟩
noncomputable def s12 : Den.Sum := ⟨[.raw, .raw, .raw], fun args objs κ => match args, objs with
  | [.ptr 0 0, .d (.int .i64) from0, .d (.int .i64) seq], [.box [.d .bool x0, .d (.int .i64) x1, .d (.int .i64) x2, .d (.int .i64) x3, .d (.int .i64) x4, .d .bool x5, .d .bool x6, .nilsl]] => if (from0 == x1) = true then κ [.d .bool (x0 && (seq == x3))] [.box [.d .bool x0, .d (.int .i64) x1, .d (.int .i64) x2, .d (.int .i64) x3, .d (.int .i64) x4, .d .bool (x5 || (x0 && (seq == x3))), .d .bool x6, .nilsl]] else none
  | _, _ => none⟩
/-- what is told, on, told -/
noncomputable def lookF (x0 : Bool) (x4 : Int) (x5 x6 : Bool) (now wait period : Int) : Int × Bool × Bool :=
  if !x0 then (3, x0, x6) else
  let age := Go.IntKind.wrap .i64 (tickF now - x4)
  if decide (age ≥ period) then (if x5 then (3, false, x6) else (2, false, x6)) else
  if !x5 && (!x6 && decide (age ≥ wait)) then (1, x0, true) else (0, x0, x6)
noncomputable def s13 : Den.Sum := ⟨[.raw, .raw, .raw, .raw], fun args objs κ => match args, objs with
  | [.ptr 0 0, .d (.int .i64) now, .d (.int .i64) wait, .d (.int .i64) period], [.box [.d .bool x0, .d (.int .i64) x1, .d (.int .i64) x2, .d (.int .i64) x3, .d (.int .i64) x4, .d .bool x5, .d .bool x6, .nilsl]] => κ [.d (.int .i64) (lookF x0 x4 x5 x6 now wait period).1] [.box [.d .bool (lookF x0 x4 x5 x6 now wait period).2.1, .d (.int .i64) x1, .d (.int .i64) x2, .d (.int .i64) x3, .d (.int .i64) x4, .d .bool x5, .d .bool (lookF x0 x4 x5 x6 now wait period).2.2, .nilsl]]
  | _, _ => none⟩
noncomputable def s9 : Den.Sum := ⟨[], fun args objs κ => match args, objs with
  | [], [] => κ [.d .bool true] []
  | _, _ => none⟩
noncomputable def tick28_E : Env := ⟨th, gam [], fun i => ⟨[], [], []⟩⟩
noncomputable def tick28.k (rs : List AV) (os : List Den.Obj) : Option Int :=
  match rs, os with
  | [.d (.int .i64) r0], [] => some r0
  | _, _ => none
noncomputable def tick28.b (t : Int) : Option Int :=
  some ((maxI (0 : Int) (minI t (veil (281474976710655 : Int)))))
noncomputable def tick28.f (fuel : Nat) (t : Int) : Option Int := tick28.b t
theorem tick28.eq (fuel : Nat) (t : Int) : (denF tick28_E loopN fuel Try.f34 [.raw] [.d (.int .i64) t] [] tick28.k) = tick28.f fuel t := by
  kernel_rfl


noncomputable def New28_E : Env := ⟨th, gam [], fun i => ⟨[], [], []⟩⟩
noncomputable def New28.k (rs : List AV) (os : List Den.Obj) : Option (Bool × Int × Int × Int × Int × Bool × Bool) :=
  match rs, os with
  | [.ptr 0 0], [.box [.d .bool r0, .d (.int .i64) r1, .d (.int .i64) r2, .d (.int .i64) r3, .d (.int .i64) r4, .d .bool r5, .d .bool r6, .nilsl]] => some (r0, r1, r2, r3, r4, r5, r6)
  | _, _ => none
noncomputable def New28.b (u : Unit) : Option (Bool × Int × Int × Int × Int × Bool × Bool) :=
  some (false, 0, 0, 0, 0, false, false)
noncomputable def New28.f (fuel : Nat) (u : Unit) : Option (Bool × Int × Int × Int × Int × Bool × Bool) := New28.b u
theorem New28.eq (fuel : Nat) (u : Unit) : (denF New28_E loopN fuel Try.f10 [.raw] [] [] New28.k) = New28.f fuel u := by
  kernel_rfl


noncomputable def Begin28_E : Env := ⟨th, gam [(34, s34)], fun i => ⟨[], [], []⟩⟩
noncomputable def Begin28.k (rs : List AV) (os : List Den.Obj) : Option (Bool × Int × Int × Int × Int × Bool × Bool) :=
  match rs, os with
  | [], [.box [.d .bool r0, .d (.int .i64) r1, .d (.int .i64) r2, .d (.int .i64) r3, .d (.int .i64) r4, .d .bool r5, .d .bool r6, .nilsl]] => some (r0, r1, r2, r3, r4, r5, r6)
  | _, _ => none
noncomputable def Begin28.b (now : Int) (a : Int) (b : Int) (c : Int) (x0 : Bool) (x1 : Int) (x2 : Int) (x3 : Int) (x4 : Int) (x5 : Bool) (x6 : Bool) : Option (Bool × Int × Int × Int × Int × Bool × Bool) :=
  some (true, a, b, c, (tickF now), false, false)
noncomputable def Begin28.f (fuel : Nat) (now : Int) (a : Int) (b : Int) (c : Int) (x0 : Bool) (x1 : Int) (x2 : Int) (x3 : Int) (x4 : Int) (x5 : Bool) (x6 : Bool) : Option (Bool × Int × Int × Int × Int × Bool × Bool) := Begin28.b now a b c x0 x1 x2 x3 x4 x5 x6
theorem Begin28.eq (fuel : Nat) (now : Int) (a : Int) (b : Int) (c : Int) (x0 : Bool) (x1 : Int) (x2 : Int) (x3 : Int) (x4 : Int) (x5 : Bool) (x6 : Bool) : (denF Begin28_E loopN fuel Try.f11 [] [.ptr 0 0, .d (.int .i64) now, .agg [.d (.int .i64) a, .d (.int .i64) b, .d (.int .i64) c]] [.box [.d .bool x0, .d (.int .i64) x1, .d (.int .i64) x2, .d (.int .i64) x3, .d (.int .i64) x4, .d .bool x5, .d .bool x6, .nilsl]] Begin28.k) = Begin28.f fuel now a b c x0 x1 x2 x3 x4 x5 x6 := by
  kernel_rfl


noncomputable def Answer28_E : Env := ⟨th, gam [], fun i => ⟨[], [], []⟩⟩
noncomputable def Answer28.k (rs : List AV) (os : List Den.Obj) : Option (Bool × Bool × Int × Int × Int × Int × Bool × Bool) :=
  match rs, os with
  | [.d .bool r0], [.box [.d .bool r1, .d (.int .i64) r2, .d (.int .i64) r3, .d (.int .i64) r4, .d (.int .i64) r5, .d .bool r6, .d .bool r7, .nilsl]] => some (r0, r1, r2, r3, r4, r5, r6, r7)
  | _, _ => none
noncomputable def Answer28.b (from0 : Int) (seq : Int) (x0 : Bool) (x1 : Int) (x2 : Int) (x3 : Int) (x4 : Int) (x5 : Bool) (x6 : Bool) : Option (Bool × Bool × Int × Int × Int × Int × Bool × Bool) :=
  (if (!x0) then some (false, x0, x1, x2, x3, x4, x5, x6) else (if (seq != x3) then some (false, x0, x1, x2, x3, x4, x5, x6) else (if (from0 != x1) then none else some (true, x0, x1, x2, x3, x4, true, x6))))
noncomputable def Answer28.f (fuel : Nat) (from0 : Int) (seq : Int) (x0 : Bool) (x1 : Int) (x2 : Int) (x3 : Int) (x4 : Int) (x5 : Bool) (x6 : Bool) : Option (Bool × Bool × Int × Int × Int × Int × Bool × Bool) := Answer28.b from0 seq x0 x1 x2 x3 x4 x5 x6
theorem Answer28.eq (fuel : Nat) (from0 : Int) (seq : Int) (x0 : Bool) (x1 : Int) (x2 : Int) (x3 : Int) (x4 : Int) (x5 : Bool) (x6 : Bool) : (denF Answer28_E loopN fuel Try.f12 [.raw] [.ptr 0 0, .d (.int .i64) from0, .d (.int .i64) seq] [.box [.d .bool x0, .d (.int .i64) x1, .d (.int .i64) x2, .d (.int .i64) x3, .d (.int .i64) x4, .d .bool x5, .d .bool x6, .nilsl]] Answer28.k) = Answer28.f fuel from0 seq x0 x1 x2 x3 x4 x5 x6 := by
  kernel_rfl


noncomputable def Look28_E : Env := ⟨th, gam [(34, s34)], fun i => ⟨[], [], []⟩⟩
noncomputable def Look28.k (rs : List AV) (os : List Den.Obj) : Option (Int × Bool × Int × Int × Int × Int × Bool × Bool) :=
  match rs, os with
  | [.d (.int .i64) r0], [.box [.d .bool r1, .d (.int .i64) r2, .d (.int .i64) r3, .d (.int .i64) r4, .d (.int .i64) r5, .d .bool r6, .d .bool r7, .nilsl]] => some (r0, r1, r2, r3, r4, r5, r6, r7)
  | _, _ => none
noncomputable def Look28.b (now : Int) (wait : Int) (period : Int) (x0 : Bool) (x1 : Int) (x2 : Int) (x3 : Int) (x4 : Int) (x5 : Bool) (x6 : Bool) : Option (Int × Bool × Int × Int × Int × Int × Bool × Bool) :=
  (if (!x0) then some ((3 : Int), x0, x1, x2, x3, x4, x5, x6) else (if (decide ((Go.IntKind.wrap .i64 ((tickF now) - x4)) ≥ period)) then (if x5 then some ((3 : Int), false, x1, x2, x3, x4, x5, x6) else some ((2 : Int), false, x1, x2, x3, x4, x5, x6)) else (if (!x5) then (if (!x6) then (if (decide ((Go.IntKind.wrap .i64 ((tickF now) - x4)) ≥ wait)) then some ((1 : Int), x0, x1, x2, x3, x4, x5, true) else some ((0 : Int), x0, x1, x2, x3, x4, x5, x6)) else some ((0 : Int), x0, x1, x2, x3, x4, x5, x6)) else some ((0 : Int), x0, x1, x2, x3, x4, x5, x6))))
noncomputable def Look28.f (fuel : Nat) (now : Int) (wait : Int) (period : Int) (x0 : Bool) (x1 : Int) (x2 : Int) (x3 : Int) (x4 : Int) (x5 : Bool) (x6 : Bool) : Option (Int × Bool × Int × Int × Int × Int × Bool × Bool) := Look28.b now wait period x0 x1 x2 x3 x4 x5 x6
theorem Look28.eq (fuel : Nat) (now : Int) (wait : Int) (period : Int) (x0 : Bool) (x1 : Int) (x2 : Int) (x3 : Int) (x4 : Int) (x5 : Bool) (x6 : Bool) : (denF Look28_E loopN fuel Try.f13 [.raw] [.ptr 0 0, .d (.int .i64) now, .d (.int .i64) wait, .d (.int .i64) period] [.box [.d .bool x0, .d (.int .i64) x1, .d (.int .i64) x2, .d (.int .i64) x3, .d (.int .i64) x4, .d .bool x5, .d .bool x6, .nilsl]] Look28.k) = Look28.f fuel now wait period x0 x1 x2 x3 x4 x5 x6 := by
  kernel_rfl


noncomputable def awake28_E : Env := ⟨th, gam [(10, s10), (11, s11), (13, s13)], fun i => if i = 6 then ⟨[1, 2, 3, 4], [], []⟩ else ⟨[], [], []⟩⟩
noncomputable def awake28.k (rs : List AV) (os : List Den.Obj) : Option Bool :=
  match rs, os with
  | [.d .bool r0], [] => some r0
  | _, _ => none
noncomputable def awake28.s6 (u : Unit) (x0 : Int) (x1 : Bool) (x2 : Int) (x3 : Int) (x4 : Int) (x5 : Bool) (x6 : (List Int)) (x7 : (List Int)) : St := ⟨[.dead, .ptr 64 0, .row 65, .row 66, .d (.int .i64) x0, .dead, .dead, .dead, .dead, .dead, .dead, .dead, .dead, .dead, .dead, .dead, .dead, .dead, .dead, .dead, .dead, .dead, .dead, .dead, .dead, .dead], ofL [(64, .box [.d .bool x1, .d (.int .i64) x2, .d (.int .i64) x3, .d (.int .i64) x4, .d (.int .i64) ((tickF (10 : Int))), .d .bool (false), .d .bool x5, .nilsl]), (65, .row 3 (.int .i64) x6 false), (66, .row 3 (.int .i64) x7 false)], 0⟩
noncomputable def awake28.b6 (u : Unit) (A6 : Int → Bool → Int → Int → Int → Bool → (List Int) → (List Int) → Option Bool) (x0 : Int) (x1 : Bool) (x2 : Int) (x3 : Int) (x4 : Int) (x5 : Bool) (x6 : (List Int)) (x7 : (List Int)) : Option Bool :=
  (if (decide (x0 < (5 : Int))) then (match (idx x7 x0) with | none => none | some y8 => (match (idx x7 x0) with | none => none | some y9 => (match (idx x6 x0) with | none => none | some y10 => (match (idx x6 x0) with | none => none | some y11 => (if ((lookF x1 (tickF (10 : Int)) false x5 y9 (2 : Int) (5 : Int)).1 != y11) then some (false) else A6 (Go.IntKind.wrap .i64 (x0 + (1 : Int))) (lookF x1 (tickF (10 : Int)) false x5 y9 (2 : Int) (5 : Int)).2.1 x2 x3 x4 (lookF x1 (tickF (10 : Int)) false x5 y9 (2 : Int) (5 : Int)).2.2 x6 x7))))) else some (true))
noncomputable def awake28.l6 (fuel : Nat) (u : Unit) : Nat → Int → Bool → Int → Int → Int → Bool → (List Int) → (List Int) → Option Bool
  | 0, _, _, _, _, _, _, _, _ => none
  | k + 1, x0, x1, x2, x3, x4, x5, x6, x7 => awake28.b6 u (awake28.l6 fuel u k) x0 x1 x2 x3 x4 x5 x6 x7
noncomputable def awake28.b (u : Unit) (E6 : Int → Bool → Int → Int → Int → Bool → (List Int) → (List Int) → Option Bool) : Option Bool :=
  E6 (0 : Int) true (4 : Int) ((1 : Int), (7 : Int)).1 ((1 : Int), (7 : Int)).2 false ((0 : Int) :: ((1 : Int) :: ((0 : Int) :: ((2 : Int) :: ((3 : Int) :: []))))) ((11 : Int) :: ((12 : Int) :: ((13 : Int) :: ((15 : Int) :: ((15 : Int) :: [])))))
noncomputable def awake28.f (fuel : Nat) (u : Unit) : Option Bool := awake28.b u (awake28.l6 fuel u fuel)
theorem awake28.l6_eq (fuel : Nat) (u : Unit) : ∀ (k : Nat) (x0 : Int) (x1 : Bool) (x2 : Int) (x3 : Int) (x4 : Int) (x5 : Bool) (x6 : (List Int)) (x7 : (List Int)), lp awake28_E fuel Try.f9 [.raw] 0 awake28.k 6 [] k (awake28.s6 u x0 x1 x2 x3 x4 x5 x6 x7) = awake28.l6 fuel u k x0 x1 x2 x3 x4 x5 x6 x7 := by
  intro k
  induction k with
  | zero => intro x0 x1 x2 x3 x4 x5 x6 x7; rfl
  | succ k ih =>
    intro x0 x1 x2 x3 x4 x5 x6 x7
    have h : lp awake28_E fuel Try.f9 [.raw] 0 awake28.k 6 [] (k + 1) (awake28.s6 u x0 x1 x2 x3 x4 x5 x6 x7) = awake28.b6 u (fun x0 x1 x2 x3 x4 x5 x6 x7 => lp awake28_E fuel Try.f9 [.raw] 0 awake28.k 6 [] k (awake28.s6 u x0 x1 x2 x3 x4 x5 x6 x7)) x0 x1 x2 x3 x4 x5 x6 x7 := by kernel_rfl
    rw [h]
    have e6 : (fun x0 x1 x2 x3 x4 x5 x6 x7 => lp awake28_E fuel Try.f9 [.raw] 0 awake28.k 6 [] k (awake28.s6 u x0 x1 x2 x3 x4 x5 x6 x7)) = awake28.l6 fuel u k := (funext fun x0 => (funext fun x1 => (funext fun x2 => (funext fun x3 => (funext fun x4 => (funext fun x5 => (funext fun x6 => (funext fun x7 => ih x0 x1 x2 x3 x4 x5 x6 x7))))))))
    rw [e6]
    rfl
theorem awake28.eq (fuel : Nat) (u : Unit) : (denF awake28_E loopN fuel Try.f9 [.raw] [] [] awake28.k) = awake28.f fuel u := by
  have h : (denF awake28_E loopN fuel Try.f9 [.raw] [] [] awake28.k) = awake28.b u (fun x0 x1 x2 x3 x4 x5 x6 x7 => lp awake28_E fuel Try.f9 [.raw] 0 awake28.k 6 [] fuel (awake28.s6 u x0 x1 x2 x3 x4 x5 x6 x7)) := by kernel_rfl
  rw [h]
  have e6 : (fun x0 x1 x2 x3 x4 x5 x6 x7 => lp awake28_E fuel Try.f9 [.raw] 0 awake28.k 6 [] fuel (awake28.s6 u x0 x1 x2 x3 x4 x5 x6 x7)) = awake28.l6 fuel u fuel := (funext fun x0 => (funext fun x1 => (funext fun x2 => (funext fun x3 => (funext fun x4 => (funext fun x5 => (funext fun x6 => (funext fun x7 => awake28.l6_eq fuel u fuel x0 x1 x2 x3 x4 x5 x6 x7))))))))
  rw [e6]
  rfl


noncomputable def ProbeFails_E : Env := ⟨th, gam [(9, s9), (10, s10), (11, s11), (12, s12), (13, s13)], fun i => if i = 6 then ⟨[0, 1, 2, 3, 9, 10], [], []⟩ else ⟨[], [], []⟩⟩
noncomputable def ProbeFails.k (rs : List AV) (os : List Den.Obj) : Option Bool :=
  match rs, os with
  | [.d .bool r0], [] => some r0
  | _, _ => none
noncomputable def ProbeFails.s6 (start : Int) (wait : Int) (period : Int) (att : Int) (x0 : Int) (x1 : Bool) (x2 : Int) (x3 : Int) (x4 : Int) (x5 : Bool) (x6 : Bool) : St := ⟨[.d (.int .i64) (start), .d (.int .i64) (wait), .d (.int .i64) (period), .d (.int .i64) (att), .dead, .dead, .dead, .dead, .dead, .ptr 64 0, .d (.int .i64) x0, .dead, .dead, .dead, .dead, .dead, .dead, .dead, .dead, .dead, .dead, .dead, .dead, .dead, .dead, .dead, .dead, .dead, .dead, .dead, .dead, .dead, .dead, .dead, .dead, .dead, .dead, .dead, .dead, .dead, .dead, .dead, .dead, .dead, .dead, .dead, .dead, .dead, .dead, .dead, .dead, .dead, .dead, .dead, .dead, .dead, .dead, .dead, .dead, .dead, .dead, .dead, .dead, .dead, .dead, .dead, .dead, .dead, .dead, .dead, .dead, .dead, .dead, .dead, .dead, .dead, .dead, .dead, .dead, .dead, .dead, .dead, .dead, .dead, .dead, .dead, .dead, .dead, .dead, .dead, .dead], ofL [(64, .box [.d .bool x1, .d (.int .i64) x2, .d (.int .i64) x3, .d (.int .i64) x4, .d (.int .i64) ((tickF start)), .d .bool x5, .d .bool x6, .nilsl])], 0⟩
noncomputable def ProbeFails.b6 (start : Int) (wait : Int) (period : Int) (att : Int) (A6 : Int → Bool → Int → Int → Int → Bool → Bool → Option Bool) (x0 : Int) (x1 : Bool) (x2 : Int) (x3 : Int) (x4 : Int) (x5 : Bool) (x6 : Bool) : Option Bool :=
  (if (decide (x0 ≤ period)) then (if (x0 == att) then (if ((3 : Int) == x2) then (if (!(x1 && ((9 : Int) == x4))) then some (false) else (if (decide (att ≥ (1 : Int))) then (if (x0 == period) then (if (!((decide (att ≤ x0)) == ((lookF x1 (tickF start) (x5 || (x1 && ((9 : Int) == x4))) x6 (Go.IntKind.wrap .i64 (start + x0)) wait period).1 == (3 : Int)))) then some (false) else (if (!((!(decide (att ≤ x0))) == ((lookF x1 (tickF start) (x5 || (x1 && ((9 : Int) == x4))) x6 (Go.IntKind.wrap .i64 (start + x0)) wait period).1 == (2 : Int)))) then some (false) else A6 (Go.IntKind.wrap .i64 (x0 + (1 : Int))) (lookF x1 (tickF start) (x5 || (x1 && ((9 : Int) == x4))) x6 (Go.IntKind.wrap .i64 (start + x0)) wait period).2.1 x2 x3 x4 (x5 || (x1 && ((9 : Int) == x4))) (lookF x1 (tickF start) (x5 || (x1 && ((9 : Int) == x4))) x6 (Go.IntKind.wrap .i64 (start + x0)) wait period).2.2)) else (if (x0 == wait) then (if (!(decide (att ≤ x0))) then (if ((lookF x1 (tickF start) (x5 || (x1 && ((9 : Int) == x4))) x6 (Go.IntKind.wrap .i64 (start + x0)) wait period).1 != (1 : Int)) then some (false) else A6 (Go.IntKind.wrap .i64 (x0 + (1 : Int))) (lookF x1 (tickF start) (x5 || (x1 && ((9 : Int) == x4))) x6 (Go.IntKind.wrap .i64 (start + x0)) wait period).2.1 x2 x3 x4 (x5 || (x1 && ((9 : Int) == x4))) (lookF x1 (tickF start) (x5 || (x1 && ((9 : Int) == x4))) x6 (Go.IntKind.wrap .i64 (start + x0)) wait period).2.2) else (if ((lookF x1 (tickF start) (x5 || (x1 && ((9 : Int) == x4))) x6 (Go.IntKind.wrap .i64 (start + x0)) wait period).1 != (0 : Int)) then some (false) else A6 (Go.IntKind.wrap .i64 (x0 + (1 : Int))) (lookF x1 (tickF start) (x5 || (x1 && ((9 : Int) == x4))) x6 (Go.IntKind.wrap .i64 (start + x0)) wait period).2.1 x2 x3 x4 (x5 || (x1 && ((9 : Int) == x4))) (lookF x1 (tickF start) (x5 || (x1 && ((9 : Int) == x4))) x6 (Go.IntKind.wrap .i64 (start + x0)) wait period).2.2)) else (if ((lookF x1 (tickF start) (x5 || (x1 && ((9 : Int) == x4))) x6 (Go.IntKind.wrap .i64 (start + x0)) wait period).1 != (0 : Int)) then some (false) else A6 (Go.IntKind.wrap .i64 (x0 + (1 : Int))) (lookF x1 (tickF start) (x5 || (x1 && ((9 : Int) == x4))) x6 (Go.IntKind.wrap .i64 (start + x0)) wait period).2.1 x2 x3 x4 (x5 || (x1 && ((9 : Int) == x4))) (lookF x1 (tickF start) (x5 || (x1 && ((9 : Int) == x4))) x6 (Go.IntKind.wrap .i64 (start + x0)) wait period).2.2))) else (if (x0 == period) then (if (!(false == ((lookF x1 (tickF start) (x5 || (x1 && ((9 : Int) == x4))) x6 (Go.IntKind.wrap .i64 (start + x0)) wait period).1 == (3 : Int)))) then some (false) else (if (!((!false) == ((lookF x1 (tickF start) (x5 || (x1 && ((9 : Int) == x4))) x6 (Go.IntKind.wrap .i64 (start + x0)) wait period).1 == (2 : Int)))) then some (false) else A6 (Go.IntKind.wrap .i64 (x0 + (1 : Int))) (lookF x1 (tickF start) (x5 || (x1 && ((9 : Int) == x4))) x6 (Go.IntKind.wrap .i64 (start + x0)) wait period).2.1 x2 x3 x4 (x5 || (x1 && ((9 : Int) == x4))) (lookF x1 (tickF start) (x5 || (x1 && ((9 : Int) == x4))) x6 (Go.IntKind.wrap .i64 (start + x0)) wait period).2.2)) else (if (x0 == wait) then (if ((lookF x1 (tickF start) (x5 || (x1 && ((9 : Int) == x4))) x6 (Go.IntKind.wrap .i64 (start + x0)) wait period).1 != (1 : Int)) then some (false) else A6 (Go.IntKind.wrap .i64 (x0 + (1 : Int))) (lookF x1 (tickF start) (x5 || (x1 && ((9 : Int) == x4))) x6 (Go.IntKind.wrap .i64 (start + x0)) wait period).2.1 x2 x3 x4 (x5 || (x1 && ((9 : Int) == x4))) (lookF x1 (tickF start) (x5 || (x1 && ((9 : Int) == x4))) x6 (Go.IntKind.wrap .i64 (start + x0)) wait period).2.2) else (if ((lookF x1 (tickF start) (x5 || (x1 && ((9 : Int) == x4))) x6 (Go.IntKind.wrap .i64 (start + x0)) wait period).1 != (0 : Int)) then some (false) else A6 (Go.IntKind.wrap .i64 (x0 + (1 : Int))) (lookF x1 (tickF start) (x5 || (x1 && ((9 : Int) == x4))) x6 (Go.IntKind.wrap .i64 (start + x0)) wait period).2.1 x2 x3 x4 (x5 || (x1 && ((9 : Int) == x4))) (lookF x1 (tickF start) (x5 || (x1 && ((9 : Int) == x4))) x6 (Go.IntKind.wrap .i64 (start + x0)) wait period).2.2))))) else none) else (if (decide (att ≥ (1 : Int))) then (if (x0 == period) then (if (!((decide (att ≤ x0)) == ((lookF x1 (tickF start) x5 x6 (Go.IntKind.wrap .i64 (start + x0)) wait period).1 == (3 : Int)))) then some (false) else (if (!((!(decide (att ≤ x0))) == ((lookF x1 (tickF start) x5 x6 (Go.IntKind.wrap .i64 (start + x0)) wait period).1 == (2 : Int)))) then some (false) else A6 (Go.IntKind.wrap .i64 (x0 + (1 : Int))) (lookF x1 (tickF start) x5 x6 (Go.IntKind.wrap .i64 (start + x0)) wait period).2.1 x2 x3 x4 x5 (lookF x1 (tickF start) x5 x6 (Go.IntKind.wrap .i64 (start + x0)) wait period).2.2)) else (if (x0 == wait) then (if (!(decide (att ≤ x0))) then (if ((lookF x1 (tickF start) x5 x6 (Go.IntKind.wrap .i64 (start + x0)) wait period).1 != (1 : Int)) then some (false) else A6 (Go.IntKind.wrap .i64 (x0 + (1 : Int))) (lookF x1 (tickF start) x5 x6 (Go.IntKind.wrap .i64 (start + x0)) wait period).2.1 x2 x3 x4 x5 (lookF x1 (tickF start) x5 x6 (Go.IntKind.wrap .i64 (start + x0)) wait period).2.2) else (if ((lookF x1 (tickF start) x5 x6 (Go.IntKind.wrap .i64 (start + x0)) wait period).1 != (0 : Int)) then some (false) else A6 (Go.IntKind.wrap .i64 (x0 + (1 : Int))) (lookF x1 (tickF start) x5 x6 (Go.IntKind.wrap .i64 (start + x0)) wait period).2.1 x2 x3 x4 x5 (lookF x1 (tickF start) x5 x6 (Go.IntKind.wrap .i64 (start + x0)) wait period).2.2)) else (if ((lookF x1 (tickF start) x5 x6 (Go.IntKind.wrap .i64 (start + x0)) wait period).1 != (0 : Int)) then some (false) else A6 (Go.IntKind.wrap .i64 (x0 + (1 : Int))) (lookF x1 (tickF start) x5 x6 (Go.IntKind.wrap .i64 (start + x0)) wait period).2.1 x2 x3 x4 x5 (lookF x1 (tickF start) x5 x6 (Go.IntKind.wrap .i64 (start + x0)) wait period).2.2))) else (if (x0 == period) then (if (!(false == ((lookF x1 (tickF start) x5 x6 (Go.IntKind.wrap .i64 (start + x0)) wait period).1 == (3 : Int)))) then some (false) else (if (!((!false) == ((lookF x1 (tickF start) x5 x6 (Go.IntKind.wrap .i64 (start + x0)) wait period).1 == (2 : Int)))) then some (false) else A6 (Go.IntKind.wrap .i64 (x0 + (1 : Int))) (lookF x1 (tickF start) x5 x6 (Go.IntKind.wrap .i64 (start + x0)) wait period).2.1 x2 x3 x4 x5 (lookF x1 (tickF start) x5 x6 (Go.IntKind.wrap .i64 (start + x0)) wait period).2.2)) else (if (x0 == wait) then (if ((lookF x1 (tickF start) x5 x6 (Go.IntKind.wrap .i64 (start + x0)) wait period).1 != (1 : Int)) then some (false) else A6 (Go.IntKind.wrap .i64 (x0 + (1 : Int))) (lookF x1 (tickF start) x5 x6 (Go.IntKind.wrap .i64 (start + x0)) wait period).2.1 x2 x3 x4 x5 (lookF x1 (tickF start) x5 x6 (Go.IntKind.wrap .i64 (start + x0)) wait period).2.2) else (if ((lookF x1 (tickF start) x5 x6 (Go.IntKind.wrap .i64 (start + x0)) wait period).1 != (0 : Int)) then some (false) else A6 (Go.IntKind.wrap .i64 (x0 + (1 : Int))) (lookF x1 (tickF start) x5 x6 (Go.IntKind.wrap .i64 (start + x0)) wait period).2.1 x2 x3 x4 x5 (lookF x1 (tickF start) x5 x6 (Go.IntKind.wrap .i64 (start + x0)) wait period).2.2))))) else some (true))
noncomputable def ProbeFails.l6 (fuel : Nat) (start : Int) (wait : Int) (period : Int) (att : Int) : Nat → Int → Bool → Int → Int → Int → Bool → Bool → Option Bool
  | 0, _, _, _, _, _, _, _ => none
  | k + 1, x0, x1, x2, x3, x4, x5, x6 => ProbeFails.b6 start wait period att (ProbeFails.l6 fuel start wait period att k) x0 x1 x2 x3 x4 x5 x6
noncomputable def ProbeFails.b (start : Int) (wait : Int) (period : Int) (att : Int) (E6 : Int → Bool → Int → Int → Int → Bool → Bool → Option Bool) : Option Bool :=
  (if (decide (start < (0 : Int))) then some (true) else (if (decide (start > (veil (1000000 : Int)))) then some (true) else (if (decide (wait < (1 : Int))) then some (true) else (if (decide (wait ≥ period)) then some (true) else (if (decide (period > (60 : Int))) then some (true) else E6 (1 : Int) true (3 : Int) ((0 : Int), (9 : Int)).1 ((0 : Int), (9 : Int)).2 false false)))))
noncomputable def ProbeFails.f (fuel : Nat) (start : Int) (wait : Int) (period : Int) (att : Int) : Option Bool := ProbeFails.b start wait period att (ProbeFails.l6 fuel start wait period att fuel)
theorem ProbeFails.l6_eq (fuel : Nat) (start : Int) (wait : Int) (period : Int) (att : Int) : ∀ (k : Nat) (x0 : Int) (x1 : Bool) (x2 : Int) (x3 : Int) (x4 : Int) (x5 : Bool) (x6 : Bool), lp ProbeFails_E fuel Try.f3 [.raw] 0 ProbeFails.k 6 [] k (ProbeFails.s6 start wait period att x0 x1 x2 x3 x4 x5 x6) = ProbeFails.l6 fuel start wait period att k x0 x1 x2 x3 x4 x5 x6 := by
  intro k
  induction k with
  | zero => intro x0 x1 x2 x3 x4 x5 x6; rfl
  | succ k ih =>
    intro x0 x1 x2 x3 x4 x5 x6
    have h : lp ProbeFails_E fuel Try.f3 [.raw] 0 ProbeFails.k 6 [] (k + 1) (ProbeFails.s6 start wait period att x0 x1 x2 x3 x4 x5 x6) = ProbeFails.b6 start wait period att (fun x0 x1 x2 x3 x4 x5 x6 => lp ProbeFails_E fuel Try.f3 [.raw] 0 ProbeFails.k 6 [] k (ProbeFails.s6 start wait period att x0 x1 x2 x3 x4 x5 x6)) x0 x1 x2 x3 x4 x5 x6 := by kernel_rfl
    rw [h]
    have e6 : (fun x0 x1 x2 x3 x4 x5 x6 => lp ProbeFails_E fuel Try.f3 [.raw] 0 ProbeFails.k 6 [] k (ProbeFails.s6 start wait period att x0 x1 x2 x3 x4 x5 x6)) = ProbeFails.l6 fuel start wait period att k := (funext fun x0 => (funext fun x1 => (funext fun x2 => (funext fun x3 => (funext fun x4 => (funext fun x5 => (funext fun x6 => ih x0 x1 x2 x3 x4 x5 x6)))))))
    rw [e6]
    rfl
theorem ProbeFails.eq (fuel : Nat) (start : Int) (wait : Int) (period : Int) (att : Int) : (denF ProbeFails_E loopN fuel Try.f3 [.raw] [.d (.int .i64) start, .d (.int .i64) wait, .d (.int .i64) period, .d (.int .i64) att] [] ProbeFails.k) = ProbeFails.f fuel start wait period att := by
  have h : (denF ProbeFails_E loopN fuel Try.f3 [.raw] [.d (.int .i64) start, .d (.int .i64) wait, .d (.int .i64) period, .d (.int .i64) att] [] ProbeFails.k) = ProbeFails.b start wait period att (fun x0 x1 x2 x3 x4 x5 x6 => lp ProbeFails_E fuel Try.f3 [.raw] 0 ProbeFails.k 6 [] fuel (ProbeFails.s6 start wait period att x0 x1 x2 x3 x4 x5 x6)) := by kernel_rfl
  rw [h]
  have e6 : (fun x0 x1 x2 x3 x4 x5 x6 => lp ProbeFails_E fuel Try.f3 [.raw] 0 ProbeFails.k 6 [] fuel (ProbeFails.s6 start wait period att x0 x1 x2 x3 x4 x5 x6)) = ProbeFails.l6 fuel start wait period att fuel := (funext fun x0 => (funext fun x1 => (funext fun x2 => (funext fun x3 => (funext fun x4 => (funext fun x5 => (funext fun x6 => ProbeFails.l6_eq fuel start wait period att fuel x0 x1 x2 x3 x4 x5 x6)))))))
  rw [e6]
  rfl


end Go.Proofs.Ytpgcdengljfojaa
