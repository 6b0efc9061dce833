/- QueuePlays, part 1: what the row leans on. -/
import Derived.Test.YtkfiohbhihmcnaaEv3
import Derived.Test.YtkfiohbhihmcnaaRows
import Derived.Test.YtkfiohbhihmcnaaTh
import Derived.KernelRfl
import Derived.Laws.BitsLemmas
import Derived.Test.YtkfiohbhihmcnaaJ0
import Derived.Laws.Bits64
set_option linter.unusedVariables false
set_option linter.unusedSimpArgs false
set_option maxRecDepth 100000
namespace Go.Proofs.Ytkfiohbhihmcnaa
open Go.Den
theorem Try.own : ownKnob Try.prog.godebug = none := by kernel_rfl
theorem Try.laidOut : laidOutB Try.prog = true := by kernel_rfl
theorem Try.mapsRow : mapsRowed Try.prog = true := by kernel_rfl
theorem Try.slicesSize : slicesSized Try.prog = true := by kernel_rfl
noncomputable def BIG : Nat := veil 1099511627776
theorem BIG_eq : BIG = 1099511627776 := veil_eq _
theorem big_eq : BIG = (BIG - 1) + 1 := by rw [BIG_eq]
theorem any_ok : Try.prog.follows .mixedOrders = true := by kernel_rfl
theorem wrap_small (n : Int) (h0 : -9223372036854775808 ≤ n) (h1 : n < 9223372036854775808) : Go.IntKind.wrap .i64 n = n := by
  rw [Go.IntKind.wrap_i64]; omega
theorem idx_at {α : Type} (l : List α) (i : Nat) : idx l (i : Int) = l[i]? := by
  unfold idx
  rw [if_pos (by omega)]
  simp
theorem getD_at {α : Type} (l : List α) (d : α) (i : Nat) (h : i < l.length) : idx l (i : Int) = some (l.getD i d) := by
  rw [idx_at, List.getElem?_eq_getElem h]; simp [List.getD, List.getElem?_eq_getElem h]
def fidx {α : Type} (p : α → Bool) : List α → Nat → Int
  | [], _ => -1
  | x :: xs, k => if p x = true then (k : Int) else fidx p xs (k + 1)
theorem idx_mid {α : Type} (a : List α) (v : α) (b : List α) : idx (a ++ v :: b) ((a.length : Nat) : Int) = some v := by
  rw [idx_at]; simp
theorem fidx_cutk {α : Type} (p : α → Bool) : ∀ (s : List α) (k : Nat), (fidx p s k = -1 ∧ s.filter (fun v => !(p v)) = s ∧ ∀ x ∈ s, p x = false) ∨ ∃ a v b, s = a ++ v :: b ∧ (a.filter (fun v => !(p v)) = a) ∧ (∀ x ∈ a, p x = false) ∧ p v = true ∧ fidx p s k = (k : Int) + a.length
  | [], k => Or.inl ⟨rfl, rfl, by simp⟩
  | x :: s, k => by
    rw [fidx]
    cases hp : p x with
    | true => exact Or.inr ⟨[], x, s, rfl, rfl, by simp, hp, by simp⟩
    | false =>
      rw [if_neg (by simp)]
      rcases fidx_cutk p s (k + 1) with ⟨h, hf, ha⟩ | ⟨a, v, b, e, ha, ha2, hv, hi⟩
      · exact Or.inl ⟨h, by simp [hp, hf], by simp [hp]; exact ha⟩
      · exact Or.inr ⟨x :: a, v, b, by rw [e]; rfl, by simp [hp, ha], by simp [hp]; exact ha2, hv, by rw [hi]; simp <;> omega⟩
theorem fidx_cut {α : Type} (p : α → Bool) (s : List α) : (fidx p s 0 = -1 ∧ s.filter (fun v => !(p v)) = s) ∨ ∃ a v b, s = a ++ v :: b ∧ (a.filter (fun v => !(p v)) = a) ∧ p v = true ∧ fidx p s 0 = (a.length : Int) := by
  rcases fidx_cutk p s 0 with ⟨h, hf, _⟩ | ⟨a, v, b, e, ha, _, hv, hi⟩
  · exact Or.inl ⟨h, hf⟩
  · exact Or.inr ⟨a, v, b, e, ha, hv, by rw [hi]; simp⟩
def renC1 : Go.Shelf.Ren where
  f := fun x => match x with
    | 41 => 47
    | n => n
  t := fun x => match x with
    | 4 => 4
    | 22 => 41
    | 23 => 47
    | n => n
  g := fun x => x
theorem laysC1 : Go.Proofs.SlLaysE0.n41 Try.prog renC1 where
  mixed := by kernel_rfl
  f41 := ⟨_, by kernel_rfl, Try.func47⟩
  t4 := Try.underlying4
  a4 := Try.isAgg4
  z4 := Try.sizeOf4
  v4 := Try.zeroValue4
  t22 := Try.underlying41
  a22 := Try.isAgg41
  z22 := Try.sizeOf41
  v22 := Try.zeroValue41
noncomputable def s_clone47 : Den.Sum := s_clone 47 (.pair (.int .i64) (.int .i64)) 16
theorem s_clone47_det : SumDet s_clone47 := s_clone_det _ _ _
theorem isInfo47 : (Try.prog.info? 47).isSome = true := by kernel_rfl
theorem s_clone47_ok : SumOk Try.prog 47 s_clone47 :=
  s_clone_ok laysC1 ((Try.prog.info? 47).get isInfo47) (.agg #[.int .i64 0, .int .i64 0]) (.pair (.int .i64) (.int .i64)) 16 (Option.some_get isInfo47).symm (by kernel_rfl) (by kernel_rfl) (by kernel_rfl) (by rfl) (by decide) Try.sizeOf47 Try.func47 rfl (by kernel_rfl)
noncomputable def queue_New_E : Env := ⟨th, gam [], fun i => ⟨[], [], []⟩⟩
noncomputable def queue_New.k (rs : List AV) (os : List Den.Obj) : Option Unit :=
  match rs, os with
  | [.ptr 0 0], [.box [.nilsl]] => some ()
  | _, _ => none
noncomputable def queue_New.b (u : Unit) : Option Unit :=
  some ()
noncomputable def queue_New.f (fuel : Nat) (u : Unit) : Option Unit := queue_New.b u
theorem queue_New.eq (fuel : Nat) (u : Unit) : (denF queue_New_E loopN fuel Try.f16 [.raw] [] [] queue_New.k) = queue_New.f fuel u := by
  kernel_rfl
noncomputable def s_queue_New : Den.Sum := ⟨[], fun args objs κ => match args, objs with
  | [], [] => (match veil (queue_New.f BIG ()) with | none => none | some y => κ [.ptr 0 0] [.box [.nilsl]])
  | _, _ => none⟩
theorem s_queue_New_det : SumDet s_queue_New := fun avs objs R κ => by
  show s_queue_New.run avs objs (two κ) = (s_queue_New.run avs objs (two some)).bind κ
  unfold s_queue_New
  simp only [veil_eq]
  split
  · split <;> rfl
  · rfl
theorem s_queue_New_ok : SumOk Try.prog 16 s_queue_New := by
  have hE : EnvOk Try.prog queue_New_E := env_ok (l := []) th_ok any_ok trivial _
  refine sum_ok hE Try.func16 rfl (by kernel_rfl) s_queue_New [.raw] queue_New.k ?_
  intro R avs objs κ r h
  unfold s_queue_New at h
  simp only [veil_eq] at h
  split at h
  · skip
    split at h
    · cases h
    · rename_i y hy
      refine ⟨BIG, _, _, _, (queue_New.eq BIG ()).trans hy, ?_, h⟩
      intro rs ros hk
      unfold queue_New.k at hk
      split at hk
      · first | (cases hk; exact ⟨rfl, rfl⟩) | (have e := Option.some.inj hk; rw [← e]; exact ⟨rfl, rfl⟩)
      · cases hk
  · cases h
noncomputable def law22_without_E : Env := ⟨th, gam [], fun i => if i = 3 then ⟨[0, 1, 5, 6], [(5, 47, (.pair (.int .i64) (.int .i64)))], []⟩ else ⟨[], [], []⟩⟩
noncomputable def law22_without.k (rs : List AV) (os : List Den.Obj) : Option (List (Int × Int)) :=
  match rs, os with
  | [.row 0], [.row 47 (.pair (.int .i64) (.int .i64)) r0 false] => some r0
  | _, _ => none
noncomputable def law22_without.s3 (l : List (Int × Int)) (id : Int) (x0 : Int) (x1 : (List (Int × Int))) : St := ⟨[.d (.sl (.pair (.int .i64) (.int .i64))) (l), .d (.int .i64) (id), .dead, .dead, .dead, .row 64, .d (.int .i64) x0, .dead, .dead, .dead, .dead, .dead, .dead, .dead, .dead, .dead, .dead, .dead, .dead, .dead, .dead, .dead, .dead, .dead, .dead, .dead, .dead, .dead], ofL [(64, .row 47 (.pair (.int .i64) (.int .i64)) x1 false)], 0⟩
noncomputable def law22_without.b3 (l : List (Int × Int)) (id : Int) (A3 : Int → (List (Int × Int)) → Option (List (Int × Int))) (x0 : Int) (x1 : (List (Int × Int))) : Option (List (Int × Int)) :=
  (if (decide (x0 < ((((List.length l)) : Nat) : Int))) then (match (idx l x0) with | none => none | some y2 => (if (y2.1 != id) then (match (idx l x0) with | none => none | some y3 => (if ((((List.length x1) + (List.length ((y3.1, y3.2) :: ([] : List (Int × Int))))) * (16 : Nat)) ≤ lim) then A3 (Go.IntKind.wrap .i64 (x0 + (1 : Int))) (x1 ++ ((y3.1, y3.2) :: ([] : List (Int × Int)))) else none)) else A3 (Go.IntKind.wrap .i64 (x0 + (1 : Int))) x1)) else some (x1))
noncomputable def law22_without.l3 (fuel : Nat) (l : List (Int × Int)) (id : Int) : Nat → Int → (List (Int × Int)) → Option (List (Int × Int))
  | 0, _, _ => none
  | k + 1, x0, x1 => law22_without.b3 l id (law22_without.l3 fuel l id k) x0 x1
noncomputable def law22_without.b (l : List (Int × Int)) (id : Int) (E3 : Int → (List (Int × Int)) → Option (List (Int × Int))) : Option (List (Int × Int)) :=
  E3 (0 : Int) ([] : List (Int × Int))
noncomputable def law22_without.f (fuel : Nat) (l : List (Int × Int)) (id : Int) : Option (List (Int × Int)) := law22_without.b l id (law22_without.l3 fuel l id fuel)
theorem law22_without.l3_eq (fuel : Nat) (l : List (Int × Int)) (id : Int) : ∀ (k : Nat) (x0 : Int) (x1 : (List (Int × Int))), lp law22_without_E fuel Try.f18 [.own 47 (.pair (.int .i64) (.int .i64))] 0 law22_without.k 3 [] k (law22_without.s3 l id x0 x1) = law22_without.l3 fuel l id k x0 x1 := by
  intro k
  induction k with
  | zero => intro x0 x1; rfl
  | succ k ih =>
    intro x0 x1
    have h : lp law22_without_E fuel Try.f18 [.own 47 (.pair (.int .i64) (.int .i64))] 0 law22_without.k 3 [] (k + 1) (law22_without.s3 l id x0 x1) = law22_without.b3 l id (fun x0 x1 => lp law22_without_E fuel Try.f18 [.own 47 (.pair (.int .i64) (.int .i64))] 0 law22_without.k 3 [] k (law22_without.s3 l id x0 x1)) x0 x1 := by kernel_rfl
    rw [h]
    have e3 : (fun x0 x1 => lp law22_without_E fuel Try.f18 [.own 47 (.pair (.int .i64) (.int .i64))] 0 law22_without.k 3 [] k (law22_without.s3 l id x0 x1)) = law22_without.l3 fuel l id k := (funext fun x0 => (funext fun x1 => ih x0 x1))
    rw [e3]
    rfl
theorem law22_without.eq (fuel : Nat) (l : List (Int × Int)) (id : Int) : (denF law22_without_E loopN fuel Try.f18 [.own 47 (.pair (.int .i64) (.int .i64))] [.d (.sl (.pair (.int .i64) (.int .i64))) l, .d (.int .i64) id] [] law22_without.k) = law22_without.f fuel l id := by
  have h : (denF law22_without_E loopN fuel Try.f18 [.own 47 (.pair (.int .i64) (.int .i64))] [.d (.sl (.pair (.int .i64) (.int .i64))) l, .d (.int .i64) id] [] law22_without.k) = law22_without.b l id (fun x0 x1 => lp law22_without_E fuel Try.f18 [.own 47 (.pair (.int .i64) (.int .i64))] 0 law22_without.k 3 [] fuel (law22_without.s3 l id x0 x1)) := by kernel_rfl
  rw [h]
  have e3 : (fun x0 x1 => lp law22_without_E fuel Try.f18 [.own 47 (.pair (.int .i64) (.int .i64))] 0 law22_without.k 3 [] fuel (law22_without.s3 l id x0 x1)) = law22_without.l3 fuel l id fuel := (funext fun x0 => (funext fun x1 => law22_without.l3_eq fuel l id fuel x0 x1))
  rw [e3]
  rfl
theorem law22_without.l3_at (fuel nN kK : Nat) (hN : nN = kK + 1) (l : List (Int × Int)) (id : Int) (x0 : Int) (x1 : (List (Int × Int))) : law22_without.l3 fuel l id nN x0 x1 = law22_without.b3 l id (law22_without.l3 fuel l id kK) x0 x1 := by
  subst hN
  rfl
noncomputable def s_law22_without : Den.Sum := ⟨[.dat (.sl (.pair (.int .i64) (.int .i64))) false, .raw], fun args objs κ => match args, objs with
  | [.d (.sl (.pair (.int .i64) (.int .i64))) l, .d (.int .i64) id], [] => (match veil (law22_without.f BIG l id) with | none => none | some y => κ [.row 0] [.row 47 (.pair (.int .i64) (.int .i64)) y false])
  | _, _ => none⟩
theorem s_law22_without_det : SumDet s_law22_without := fun avs objs R κ => by
  show s_law22_without.run avs objs (two κ) = (s_law22_without.run avs objs (two some)).bind κ
  unfold s_law22_without
  simp only [veil_eq]
  split
  · split <;> rfl
  · rfl
theorem s_law22_without_ok : SumOk Try.prog 18 s_law22_without := by
  have hE : EnvOk Try.prog law22_without_E := env_ok (l := []) th_ok any_ok trivial _
  refine sum_ok hE Try.func18 rfl (by kernel_rfl) s_law22_without [.own 47 (.pair (.int .i64) (.int .i64))] law22_without.k ?_
  intro R avs objs κ r h
  unfold s_law22_without at h
  simp only [veil_eq] at h
  split at h
  · rename_i l id
    split at h
    · cases h
    · rename_i y hy
      refine ⟨BIG, _, _, _, (law22_without.eq BIG l id).trans hy, ?_, h⟩
      intro rs ros hk
      unfold law22_without.k at hk
      split at hk
      · first | (cases hk; exact ⟨rfl, rfl⟩) | (have e := Option.some.inj hk; rw [← e]; exact ⟨rfl, rfl⟩)
      · cases hk
  · cases h
noncomputable def queue_Budget_E : Env := ⟨th, gam [], fun i => if i = 5 then ⟨[0, 1, 5], [], []⟩ else ⟨[], [], []⟩⟩
noncomputable def queue_Budget.k (rs : List AV) (os : List Den.Obj) : Option Int :=
  match rs, os with
  | [.d (.int .i64) r0], [] => some r0
  | _, _ => none
noncomputable def queue_Budget.s5 (members : Int) (mult : Int) (x0 : Int) : St := ⟨[.d (.int .i64) ((minI members (4096 : Int))), .d (.int .i64) ((minI mult (64 : Int))), .dead, .dead, .dead, .d (.int .i64) x0, .dead, .dead, .dead, .dead, .dead, .dead, .dead, .dead, .dead, .dead, .dead, .dead, .dead, .dead, .dead, .dead, .dead, .dead, .dead], ofL [], 0⟩
noncomputable def queue_Budget.b5 (members : Int) (mult : Int) (A5 : Int → Option Int) (x0 : Int) : Option Int :=
  (if (x0 < (0 : Int)) then none else (if (decide ((Go.IntKind.wrap .i64 ((1 : Int) * ((2 : Int) ^ (Min.min (Int.toNat x0) (Go.IntKind.bits .i64))))) ≤ (minI members (4096 : Int)))) then A5 (Go.IntKind.wrap .i64 (x0 + (1 : Int))) else some ((Go.IntKind.wrap .i64 ((minI mult (64 : Int)) * x0)))))
noncomputable def queue_Budget.l5 (fuel : Nat) (members : Int) (mult : Int) : Nat → Int → Option Int
  | 0, _ => none
  | k + 1, x0 => queue_Budget.b5 members mult (queue_Budget.l5 fuel members mult k) x0
noncomputable def queue_Budget.b (members : Int) (mult : Int) (E5 : Int → Option Int) : Option Int :=
  (if (decide (members < (0 : Int))) then some ((0 : Int)) else (if (decide (mult < (1 : Int))) then some ((0 : Int)) else E5 (0 : Int)))
noncomputable def queue_Budget.f (fuel : Nat) (members : Int) (mult : Int) : Option Int := queue_Budget.b members mult (queue_Budget.l5 fuel members mult fuel)
theorem queue_Budget.l5_eq (fuel : Nat) (members : Int) (mult : Int) : ∀ (k : Nat) (x0 : Int), lp queue_Budget_E fuel Try.f23 [.raw] 0 queue_Budget.k 5 [] k (queue_Budget.s5 members mult x0) = queue_Budget.l5 fuel members mult k x0 := by
  intro k
  induction k with
  | zero => intro x0; rfl
  | succ k ih =>
    intro x0
    have h : lp queue_Budget_E fuel Try.f23 [.raw] 0 queue_Budget.k 5 [] (k + 1) (queue_Budget.s5 members mult x0) = queue_Budget.b5 members mult (fun x0 => lp queue_Budget_E fuel Try.f23 [.raw] 0 queue_Budget.k 5 [] k (queue_Budget.s5 members mult x0)) x0 := by kernel_rfl
    rw [h]
    have e5 : (fun x0 => lp queue_Budget_E fuel Try.f23 [.raw] 0 queue_Budget.k 5 [] k (queue_Budget.s5 members mult x0)) = queue_Budget.l5 fuel members mult k := (funext fun x0 => ih x0)
    rw [e5]
    rfl
theorem queue_Budget.eq (fuel : Nat) (members : Int) (mult : Int) : (denF queue_Budget_E loopN fuel Try.f23 [.raw] [.d (.int .i64) members, .d (.int .i64) mult] [] queue_Budget.k) = queue_Budget.f fuel members mult := by
  have h : (denF queue_Budget_E loopN fuel Try.f23 [.raw] [.d (.int .i64) members, .d (.int .i64) mult] [] queue_Budget.k) = queue_Budget.b members mult (fun x0 => lp queue_Budget_E fuel Try.f23 [.raw] 0 queue_Budget.k 5 [] fuel (queue_Budget.s5 members mult x0)) := by kernel_rfl
  rw [h]
  have e5 : (fun x0 => lp queue_Budget_E fuel Try.f23 [.raw] 0 queue_Budget.k 5 [] fuel (queue_Budget.s5 members mult x0)) = queue_Budget.l5 fuel members mult fuel := (funext fun x0 => queue_Budget.l5_eq fuel members mult fuel x0)
  rw [e5]
  rfl
theorem queue_Budget.l5_at (fuel nN kK : Nat) (hN : nN = kK + 1) (members : Int) (mult : Int) (x0 : Int) : queue_Budget.l5 fuel members mult nN x0 = queue_Budget.b5 members mult (queue_Budget.l5 fuel members mult kK) x0 := by
  subst hN
  rfl
noncomputable def s_queue_Budget : Den.Sum := ⟨[.raw, .raw], fun args objs κ => match args, objs with
  | [.d (.int .i64) members, .d (.int .i64) mult], [] => (match veil (queue_Budget.f BIG members mult) with | none => none | some y => κ [.d (.int .i64) y] [])
  | _, _ => none⟩
theorem s_queue_Budget_det : SumDet s_queue_Budget := fun avs objs R κ => by
  show s_queue_Budget.run avs objs (two κ) = (s_queue_Budget.run avs objs (two some)).bind κ
  unfold s_queue_Budget
  simp only [veil_eq]
  split
  · split <;> rfl
  · rfl
theorem s_queue_Budget_ok : SumOk Try.prog 23 s_queue_Budget := by
  have hE : EnvOk Try.prog queue_Budget_E := env_ok (l := []) th_ok any_ok trivial _
  refine sum_ok hE Try.func23 rfl (by kernel_rfl) s_queue_Budget [.raw] queue_Budget.k ?_
  intro R avs objs κ r h
  unfold s_queue_Budget at h
  simp only [veil_eq] at h
  split at h
  · rename_i members mult
    split at h
    · cases h
    · rename_i y hy
      refine ⟨BIG, _, _, _, (queue_Budget.eq BIG members mult).trans hy, ?_, h⟩
      intro rs ros hk
      unfold queue_Budget.k at hk
      split at hk
      · first | (cases hk; exact ⟨rfl, rfl⟩) | (have e := Option.some.inj hk; rw [← e]; exact ⟨rfl, rfl⟩)
      · cases hk
  · cases h
noncomputable def queue_Queue_Drop_c1_E : Env := ⟨th, gam [], fun i => ⟨[], [], []⟩⟩
noncomputable def queue_Queue_Drop_c1.k (rs : List AV) (os : List Den.Obj) : Option (Bool × Int) :=
  match rs, os with
  | [.d .bool r0], [.box [.d (.int .i64) r1]] => some (r0, r1)
  | _, _ => none
noncomputable def queue_Queue_Drop_c1.b (itID : Int) (itSent : Int) (id0 : Int) : Option (Bool × Int) :=
  some ((itID == id0), id0)
noncomputable def queue_Queue_Drop_c1.f (fuel : Nat) (itID : Int) (itSent : Int) (id0 : Int) : Option (Bool × Int) := queue_Queue_Drop_c1.b itID itSent id0
theorem queue_Queue_Drop_c1.eq (fuel : Nat) (itID : Int) (itSent : Int) (id0 : Int) : (denF queue_Queue_Drop_c1_E loopN fuel Try.f43 [.raw] [.agg [.d (.int .i64) itID, .d (.int .i64) itSent], .ptr 0 0] [.box [.d (.int .i64) id0]] queue_Queue_Drop_c1.k) = queue_Queue_Drop_c1.f fuel itID itSent id0 := by
  kernel_rfl
noncomputable def s_queue_Queue_Drop_c1 : Den.Sum := ⟨[.dat (.pair (.int .i64) (.int .i64)) true, .raw], fun args objs κ => match args, objs with
  | [.agg [.d (.int .i64) itID, .d (.int .i64) itSent], .ptr 0 0], [.box [.d (.int .i64) id0]] => (match veil (queue_Queue_Drop_c1.f BIG itID itSent id0) with | none => none | some y => κ [.d .bool y.1] [.box [.d (.int .i64) y.2]])
  | _, _ => none⟩
theorem s_queue_Queue_Drop_c1_det : SumDet s_queue_Queue_Drop_c1 := fun avs objs R κ => by
  show s_queue_Queue_Drop_c1.run avs objs (two κ) = (s_queue_Queue_Drop_c1.run avs objs (two some)).bind κ
  unfold s_queue_Queue_Drop_c1
  simp only [veil_eq]
  split
  · split <;> rfl
  · rfl
theorem s_queue_Queue_Drop_c1_ok : SumOk Try.prog 43 s_queue_Queue_Drop_c1 := by
  have hE : EnvOk Try.prog queue_Queue_Drop_c1_E := env_ok (l := []) th_ok any_ok trivial _
  refine sum_ok hE Try.func43 rfl (by kernel_rfl) s_queue_Queue_Drop_c1 [.raw] queue_Queue_Drop_c1.k ?_
  intro R avs objs κ r h
  unfold s_queue_Queue_Drop_c1 at h
  simp only [veil_eq] at h
  split at h
  · rename_i itID itSent id0
    split at h
    · cases h
    · rename_i y hy
      refine ⟨BIG, _, _, _, (queue_Queue_Drop_c1.eq BIG itID itSent id0).trans hy, ?_, h⟩
      intro rs ros hk
      unfold queue_Queue_Drop_c1.k at hk
      split at hk
      · first | (cases hk; exact ⟨rfl, rfl⟩) | (have e := Option.some.inj hk; rw [← e]; exact ⟨rfl, rfl⟩)
      · cases hk
  · cases h
noncomputable def slices_Reverse_queue_Item_queue_Item_E : Env := ⟨th, gam [], fun i => if i = 1 then ⟨[0, 2, 3], [], []⟩ else ⟨[], [], []⟩⟩
noncomputable def slices_Reverse_queue_Item_queue_Item.k (rs : List AV) (os : List Den.Obj) : Option (List (Int × Int)) :=
  match rs, os with
  | [], [.row 47 (.pair (.int .i64) (.int .i64)) r0 false] => some r0
  | _, _ => none
noncomputable def slices_Reverse_queue_Item_queue_Item.s1 (s : List (Int × Int)) (x0 : Int) (x1 : Int) (x2 : (List (Int × Int))) : St := ⟨[.row 0, .dead, .d (.int .i64) x0, .d (.int .i64) x1, .dead, .dead, .dead, .dead, .dead, .dead, .dead, .dead, .dead, .dead, .dead, .dead, .dead, .dead, .dead, .dead, .dead, .dead, .dead, .dead, .dead, .dead, .dead, .dead], ofL [(0, .row 47 (.pair (.int .i64) (.int .i64)) x2 false)], 1⟩
noncomputable def slices_Reverse_queue_Item_queue_Item.b1 (s : List (Int × Int)) (A1 : Int → Int → (List (Int × Int)) → Option (List (Int × Int))) (x0 : Int) (x1 : Int) (x2 : (List (Int × Int))) : Option (List (Int × Int)) :=
  (if (decide (x0 < x1)) then (match (idx x2 x1) with | none => none | some y3 => (match (idx x2 x1) with | none => none | some y4 => (match (idx x2 x0) with | none => none | some y5 => (match (idx x2 x0) with | none => none | some y6 => (match (idx x2 x0) with | none => none | some y7 => (match (idx x2 x0) with | none => none | some y8 => (match (idx (List.set x2 (Int.toNat x0) (y4.1, y4.2)) x1) with | none => none | some y9 => (match (idx (List.set x2 (Int.toNat x0) (y4.1, y4.2)) x1) with | none => none | some y10 => A1 (Go.IntKind.wrap .i64 (x0 + (1 : Int))) (Go.IntKind.wrap .i64 (x1 - (1 : Int))) (List.set (List.set x2 (Int.toNat x0) (y4.1, y4.2)) (Int.toNat x1) (y6.1, y6.2)))))))))) else some (x2))
noncomputable def slices_Reverse_queue_Item_queue_Item.l1 (fuel : Nat) (s : List (Int × Int)) : Nat → Int → Int → (List (Int × Int)) → Option (List (Int × Int))
  | 0, _, _, _ => none
  | k + 1, x0, x1, x2 => slices_Reverse_queue_Item_queue_Item.b1 s (slices_Reverse_queue_Item_queue_Item.l1 fuel s k) x0 x1 x2
noncomputable def slices_Reverse_queue_Item_queue_Item.b (s : List (Int × Int)) (E1 : Int → Int → (List (Int × Int)) → Option (List (Int × Int))) : Option (List (Int × Int)) :=
  E1 (0 : Int) (Go.IntKind.wrap .i64 (((((List.length s)) : Nat) : Int) - (1 : Int))) s
noncomputable def slices_Reverse_queue_Item_queue_Item.f (fuel : Nat) (s : List (Int × Int)) : Option (List (Int × Int)) := slices_Reverse_queue_Item_queue_Item.b s (slices_Reverse_queue_Item_queue_Item.l1 fuel s fuel)
theorem slices_Reverse_queue_Item_queue_Item.l1_eq (fuel : Nat) (s : List (Int × Int)) : ∀ (k : Nat) (x0 : Int) (x1 : Int) (x2 : (List (Int × Int))), lp slices_Reverse_queue_Item_queue_Item_E fuel Try.f48 [] 1 slices_Reverse_queue_Item_queue_Item.k 1 [] k (slices_Reverse_queue_Item_queue_Item.s1 s x0 x1 x2) = slices_Reverse_queue_Item_queue_Item.l1 fuel s k x0 x1 x2 := by
  intro k
  induction k with
  | zero => intro x0 x1 x2; rfl
  | succ k ih =>
    intro x0 x1 x2
    have h : lp slices_Reverse_queue_Item_queue_Item_E fuel Try.f48 [] 1 slices_Reverse_queue_Item_queue_Item.k 1 [] (k + 1) (slices_Reverse_queue_Item_queue_Item.s1 s x0 x1 x2) = slices_Reverse_queue_Item_queue_Item.b1 s (fun x0 x1 x2 => lp slices_Reverse_queue_Item_queue_Item_E fuel Try.f48 [] 1 slices_Reverse_queue_Item_queue_Item.k 1 [] k (slices_Reverse_queue_Item_queue_Item.s1 s x0 x1 x2)) x0 x1 x2 := by kernel_rfl
    rw [h]
    have e1 : (fun x0 x1 x2 => lp slices_Reverse_queue_Item_queue_Item_E fuel Try.f48 [] 1 slices_Reverse_queue_Item_queue_Item.k 1 [] k (slices_Reverse_queue_Item_queue_Item.s1 s x0 x1 x2)) = slices_Reverse_queue_Item_queue_Item.l1 fuel s k := (funext fun x0 => (funext fun x1 => (funext fun x2 => ih x0 x1 x2)))
    rw [e1]
    rfl
theorem slices_Reverse_queue_Item_queue_Item.eq (fuel : Nat) (s : List (Int × Int)) : (denF slices_Reverse_queue_Item_queue_Item_E loopN fuel Try.f48 [] [.row 0] [.row 47 (.pair (.int .i64) (.int .i64)) s false] slices_Reverse_queue_Item_queue_Item.k) = slices_Reverse_queue_Item_queue_Item.f fuel s := by
  have h : (denF slices_Reverse_queue_Item_queue_Item_E loopN fuel Try.f48 [] [.row 0] [.row 47 (.pair (.int .i64) (.int .i64)) s false] slices_Reverse_queue_Item_queue_Item.k) = slices_Reverse_queue_Item_queue_Item.b s (fun x0 x1 x2 => lp slices_Reverse_queue_Item_queue_Item_E fuel Try.f48 [] 1 slices_Reverse_queue_Item_queue_Item.k 1 [] fuel (slices_Reverse_queue_Item_queue_Item.s1 s x0 x1 x2)) := by kernel_rfl
  rw [h]
  have e1 : (fun x0 x1 x2 => lp slices_Reverse_queue_Item_queue_Item_E fuel Try.f48 [] 1 slices_Reverse_queue_Item_queue_Item.k 1 [] fuel (slices_Reverse_queue_Item_queue_Item.s1 s x0 x1 x2)) = slices_Reverse_queue_Item_queue_Item.l1 fuel s fuel := (funext fun x0 => (funext fun x1 => (funext fun x2 => slices_Reverse_queue_Item_queue_Item.l1_eq fuel s fuel x0 x1 x2)))
  rw [e1]
  rfl
theorem slices_Reverse_queue_Item_queue_Item.l1_at (fuel nN kK : Nat) (hN : nN = kK + 1) (s : List (Int × Int)) (x0 : Int) (x1 : Int) (x2 : (List (Int × Int))) : slices_Reverse_queue_Item_queue_Item.l1 fuel s nN x0 x1 x2 = slices_Reverse_queue_Item_queue_Item.b1 s (slices_Reverse_queue_Item_queue_Item.l1 fuel s kK) x0 x1 x2 := by
  subst hN
  rfl
noncomputable def s_slices_Reverse_queue_Item_queue_Item : Den.Sum := ⟨[.own 47 (.pair (.int .i64) (.int .i64))], fun args objs κ => match args, objs with
  | [.row 0], [.row 47 (.pair (.int .i64) (.int .i64)) s false] => (match veil (slices_Reverse_queue_Item_queue_Item.f BIG s) with | none => none | some y => κ [] [.row 47 (.pair (.int .i64) (.int .i64)) y false])
  | _, _ => none⟩
theorem s_slices_Reverse_queue_Item_queue_Item_det : SumDet s_slices_Reverse_queue_Item_queue_Item := fun avs objs R κ => by
  show s_slices_Reverse_queue_Item_queue_Item.run avs objs (two κ) = (s_slices_Reverse_queue_Item_queue_Item.run avs objs (two some)).bind κ
  unfold s_slices_Reverse_queue_Item_queue_Item
  simp only [veil_eq]
  split
  · split <;> rfl
  · rfl
theorem s_slices_Reverse_queue_Item_queue_Item_ok : SumOk Try.prog 48 s_slices_Reverse_queue_Item_queue_Item := by
  have hE : EnvOk Try.prog slices_Reverse_queue_Item_queue_Item_E := env_ok (l := []) th_ok any_ok trivial _
  refine sum_ok hE Try.func48 rfl (by kernel_rfl) s_slices_Reverse_queue_Item_queue_Item [] slices_Reverse_queue_Item_queue_Item.k ?_
  intro R avs objs κ r h
  unfold s_slices_Reverse_queue_Item_queue_Item at h
  simp only [veil_eq] at h
  split at h
  · rename_i s
    split at h
    · cases h
    · rename_i y hy
      refine ⟨BIG, _, _, _, (slices_Reverse_queue_Item_queue_Item.eq BIG s).trans hy, ?_, h⟩
      intro rs ros hk
      unfold slices_Reverse_queue_Item_queue_Item.k at hk
      split at hk
      · first | (cases hk; exact ⟨rfl, rfl⟩) | (have e := Option.some.inj hk; rw [← e]; exact ⟨rfl, rfl⟩)
      · cases hk
  · cases h
noncomputable def queue_Queue_All_c1_E : Env := ⟨th, gam [], fun i => ⟨[], [], []⟩⟩
noncomputable def queue_Queue_All_c1.k (rs : List AV) (os : List Den.Obj) : Option Int :=
  match rs, os with
  | [.d (.int .i64) r0], [] => some r0
  | _, _ => none
noncomputable def queue_Queue_All_c1.b (aID : Int) (aSent : Int) (bID : Int) (bSent : Int) : Option Int :=
  (if (decide (aSent < bSent)) then some ((-(1 : Int))) else (if (decide (aSent > bSent)) then some ((1 : Int)) else some ((0 : Int))))
noncomputable def queue_Queue_All_c1.f (fuel : Nat) (aID : Int) (aSent : Int) (bID : Int) (bSent : Int) : Option Int := queue_Queue_All_c1.b aID aSent bID bSent
theorem queue_Queue_All_c1.eq (fuel : Nat) (aID : Int) (aSent : Int) (bID : Int) (bSent : Int) : (denF queue_Queue_All_c1_E loopN fuel Try.f50 [.raw] [.agg [.d (.int .i64) aID, .d (.int .i64) aSent], .agg [.d (.int .i64) bID, .d (.int .i64) bSent]] [] queue_Queue_All_c1.k) = queue_Queue_All_c1.f fuel aID aSent bID bSent := by
  kernel_rfl
noncomputable def s_queue_Queue_All_c1 : Den.Sum := ⟨[.dat (.pair (.int .i64) (.int .i64)) true, .dat (.pair (.int .i64) (.int .i64)) true], fun args objs κ => match args, objs with
  | [.agg [.d (.int .i64) aID, .d (.int .i64) aSent], .agg [.d (.int .i64) bID, .d (.int .i64) bSent]], [] => (match veil (queue_Queue_All_c1.f BIG aID aSent bID bSent) with | none => none | some y => κ [.d (.int .i64) y] [])
  | _, _ => none⟩
theorem s_queue_Queue_All_c1_det : SumDet s_queue_Queue_All_c1 := fun avs objs R κ => by
  show s_queue_Queue_All_c1.run avs objs (two κ) = (s_queue_Queue_All_c1.run avs objs (two some)).bind κ
  unfold s_queue_Queue_All_c1
  simp only [veil_eq]
  split
  · split <;> rfl
  · rfl
theorem s_queue_Queue_All_c1_ok : SumOk Try.prog 50 s_queue_Queue_All_c1 := by
  have hE : EnvOk Try.prog queue_Queue_All_c1_E := env_ok (l := []) th_ok any_ok trivial _
  refine sum_ok hE Try.func50 rfl (by kernel_rfl) s_queue_Queue_All_c1 [.raw] queue_Queue_All_c1.k ?_
  intro R avs objs κ r h
  unfold s_queue_Queue_All_c1 at h
  simp only [veil_eq] at h
  split at h
  · rename_i aID aSent bID bSent
    split at h
    · cases h
    · rename_i y hy
      refine ⟨BIG, _, _, _, (queue_Queue_All_c1.eq BIG aID aSent bID bSent).trans hy, ?_, h⟩
      intro rs ros hk
      unfold queue_Queue_All_c1.k at hk
      split at hk
      · first | (cases hk; exact ⟨rfl, rfl⟩) | (have e := Option.some.inj hk; rw [← e]; exact ⟨rfl, rfl⟩)
      · cases hk
  · cases h
noncomputable def slices_Index_int_int_row_E : Env := ⟨th, gam [], fun i => if i = 2 then ⟨[0, 1, 7, 8], [], []⟩ else ⟨[], [], []⟩⟩
noncomputable def slices_Index_int_int_row.k (rs : List AV) (os : List Den.Obj) : Option (Int × (List Int)) :=
  match rs, os with
  | [.d (.int .i64) r0], [.row 3 (.int .i64) r1 false] => some (r0, r1)
  | _, _ => none
noncomputable def slices_Index_int_int_row.s2 (s : List Int) (v : Int) (x0 : Int) (x1 : Int) : St := ⟨[.row 0, .d (.int .i64) (v), .dead, .dead, .dead, .dead, .dead, .d (.int .i64) x0, .d (.int .i64) x1, .dead, .dead, .dead, .dead, .dead, .dead, .dead, .dead, .dead, .dead], ofL [(0, .row 3 (.int .i64) (s) false)], 1⟩
noncomputable def slices_Index_int_int_row.b2 (s : List Int) (v : Int) (A2 : Int → Int → Option (Int × (List Int))) (x0 : Int) (x1 : Int) : Option (Int × (List Int)) :=
  (if (decide (x1 < x0)) then (match (idx s x1) with | none => none | some y2 => (match (idx s x1) with | none => none | some y3 => (if (v == y3) then some (x1, s) else A2 x0 (Go.IntKind.wrap .i64 (x1 + (1 : Int)))))) else some ((-(1 : Int)), s))
noncomputable def slices_Index_int_int_row.l2 (fuel : Nat) (s : List Int) (v : Int) : Nat → Int → Int → Option (Int × (List Int))
  | 0, _, _ => none
  | k + 1, x0, x1 => slices_Index_int_int_row.b2 s v (slices_Index_int_int_row.l2 fuel s v k) x0 x1
noncomputable def slices_Index_int_int_row.b (s : List Int) (v : Int) (E2 : Int → Int → Option (Int × (List Int))) : Option (Int × (List Int)) :=
  E2 ((((List.length s)) : Nat) : Int) (0 : Int)
noncomputable def slices_Index_int_int_row.f (fuel : Nat) (s : List Int) (v : Int) : Option (Int × (List Int)) := slices_Index_int_int_row.b s v (slices_Index_int_int_row.l2 fuel s v fuel)
theorem slices_Index_int_int_row.l2_eq (fuel : Nat) (s : List Int) (v : Int) : ∀ (k : Nat) (x0 : Int) (x1 : Int), lp slices_Index_int_int_row_E fuel Try.f61 [.raw] 1 slices_Index_int_int_row.k 2 [] k (slices_Index_int_int_row.s2 s v x0 x1) = slices_Index_int_int_row.l2 fuel s v k x0 x1 := by
  intro k
  induction k with
  | zero => intro x0 x1; rfl
  | succ k ih =>
    intro x0 x1
    have h : lp slices_Index_int_int_row_E fuel Try.f61 [.raw] 1 slices_Index_int_int_row.k 2 [] (k + 1) (slices_Index_int_int_row.s2 s v x0 x1) = slices_Index_int_int_row.b2 s v (fun x0 x1 => lp slices_Index_int_int_row_E fuel Try.f61 [.raw] 1 slices_Index_int_int_row.k 2 [] k (slices_Index_int_int_row.s2 s v x0 x1)) x0 x1 := by kernel_rfl
    rw [h]
    have e2 : (fun x0 x1 => lp slices_Index_int_int_row_E fuel Try.f61 [.raw] 1 slices_Index_int_int_row.k 2 [] k (slices_Index_int_int_row.s2 s v x0 x1)) = slices_Index_int_int_row.l2 fuel s v k := (funext fun x0 => (funext fun x1 => ih x0 x1))
    rw [e2]
    rfl
theorem slices_Index_int_int_row.eq (fuel : Nat) (s : List Int) (v : Int) : (denF slices_Index_int_int_row_E loopN fuel Try.f61 [.raw] [.row 0, .d (.int .i64) v] [.row 3 (.int .i64) s false] slices_Index_int_int_row.k) = slices_Index_int_int_row.f fuel s v := by
  have h : (denF slices_Index_int_int_row_E loopN fuel Try.f61 [.raw] [.row 0, .d (.int .i64) v] [.row 3 (.int .i64) s false] slices_Index_int_int_row.k) = slices_Index_int_int_row.b s v (fun x0 x1 => lp slices_Index_int_int_row_E fuel Try.f61 [.raw] 1 slices_Index_int_int_row.k 2 [] fuel (slices_Index_int_int_row.s2 s v x0 x1)) := by kernel_rfl
  rw [h]
  have e2 : (fun x0 x1 => lp slices_Index_int_int_row_E fuel Try.f61 [.raw] 1 slices_Index_int_int_row.k 2 [] fuel (slices_Index_int_int_row.s2 s v x0 x1)) = slices_Index_int_int_row.l2 fuel s v fuel := (funext fun x0 => (funext fun x1 => slices_Index_int_int_row.l2_eq fuel s v fuel x0 x1))
  rw [e2]
  rfl
theorem slices_Index_int_int_row.l2_at (fuel nN kK : Nat) (hN : nN = kK + 1) (s : List Int) (v : Int) (x0 : Int) (x1 : Int) : slices_Index_int_int_row.l2 fuel s v nN x0 x1 = slices_Index_int_int_row.b2 s v (slices_Index_int_int_row.l2 fuel s v kK) x0 x1 := by
  subst hN
  rfl
noncomputable def s_slices_Index_int_int_row : Den.Sum := ⟨[.own 3 (.int .i64), .raw], fun args objs κ => match args, objs with
  | [.row 0, .d (.int .i64) v], [.row 3 (.int .i64) s false] => (match veil (slices_Index_int_int_row.f BIG s v) with | none => none | some y => κ [.d (.int .i64) y.1] [.row 3 (.int .i64) y.2 false])
  | _, _ => none⟩
theorem s_slices_Index_int_int_row_det : SumDet s_slices_Index_int_int_row := fun avs objs R κ => by
  show s_slices_Index_int_int_row.run avs objs (two κ) = (s_slices_Index_int_int_row.run avs objs (two some)).bind κ
  unfold s_slices_Index_int_int_row
  simp only [veil_eq]
  split
  · split <;> rfl
  · rfl
theorem s_slices_Index_int_int_row_ok : SumOk Try.prog 61 s_slices_Index_int_int_row := by
  have hE : EnvOk Try.prog slices_Index_int_int_row_E := env_ok (l := []) th_ok any_ok trivial _
  refine sum_ok hE Try.func61 rfl (by kernel_rfl) s_slices_Index_int_int_row [.raw] slices_Index_int_int_row.k ?_
  intro R avs objs κ r h
  unfold s_slices_Index_int_int_row at h
  simp only [veil_eq] at h
  split at h
  · rename_i v s
    split at h
    · cases h
    · rename_i y hy
      refine ⟨BIG, _, _, _, (slices_Index_int_int_row.eq BIG s v).trans hy, ?_, h⟩
      intro rs ros hk
      unfold slices_Index_int_int_row.k at hk
      split at hk
      · first | (cases hk; exact ⟨rfl, rfl⟩) | (have e := Option.some.inj hk; rw [← e]; exact ⟨rfl, rfl⟩)
      · cases hk
  · cases h
noncomputable def slices_Index_int_int_dat_E : Env := ⟨th, gam [], fun i => if i = 2 then ⟨[0, 1, 7, 8], [], []⟩ else ⟨[], [], []⟩⟩
noncomputable def slices_Index_int_int_dat.k (rs : List AV) (os : List Den.Obj) : Option Int :=
  match rs, os with
  | [.d (.int .i64) r0], [] => some r0
  | _, _ => none
noncomputable def slices_Index_int_int_dat.s2 (s : List Int) (v : Int) (x0 : Int) (x1 : Int) : St := ⟨[.d (.sl (.int .i64)) (s), .d (.int .i64) (v), .dead, .dead, .dead, .dead, .dead, .d (.int .i64) x0, .d (.int .i64) x1, .dead, .dead, .dead, .dead, .dead, .dead, .dead, .dead, .dead, .dead], ofL [], 0⟩
noncomputable def slices_Index_int_int_dat.b2 (s : List Int) (v : Int) (A2 : Int → Int → Option Int) (x0 : Int) (x1 : Int) : Option Int :=
  (if (decide (x1 < x0)) then (match (idx s x1) with | none => none | some y2 => (if (v == y2) then some (x1) else A2 x0 (Go.IntKind.wrap .i64 (x1 + (1 : Int))))) else some ((-(1 : Int))))
noncomputable def slices_Index_int_int_dat.l2 (fuel : Nat) (s : List Int) (v : Int) : Nat → Int → Int → Option Int
  | 0, _, _ => none
  | k + 1, x0, x1 => slices_Index_int_int_dat.b2 s v (slices_Index_int_int_dat.l2 fuel s v k) x0 x1
noncomputable def slices_Index_int_int_dat.b (s : List Int) (v : Int) (E2 : Int → Int → Option Int) : Option Int :=
  E2 ((((List.length s)) : Nat) : Int) (0 : Int)
noncomputable def slices_Index_int_int_dat.f (fuel : Nat) (s : List Int) (v : Int) : Option Int := slices_Index_int_int_dat.b s v (slices_Index_int_int_dat.l2 fuel s v fuel)
theorem slices_Index_int_int_dat.l2_eq (fuel : Nat) (s : List Int) (v : Int) : ∀ (k : Nat) (x0 : Int) (x1 : Int), lp slices_Index_int_int_dat_E fuel Try.f61 [.raw] 0 slices_Index_int_int_dat.k 2 [] k (slices_Index_int_int_dat.s2 s v x0 x1) = slices_Index_int_int_dat.l2 fuel s v k x0 x1 := by
  intro k
  induction k with
  | zero => intro x0 x1; rfl
  | succ k ih =>
    intro x0 x1
    have h : lp slices_Index_int_int_dat_E fuel Try.f61 [.raw] 0 slices_Index_int_int_dat.k 2 [] (k + 1) (slices_Index_int_int_dat.s2 s v x0 x1) = slices_Index_int_int_dat.b2 s v (fun x0 x1 => lp slices_Index_int_int_dat_E fuel Try.f61 [.raw] 0 slices_Index_int_int_dat.k 2 [] k (slices_Index_int_int_dat.s2 s v x0 x1)) x0 x1 := by kernel_rfl
    rw [h]
    have e2 : (fun x0 x1 => lp slices_Index_int_int_dat_E fuel Try.f61 [.raw] 0 slices_Index_int_int_dat.k 2 [] k (slices_Index_int_int_dat.s2 s v x0 x1)) = slices_Index_int_int_dat.l2 fuel s v k := (funext fun x0 => (funext fun x1 => ih x0 x1))
    rw [e2]
    rfl
theorem slices_Index_int_int_dat.eq (fuel : Nat) (s : List Int) (v : Int) : (denF slices_Index_int_int_dat_E loopN fuel Try.f61 [.raw] [.d (.sl (.int .i64)) s, .d (.int .i64) v] [] slices_Index_int_int_dat.k) = slices_Index_int_int_dat.f fuel s v := by
  have h : (denF slices_Index_int_int_dat_E loopN fuel Try.f61 [.raw] [.d (.sl (.int .i64)) s, .d (.int .i64) v] [] slices_Index_int_int_dat.k) = slices_Index_int_int_dat.b s v (fun x0 x1 => lp slices_Index_int_int_dat_E fuel Try.f61 [.raw] 0 slices_Index_int_int_dat.k 2 [] fuel (slices_Index_int_int_dat.s2 s v x0 x1)) := by kernel_rfl
  rw [h]
  have e2 : (fun x0 x1 => lp slices_Index_int_int_dat_E fuel Try.f61 [.raw] 0 slices_Index_int_int_dat.k 2 [] fuel (slices_Index_int_int_dat.s2 s v x0 x1)) = slices_Index_int_int_dat.l2 fuel s v fuel := (funext fun x0 => (funext fun x1 => slices_Index_int_int_dat.l2_eq fuel s v fuel x0 x1))
  rw [e2]
  rfl
theorem slices_Index_int_int_dat.l2_at (fuel nN kK : Nat) (hN : nN = kK + 1) (s : List Int) (v : Int) (x0 : Int) (x1 : Int) : slices_Index_int_int_dat.l2 fuel s v nN x0 x1 = slices_Index_int_int_dat.b2 s v (slices_Index_int_int_dat.l2 fuel s v kK) x0 x1 := by
  subst hN
  rfl
noncomputable def s_slices_Index_int_int_dat : Den.Sum := ⟨[.own 3 (.int .i64), .raw], fun args objs κ => match args, objs with
  | [.d (.sl (.int .i64)) s, .d (.int .i64) v], [] => (match veil (slices_Index_int_int_dat.f BIG s v) with | none => none | some y => κ [.d (.int .i64) y] [])
  | _, _ => none⟩
theorem s_slices_Index_int_int_dat_det : SumDet s_slices_Index_int_int_dat := fun avs objs R κ => by
  show s_slices_Index_int_int_dat.run avs objs (two κ) = (s_slices_Index_int_int_dat.run avs objs (two some)).bind κ
  unfold s_slices_Index_int_int_dat
  simp only [veil_eq]
  split
  · split <;> rfl
  · rfl
theorem s_slices_Index_int_int_dat_ok : SumOk Try.prog 61 s_slices_Index_int_int_dat := by
  have hE : EnvOk Try.prog slices_Index_int_int_dat_E := env_ok (l := []) th_ok any_ok trivial _
  refine sum_ok hE Try.func61 rfl (by kernel_rfl) s_slices_Index_int_int_dat [.raw] slices_Index_int_int_dat.k ?_
  intro R avs objs κ r h
  unfold s_slices_Index_int_int_dat at h
  simp only [veil_eq] at h
  split at h
  · rename_i s v
    split at h
    · cases h
    · rename_i y hy
      refine ⟨BIG, _, _, _, (slices_Index_int_int_dat.eq BIG s v).trans hy, ?_, h⟩
      intro rs ros hk
      unfold slices_Index_int_int_dat.k at hk
      split at hk
      · first | (cases hk; exact ⟨rfl, rfl⟩) | (have e := Option.some.inj hk; rw [← e]; exact ⟨rfl, rfl⟩)
      · cases hk
  · cases h
noncomputable def s_slices_Index_int_int : Den.Sum := ⟨[.own 3 (.int .i64), .raw], fun args objs κ => match args, objs with
  | [.row 0, .d (.int .i64) v], [.row 3 (.int .i64) s false] => s_slices_Index_int_int_row.run [.row 0, .d (.int .i64) v] [.row 3 (.int .i64) s false] κ
  | [.d (.sl (.int .i64)) s, .d (.int .i64) v], [] => s_slices_Index_int_int_dat.run [.d (.sl (.int .i64)) s, .d (.int .i64) v] [] κ
  | _, _ => none⟩
theorem s_slices_Index_int_int_det : SumDet s_slices_Index_int_int := fun avs objs R κ => by
  show s_slices_Index_int_int.run avs objs (two κ) = (s_slices_Index_int_int.run avs objs (two some)).bind κ
  unfold s_slices_Index_int_int
  simp only
  split
  · exact s_slices_Index_int_int_row_det _ _ R κ
  · exact s_slices_Index_int_int_dat_det _ _ R κ
  · rfl
theorem s_slices_Index_int_int_ok : SumOk Try.prog 61 s_slices_Index_int_int := by
  refine ⟨s_slices_Index_int_int_row_ok.1, ?_⟩
  intro R avs objs κ r h
  unfold s_slices_Index_int_int at h
  simp only at h
  split at h
  · exact s_slices_Index_int_int_row_ok.2 _ _ κ r h
  · exact s_slices_Index_int_int_dat_ok.2 _ _ κ r h
  · cases h
noncomputable def slices_swapRangeCmpFunc_queue_Item_E : Env := ⟨th, gam [], fun i => if i = 1 then ⟨[0, 1, 2, 3, 10], [], []⟩ else ⟨[], [], []⟩⟩
noncomputable def slices_swapRangeCmpFunc_queue_Item.k (rs : List AV) (os : List Den.Obj) : Option (List (Int × Int)) :=
  match rs, os with
  | [], [.row 47 (.pair (.int .i64) (.int .i64)) r0 false] => some r0
  | _, _ => none
noncomputable def slices_swapRangeCmpFunc_queue_Item.s1 (l : List (Int × Int)) (a : Int) (b : Int) (n0 : Int) (x0 : Int) (x1 : (List (Int × Int))) : St := ⟨[.row 0, .d (.int .i64) (a), .d (.int .i64) (b), .d (.int .i64) (n0), .dead, .dead, .dead, .dead, .dead, .dead, .d (.int .i64) x0, .dead, .dead, .dead, .dead, .dead, .dead, .dead, .dead, .dead, .dead, .dead, .dead, .dead, .dead, .dead, .dead, .dead, .dead, .dead, .dead, .dead, .dead, .dead, .dead, .dead, .dead, .dead], ofL [(0, .row 47 (.pair (.int .i64) (.int .i64)) x1 false)], 1⟩
noncomputable def slices_swapRangeCmpFunc_queue_Item.b1 (l : List (Int × Int)) (a : Int) (b : Int) (n0 : Int) (A1 : Int → (List (Int × Int)) → Option (List (Int × Int))) (x0 : Int) (x1 : (List (Int × Int))) : Option (List (Int × Int)) :=
  (if (decide (x0 < n0)) then (match (idx x1 (Go.IntKind.wrap .i64 (b + x0))) with | none => none | some y2 => (match (idx x1 (Go.IntKind.wrap .i64 (b + x0))) with | none => none | some y3 => (match (idx x1 (Go.IntKind.wrap .i64 (a + x0))) with | none => none | some y4 => (match (idx x1 (Go.IntKind.wrap .i64 (a + x0))) with | none => none | some y5 => (match (idx x1 (Go.IntKind.wrap .i64 (a + x0))) with | none => none | some y6 => (match (idx x1 (Go.IntKind.wrap .i64 (a + x0))) with | none => none | some y7 => (match (idx (List.set x1 (Int.toNat (Go.IntKind.wrap .i64 (a + x0))) (y3.1, y3.2)) (Go.IntKind.wrap .i64 (b + x0))) with | none => none | some y8 => (match (idx (List.set x1 (Int.toNat (Go.IntKind.wrap .i64 (a + x0))) (y3.1, y3.2)) (Go.IntKind.wrap .i64 (b + x0))) with | none => none | some y9 => A1 (Go.IntKind.wrap .i64 (x0 + (1 : Int))) (List.set (List.set x1 (Int.toNat (Go.IntKind.wrap .i64 (a + x0))) (y3.1, y3.2)) (Int.toNat (Go.IntKind.wrap .i64 (b + x0))) (y5.1, y5.2)))))))))) else some (x1))
noncomputable def slices_swapRangeCmpFunc_queue_Item.l1 (fuel : Nat) (l : List (Int × Int)) (a : Int) (b : Int) (n0 : Int) : Nat → Int → (List (Int × Int)) → Option (List (Int × Int))
  | 0, _, _ => none
  | k + 1, x0, x1 => slices_swapRangeCmpFunc_queue_Item.b1 l a b n0 (slices_swapRangeCmpFunc_queue_Item.l1 fuel l a b n0 k) x0 x1
noncomputable def slices_swapRangeCmpFunc_queue_Item.b (l : List (Int × Int)) (a : Int) (b : Int) (n0 : Int) (E1 : Int → (List (Int × Int)) → Option (List (Int × Int))) : Option (List (Int × Int)) :=
  E1 (0 : Int) l
noncomputable def slices_swapRangeCmpFunc_queue_Item.f (fuel : Nat) (l : List (Int × Int)) (a : Int) (b : Int) (n0 : Int) : Option (List (Int × Int)) := slices_swapRangeCmpFunc_queue_Item.b l a b n0 (slices_swapRangeCmpFunc_queue_Item.l1 fuel l a b n0 fuel)
theorem slices_swapRangeCmpFunc_queue_Item.l1_eq (fuel : Nat) (l : List (Int × Int)) (a : Int) (b : Int) (n0 : Int) : ∀ (k : Nat) (x0 : Int) (x1 : (List (Int × Int))), lp slices_swapRangeCmpFunc_queue_Item_E fuel Try.f74 [] 1 slices_swapRangeCmpFunc_queue_Item.k 1 [] k (slices_swapRangeCmpFunc_queue_Item.s1 l a b n0 x0 x1) = slices_swapRangeCmpFunc_queue_Item.l1 fuel l a b n0 k x0 x1 := by
  intro k
  induction k with
  | zero => intro x0 x1; rfl
  | succ k ih =>
    intro x0 x1
    have h : lp slices_swapRangeCmpFunc_queue_Item_E fuel Try.f74 [] 1 slices_swapRangeCmpFunc_queue_Item.k 1 [] (k + 1) (slices_swapRangeCmpFunc_queue_Item.s1 l a b n0 x0 x1) = slices_swapRangeCmpFunc_queue_Item.b1 l a b n0 (fun x0 x1 => lp slices_swapRangeCmpFunc_queue_Item_E fuel Try.f74 [] 1 slices_swapRangeCmpFunc_queue_Item.k 1 [] k (slices_swapRangeCmpFunc_queue_Item.s1 l a b n0 x0 x1)) x0 x1 := by kernel_rfl
    rw [h]
    have e1 : (fun x0 x1 => lp slices_swapRangeCmpFunc_queue_Item_E fuel Try.f74 [] 1 slices_swapRangeCmpFunc_queue_Item.k 1 [] k (slices_swapRangeCmpFunc_queue_Item.s1 l a b n0 x0 x1)) = slices_swapRangeCmpFunc_queue_Item.l1 fuel l a b n0 k := (funext fun x0 => (funext fun x1 => ih x0 x1))
    rw [e1]
    rfl
theorem slices_swapRangeCmpFunc_queue_Item.eq (fuel : Nat) (l : List (Int × Int)) (a : Int) (b : Int) (n0 : Int) : (denF slices_swapRangeCmpFunc_queue_Item_E loopN fuel Try.f74 [] [.row 0, .d (.int .i64) a, .d (.int .i64) b, .d (.int .i64) n0, .fn (.func 50) [] []] [.row 47 (.pair (.int .i64) (.int .i64)) l false] slices_swapRangeCmpFunc_queue_Item.k) = slices_swapRangeCmpFunc_queue_Item.f fuel l a b n0 := by
  have h : (denF slices_swapRangeCmpFunc_queue_Item_E loopN fuel Try.f74 [] [.row 0, .d (.int .i64) a, .d (.int .i64) b, .d (.int .i64) n0, .fn (.func 50) [] []] [.row 47 (.pair (.int .i64) (.int .i64)) l false] slices_swapRangeCmpFunc_queue_Item.k) = slices_swapRangeCmpFunc_queue_Item.b l a b n0 (fun x0 x1 => lp slices_swapRangeCmpFunc_queue_Item_E fuel Try.f74 [] 1 slices_swapRangeCmpFunc_queue_Item.k 1 [] fuel (slices_swapRangeCmpFunc_queue_Item.s1 l a b n0 x0 x1)) := by kernel_rfl
  rw [h]
  have e1 : (fun x0 x1 => lp slices_swapRangeCmpFunc_queue_Item_E fuel Try.f74 [] 1 slices_swapRangeCmpFunc_queue_Item.k 1 [] fuel (slices_swapRangeCmpFunc_queue_Item.s1 l a b n0 x0 x1)) = slices_swapRangeCmpFunc_queue_Item.l1 fuel l a b n0 fuel := (funext fun x0 => (funext fun x1 => slices_swapRangeCmpFunc_queue_Item.l1_eq fuel l a b n0 fuel x0 x1))
  rw [e1]
  rfl
theorem slices_swapRangeCmpFunc_queue_Item.l1_at (fuel nN kK : Nat) (hN : nN = kK + 1) (l : List (Int × Int)) (a : Int) (b : Int) (n0 : Int) (x0 : Int) (x1 : (List (Int × Int))) : slices_swapRangeCmpFunc_queue_Item.l1 fuel l a b n0 nN x0 x1 = slices_swapRangeCmpFunc_queue_Item.b1 l a b n0 (slices_swapRangeCmpFunc_queue_Item.l1 fuel l a b n0 kK) x0 x1 := by
  subst hN
  rfl
noncomputable def s_slices_swapRangeCmpFunc_queue_Item : Den.Sum := ⟨[.own 47 (.pair (.int .i64) (.int .i64)), .raw, .raw, .raw, .raw], fun args objs κ => match args, objs with
  | [.row 0, .d (.int .i64) a, .d (.int .i64) b, .d (.int .i64) n0, .fn (.func 50) [] []], [.row 47 (.pair (.int .i64) (.int .i64)) l false] => (match veil (slices_swapRangeCmpFunc_queue_Item.f BIG l a b n0) with | none => none | some y => κ [] [.row 47 (.pair (.int .i64) (.int .i64)) y false])
  | _, _ => none⟩
theorem s_slices_swapRangeCmpFunc_queue_Item_det : SumDet s_slices_swapRangeCmpFunc_queue_Item := fun avs objs R κ => by
  show s_slices_swapRangeCmpFunc_queue_Item.run avs objs (two κ) = (s_slices_swapRangeCmpFunc_queue_Item.run avs objs (two some)).bind κ
  unfold s_slices_swapRangeCmpFunc_queue_Item
  simp only [veil_eq]
  split
  · split <;> rfl
  · rfl
theorem s_slices_swapRangeCmpFunc_queue_Item_ok : SumOk Try.prog 74 s_slices_swapRangeCmpFunc_queue_Item := by
  have hE : EnvOk Try.prog slices_swapRangeCmpFunc_queue_Item_E := env_ok (l := []) th_ok any_ok trivial _
  refine sum_ok hE Try.func74 rfl (by kernel_rfl) s_slices_swapRangeCmpFunc_queue_Item [] slices_swapRangeCmpFunc_queue_Item.k ?_
  intro R avs objs κ r h
  unfold s_slices_swapRangeCmpFunc_queue_Item at h
  simp only [veil_eq] at h
  split at h
  · rename_i a b n0 l
    split at h
    · cases h
    · rename_i y hy
      refine ⟨BIG, _, _, _, (slices_swapRangeCmpFunc_queue_Item.eq BIG l a b n0).trans hy, ?_, h⟩
      intro rs ros hk
      unfold slices_swapRangeCmpFunc_queue_Item.k at hk
      split at hk
      · first | (cases hk; exact ⟨rfl, rfl⟩) | (have e := Option.some.inj hk; rw [← e]; exact ⟨rfl, rfl⟩)
      · cases hk
  · cases h
noncomputable def slices_Contains_int_int_row_E : Env := ⟨th, gam [(61, s_slices_Index_int_int)], fun i => ⟨[], [], []⟩⟩
noncomputable def slices_Contains_int_int_row.k (rs : List AV) (os : List Den.Obj) : Option (Bool × (List Int)) :=
  match rs, os with
  | [.d .bool r0], [.row 3 (.int .i64) r1 false] => some (r0, r1)
  | _, _ => none
noncomputable def slices_Contains_int_int_row.b (s : List Int) (v : Int) : Option (Bool × (List Int)) :=
  (match (veil (slices_Index_int_int_row.f BIG s v)) with | none => none | some y0 => some ((decide (y0.1 ≥ (0 : Int))), y0.2))
noncomputable def slices_Contains_int_int_row.f (fuel : Nat) (s : List Int) (v : Int) : Option (Bool × (List Int)) := slices_Contains_int_int_row.b s v
theorem slices_Contains_int_int_row.eq (fuel : Nat) (s : List Int) (v : Int) : (denF slices_Contains_int_int_row_E loopN fuel Try.f45 [.raw] [.row 0, .d (.int .i64) v] [.row 3 (.int .i64) s false] slices_Contains_int_int_row.k) = slices_Contains_int_int_row.f fuel s v := by
  kernel_rfl
noncomputable def s_slices_Contains_int_int_row : Den.Sum := ⟨[.own 3 (.int .i64), .raw], fun args objs κ => match args, objs with
  | [.row 0, .d (.int .i64) v], [.row 3 (.int .i64) s false] => (match veil (slices_Contains_int_int_row.f BIG s v) with | none => none | some y => κ [.d .bool y.1] [.row 3 (.int .i64) y.2 false])
  | _, _ => none⟩
theorem s_slices_Contains_int_int_row_det : SumDet s_slices_Contains_int_int_row := fun avs objs R κ => by
  show s_slices_Contains_int_int_row.run avs objs (two κ) = (s_slices_Contains_int_int_row.run avs objs (two some)).bind κ
  unfold s_slices_Contains_int_int_row
  simp only [veil_eq]
  split
  · split <;> rfl
  · rfl
theorem s_slices_Contains_int_int_row_ok : SumOk Try.prog 45 s_slices_Contains_int_int_row := by
  have hE : EnvOk Try.prog slices_Contains_int_int_row_E := env_ok (l := [(61, s_slices_Index_int_int)]) th_ok any_ok ⟨⟨s_slices_Index_int_int_ok, s_slices_Index_int_int_det⟩, trivial⟩ _
  refine sum_ok hE Try.func45 rfl (by kernel_rfl) s_slices_Contains_int_int_row [.raw] slices_Contains_int_int_row.k ?_
  intro R avs objs κ r h
  unfold s_slices_Contains_int_int_row at h
  simp only [veil_eq] at h
  split at h
  · rename_i v s
    split at h
    · cases h
    · rename_i y hy
      refine ⟨BIG, _, _, _, (slices_Contains_int_int_row.eq BIG s v).trans hy, ?_, h⟩
      intro rs ros hk
      unfold slices_Contains_int_int_row.k at hk
      split at hk
      · first | (cases hk; exact ⟨rfl, rfl⟩) | (have e := Option.some.inj hk; rw [← e]; exact ⟨rfl, rfl⟩)
      · cases hk
  · cases h
noncomputable def slices_Contains_int_int_dat_E : Env := ⟨th, gam [(61, s_slices_Index_int_int)], fun i => ⟨[], [], []⟩⟩
noncomputable def slices_Contains_int_int_dat.k (rs : List AV) (os : List Den.Obj) : Option Bool :=
  match rs, os with
  | [.d .bool r0], [] => some r0
  | _, _ => none
noncomputable def slices_Contains_int_int_dat.b (s : List Int) (v : Int) : Option Bool :=
  (match (veil (slices_Index_int_int_dat.f BIG s v)) with | none => none | some y0 => some ((decide (y0 ≥ (0 : Int)))))
noncomputable def slices_Contains_int_int_dat.f (fuel : Nat) (s : List Int) (v : Int) : Option Bool := slices_Contains_int_int_dat.b s v
theorem slices_Contains_int_int_dat.eq (fuel : Nat) (s : List Int) (v : Int) : (denF slices_Contains_int_int_dat_E loopN fuel Try.f45 [.raw] [.d (.sl (.int .i64)) s, .d (.int .i64) v] [] slices_Contains_int_int_dat.k) = slices_Contains_int_int_dat.f fuel s v := by
  kernel_rfl
noncomputable def s_slices_Contains_int_int_dat : Den.Sum := ⟨[.own 3 (.int .i64), .raw], fun args objs κ => match args, objs with
  | [.d (.sl (.int .i64)) s, .d (.int .i64) v], [] => (match veil (slices_Contains_int_int_dat.f BIG s v) with | none => none | some y => κ [.d .bool y] [])
  | _, _ => none⟩
theorem s_slices_Contains_int_int_dat_det : SumDet s_slices_Contains_int_int_dat := fun avs objs R κ => by
  show s_slices_Contains_int_int_dat.run avs objs (two κ) = (s_slices_Contains_int_int_dat.run avs objs (two some)).bind κ
  unfold s_slices_Contains_int_int_dat
  simp only [veil_eq]
  split
  · split <;> rfl
  · rfl
theorem s_slices_Contains_int_int_dat_ok : SumOk Try.prog 45 s_slices_Contains_int_int_dat := by
  have hE : EnvOk Try.prog slices_Contains_int_int_dat_E := env_ok (l := [(61, s_slices_Index_int_int)]) th_ok any_ok ⟨⟨s_slices_Index_int_int_ok, s_slices_Index_int_int_det⟩, trivial⟩ _
  refine sum_ok hE Try.func45 rfl (by kernel_rfl) s_slices_Contains_int_int_dat [.raw] slices_Contains_int_int_dat.k ?_
  intro R avs objs κ r h
  unfold s_slices_Contains_int_int_dat at h
  simp only [veil_eq] at h
  split at h
  · rename_i s v
    split at h
    · cases h
    · rename_i y hy
      refine ⟨BIG, _, _, _, (slices_Contains_int_int_dat.eq BIG s v).trans hy, ?_, h⟩
      intro rs ros hk
      unfold slices_Contains_int_int_dat.k at hk
      split at hk
      · first | (cases hk; exact ⟨rfl, rfl⟩) | (have e := Option.some.inj hk; rw [← e]; exact ⟨rfl, rfl⟩)
      · cases hk
  · cases h
noncomputable def s_slices_Contains_int_int : Den.Sum := ⟨[.own 3 (.int .i64), .raw], fun args objs κ => match args, objs with
  | [.row 0, .d (.int .i64) v], [.row 3 (.int .i64) s false] => s_slices_Contains_int_int_row.run [.row 0, .d (.int .i64) v] [.row 3 (.int .i64) s false] κ
  | [.d (.sl (.int .i64)) s, .d (.int .i64) v], [] => s_slices_Contains_int_int_dat.run [.d (.sl (.int .i64)) s, .d (.int .i64) v] [] κ
  | _, _ => none⟩
theorem s_slices_Contains_int_int_det : SumDet s_slices_Contains_int_int := fun avs objs R κ => by
  show s_slices_Contains_int_int.run avs objs (two κ) = (s_slices_Contains_int_int.run avs objs (two some)).bind κ
  unfold s_slices_Contains_int_int
  simp only
  split
  · exact s_slices_Contains_int_int_row_det _ _ R κ
  · exact s_slices_Contains_int_int_dat_det _ _ R κ
  · rfl
theorem s_slices_Contains_int_int_ok : SumOk Try.prog 45 s_slices_Contains_int_int := by
  refine ⟨s_slices_Contains_int_int_row_ok.1, ?_⟩
  intro R avs objs κ r h
  unfold s_slices_Contains_int_int at h
  simp only at h
  split at h
  · exact s_slices_Contains_int_int_row_ok.2 _ _ κ r h
  · exact s_slices_Contains_int_int_dat_ok.2 _ _ κ r h
  · cases h
noncomputable def slices_insertionSortCmpFunc_queue_Item_E : Env := ⟨th, gam [(50, s_queue_Queue_All_c1)], fun i => if i = 1 then ⟨[0, 1, 2, 3, 8], [], []⟩ else if i = 4 then ⟨[0, 1, 2, 3, 8, 9], [], []⟩ else ⟨[], [], []⟩⟩
noncomputable def slices_insertionSortCmpFunc_queue_Item.k (rs : List AV) (os : List Den.Obj) : Option (List (Int × Int)) :=
  match rs, os with
  | [], [.row 47 (.pair (.int .i64) (.int .i64)) r0 false] => some r0
  | _, _ => none
noncomputable def slices_insertionSortCmpFunc_queue_Item.s4 (l : List (Int × Int)) (a : Int) (b : Int) (x2 : Int) (x3 : Int) (x4 : (List (Int × Int))) : St := ⟨[.row 0, .d (.int .i64) (a), .d (.int .i64) (b), .fn (.func 50) [] [], .dead, .dead, .dead, .dead, .d (.int .i64) x2, .d (.int .i64) x3, .dead, .dead, .dead, .dead, .dead, .dead, .dead, .dead, .dead, .dead, .dead, .dead, .dead, .dead, .dead, .dead, .dead, .dead, .dead, .dead, .dead, .dead, .dead, .dead, .dead, .dead, .dead, .dead, .dead, .dead, .dead, .dead, .dead, .dead, .dead, .dead, .dead, .dead, .dead, .dead, .dead, .dead, .dead], ofL [(0, .row 47 (.pair (.int .i64) (.int .i64)) x4 false)], 1⟩
noncomputable def slices_insertionSortCmpFunc_queue_Item.b4 (l : List (Int × Int)) (a : Int) (b : Int) (A1 : Int → (List (Int × Int)) → Option (List (Int × Int))) (A4 : Int → Int → (List (Int × Int)) → Option (List (Int × Int))) (x2 : Int) (x3 : Int) (x4 : (List (Int × Int))) : Option (List (Int × Int)) :=
  (if (decide (x3 > a)) then (match (idx x4 x3) with | none => none | some y5 => (match (idx x4 x3) with | none => none | some y6 => (match (idx x4 (Go.IntKind.wrap .i64 (x3 - (1 : Int)))) with | none => none | some y7 => (match (idx x4 (Go.IntKind.wrap .i64 (x3 - (1 : Int)))) with | none => none | some y8 => (match (veil (queue_Queue_All_c1.f BIG y6.1 y6.2 y8.1 y8.2)) with | none => none | some y9 => (if (decide (y9 < (0 : Int))) then (match (idx x4 (Go.IntKind.wrap .i64 (x3 - (1 : Int)))) with | none => none | some y10 => (match (idx x4 (Go.IntKind.wrap .i64 (x3 - (1 : Int)))) with | none => none | some y11 => (match (idx x4 x3) with | none => none | some y12 => (match (idx x4 x3) with | none => none | some y13 => (match (idx x4 x3) with | none => none | some y14 => (match (idx x4 x3) with | none => none | some y15 => (match (idx (List.set x4 (Int.toNat x3) (y11.1, y11.2)) (Go.IntKind.wrap .i64 (x3 - (1 : Int)))) with | none => none | some y16 => (match (idx (List.set x4 (Int.toNat x3) (y11.1, y11.2)) (Go.IntKind.wrap .i64 (x3 - (1 : Int)))) with | none => none | some y17 => A4 x2 (Go.IntKind.wrap .i64 (x3 - (1 : Int))) (List.set (List.set x4 (Int.toNat x3) (y11.1, y11.2)) (Int.toNat (Go.IntKind.wrap .i64 (x3 - (1 : Int)))) (y13.1, y13.2)))))))))) else A1 (Go.IntKind.wrap .i64 (x2 + (1 : Int))) x4)))))) else A1 (Go.IntKind.wrap .i64 (x2 + (1 : Int))) x4)
noncomputable def slices_insertionSortCmpFunc_queue_Item.l4 (fuel : Nat) (l : List (Int × Int)) (a : Int) (b : Int) (A1 : Int → (List (Int × Int)) → Option (List (Int × Int))) : Nat → Int → Int → (List (Int × Int)) → Option (List (Int × Int))
  | 0, _, _, _ => none
  | k + 1, x2, x3, x4 => slices_insertionSortCmpFunc_queue_Item.b4 l a b A1 (slices_insertionSortCmpFunc_queue_Item.l4 fuel l a b A1 k) x2 x3 x4
noncomputable def slices_insertionSortCmpFunc_queue_Item.s1 (l : List (Int × Int)) (a : Int) (b : Int) (x0 : Int) (x1 : (List (Int × Int))) : St := ⟨[.row 0, .d (.int .i64) (a), .d (.int .i64) (b), .fn (.func 50) [] [], .dead, .dead, .dead, .dead, .d (.int .i64) x0, .dead, .dead, .dead, .dead, .dead, .dead, .dead, .dead, .dead, .dead, .dead, .dead, .dead, .dead, .dead, .dead, .dead, .dead, .dead, .dead, .dead, .dead, .dead, .dead, .dead, .dead, .dead, .dead, .dead, .dead, .dead, .dead, .dead, .dead, .dead, .dead, .dead, .dead, .dead, .dead, .dead, .dead, .dead, .dead], ofL [(0, .row 47 (.pair (.int .i64) (.int .i64)) x1 false)], 1⟩
noncomputable def slices_insertionSortCmpFunc_queue_Item.b1 (l : List (Int × Int)) (a : Int) (b : Int) (A1 : Int → (List (Int × Int)) → Option (List (Int × Int))) (E4 : Int → Int → (List (Int × Int)) → Option (List (Int × Int))) (x0 : Int) (x1 : (List (Int × Int))) : Option (List (Int × Int)) :=
  (if (decide (x0 < b)) then E4 x0 x0 x1 else some (x1))
noncomputable def slices_insertionSortCmpFunc_queue_Item.l1 (fuel : Nat) (l : List (Int × Int)) (a : Int) (b : Int) : Nat → Int → (List (Int × Int)) → Option (List (Int × Int))
  | 0, _, _ => none
  | k + 1, x0, x1 => slices_insertionSortCmpFunc_queue_Item.b1 l a b (slices_insertionSortCmpFunc_queue_Item.l1 fuel l a b k) (slices_insertionSortCmpFunc_queue_Item.l4 fuel l a b (slices_insertionSortCmpFunc_queue_Item.l1 fuel l a b k) fuel) x0 x1
noncomputable def slices_insertionSortCmpFunc_queue_Item.b (l : List (Int × Int)) (a : Int) (b : Int) (E1 : Int → (List (Int × Int)) → Option (List (Int × Int))) : Option (List (Int × Int)) :=
  E1 (Go.IntKind.wrap .i64 (a + (1 : Int))) l
noncomputable def slices_insertionSortCmpFunc_queue_Item.f (fuel : Nat) (l : List (Int × Int)) (a : Int) (b : Int) : Option (List (Int × Int)) := slices_insertionSortCmpFunc_queue_Item.b l a b (slices_insertionSortCmpFunc_queue_Item.l1 fuel l a b fuel)
theorem slices_insertionSortCmpFunc_queue_Item.l4_eq (fuel : Nat) (l : List (Int × Int)) (a : Int) (b : Int) (k1 : Nat) : ∀ (k : Nat) (x2 : Int) (x3 : Int) (x4 : (List (Int × Int))), lp slices_insertionSortCmpFunc_queue_Item_E fuel Try.f67 [] 1 slices_insertionSortCmpFunc_queue_Item.k 4 [k1] k (slices_insertionSortCmpFunc_queue_Item.s4 l a b x2 x3 x4) = slices_insertionSortCmpFunc_queue_Item.l4 fuel l a b (fun x0 x1 => lp slices_insertionSortCmpFunc_queue_Item_E fuel Try.f67 [] 1 slices_insertionSortCmpFunc_queue_Item.k 1 [] k1 (slices_insertionSortCmpFunc_queue_Item.s1 l a b x0 x1)) k x2 x3 x4 := by
  intro k
  induction k with
  | zero => intro x2 x3 x4; rfl
  | succ k ih =>
    intro x2 x3 x4
    have h : lp slices_insertionSortCmpFunc_queue_Item_E fuel Try.f67 [] 1 slices_insertionSortCmpFunc_queue_Item.k 4 [k1] (k + 1) (slices_insertionSortCmpFunc_queue_Item.s4 l a b x2 x3 x4) = slices_insertionSortCmpFunc_queue_Item.b4 l a b (fun x0 x1 => lp slices_insertionSortCmpFunc_queue_Item_E fuel Try.f67 [] 1 slices_insertionSortCmpFunc_queue_Item.k 1 [] k1 (slices_insertionSortCmpFunc_queue_Item.s1 l a b x0 x1)) (fun x2 x3 x4 => lp slices_insertionSortCmpFunc_queue_Item_E fuel Try.f67 [] 1 slices_insertionSortCmpFunc_queue_Item.k 4 [k1] k (slices_insertionSortCmpFunc_queue_Item.s4 l a b x2 x3 x4)) x2 x3 x4 := by kernel_rfl
    rw [h]
    have e4 : (fun x2 x3 x4 => lp slices_insertionSortCmpFunc_queue_Item_E fuel Try.f67 [] 1 slices_insertionSortCmpFunc_queue_Item.k 4 [k1] k (slices_insertionSortCmpFunc_queue_Item.s4 l a b x2 x3 x4)) = slices_insertionSortCmpFunc_queue_Item.l4 fuel l a b (fun x0 x1 => lp slices_insertionSortCmpFunc_queue_Item_E fuel Try.f67 [] 1 slices_insertionSortCmpFunc_queue_Item.k 1 [] k1 (slices_insertionSortCmpFunc_queue_Item.s1 l a b x0 x1)) k := (funext fun x2 => (funext fun x3 => (funext fun x4 => ih x2 x3 x4)))
    rw [e4]
    rfl
theorem slices_insertionSortCmpFunc_queue_Item.l1_eq (fuel : Nat) (l : List (Int × Int)) (a : Int) (b : Int) : ∀ (k : Nat) (x0 : Int) (x1 : (List (Int × Int))), lp slices_insertionSortCmpFunc_queue_Item_E fuel Try.f67 [] 1 slices_insertionSortCmpFunc_queue_Item.k 1 [] k (slices_insertionSortCmpFunc_queue_Item.s1 l a b x0 x1) = slices_insertionSortCmpFunc_queue_Item.l1 fuel l a b k x0 x1 := by
  intro k
  induction k with
  | zero => intro x0 x1; rfl
  | succ k ih =>
    intro x0 x1
    have h : lp slices_insertionSortCmpFunc_queue_Item_E fuel Try.f67 [] 1 slices_insertionSortCmpFunc_queue_Item.k 1 [] (k + 1) (slices_insertionSortCmpFunc_queue_Item.s1 l a b x0 x1) = slices_insertionSortCmpFunc_queue_Item.b1 l a b (fun x0 x1 => lp slices_insertionSortCmpFunc_queue_Item_E fuel Try.f67 [] 1 slices_insertionSortCmpFunc_queue_Item.k 1 [] k (slices_insertionSortCmpFunc_queue_Item.s1 l a b x0 x1)) (fun x2 x3 x4 => lp slices_insertionSortCmpFunc_queue_Item_E fuel Try.f67 [] 1 slices_insertionSortCmpFunc_queue_Item.k 4 [k] fuel (slices_insertionSortCmpFunc_queue_Item.s4 l a b x2 x3 x4)) x0 x1 := by kernel_rfl
    rw [h]
    have e1 : (fun x0 x1 => lp slices_insertionSortCmpFunc_queue_Item_E fuel Try.f67 [] 1 slices_insertionSortCmpFunc_queue_Item.k 1 [] k (slices_insertionSortCmpFunc_queue_Item.s1 l a b x0 x1)) = slices_insertionSortCmpFunc_queue_Item.l1 fuel l a b k := (funext fun x0 => (funext fun x1 => ih x0 x1))
    rw [e1]
    have e4 : (fun x2 x3 x4 => lp slices_insertionSortCmpFunc_queue_Item_E fuel Try.f67 [] 1 slices_insertionSortCmpFunc_queue_Item.k 4 [k] fuel (slices_insertionSortCmpFunc_queue_Item.s4 l a b x2 x3 x4)) = slices_insertionSortCmpFunc_queue_Item.l4 fuel l a b (fun x0 x1 => lp slices_insertionSortCmpFunc_queue_Item_E fuel Try.f67 [] 1 slices_insertionSortCmpFunc_queue_Item.k 1 [] k (slices_insertionSortCmpFunc_queue_Item.s1 l a b x0 x1)) fuel := (funext fun x2 => (funext fun x3 => (funext fun x4 => slices_insertionSortCmpFunc_queue_Item.l4_eq fuel l a b k fuel x2 x3 x4)))
    rw [e4]
    rw [e1]
    rfl
theorem slices_insertionSortCmpFunc_queue_Item.eq (fuel : Nat) (l : List (Int × Int)) (a : Int) (b : Int) : (denF slices_insertionSortCmpFunc_queue_Item_E loopN fuel Try.f67 [] [.row 0, .d (.int .i64) a, .d (.int .i64) b, .fn (.func 50) [] []] [.row 47 (.pair (.int .i64) (.int .i64)) l false] slices_insertionSortCmpFunc_queue_Item.k) = slices_insertionSortCmpFunc_queue_Item.f fuel l a b := by
  have h : (denF slices_insertionSortCmpFunc_queue_Item_E loopN fuel Try.f67 [] [.row 0, .d (.int .i64) a, .d (.int .i64) b, .fn (.func 50) [] []] [.row 47 (.pair (.int .i64) (.int .i64)) l false] slices_insertionSortCmpFunc_queue_Item.k) = slices_insertionSortCmpFunc_queue_Item.b l a b (fun x0 x1 => lp slices_insertionSortCmpFunc_queue_Item_E fuel Try.f67 [] 1 slices_insertionSortCmpFunc_queue_Item.k 1 [] fuel (slices_insertionSortCmpFunc_queue_Item.s1 l a b x0 x1)) := by kernel_rfl
  rw [h]
  have e1 : (fun x0 x1 => lp slices_insertionSortCmpFunc_queue_Item_E fuel Try.f67 [] 1 slices_insertionSortCmpFunc_queue_Item.k 1 [] fuel (slices_insertionSortCmpFunc_queue_Item.s1 l a b x0 x1)) = slices_insertionSortCmpFunc_queue_Item.l1 fuel l a b fuel := (funext fun x0 => (funext fun x1 => slices_insertionSortCmpFunc_queue_Item.l1_eq fuel l a b fuel x0 x1))
  rw [e1]
  rfl
theorem slices_insertionSortCmpFunc_queue_Item.l4_at (fuel nN kK : Nat) (hN : nN = kK + 1) (l : List (Int × Int)) (a : Int) (b : Int) (A1 : Int → (List (Int × Int)) → Option (List (Int × Int))) (x2 : Int) (x3 : Int) (x4 : (List (Int × Int))) : slices_insertionSortCmpFunc_queue_Item.l4 fuel l a b A1 nN x2 x3 x4 = slices_insertionSortCmpFunc_queue_Item.b4 l a b A1 (slices_insertionSortCmpFunc_queue_Item.l4 fuel l a b A1 kK) x2 x3 x4 := by
  subst hN
  rfl
theorem slices_insertionSortCmpFunc_queue_Item.l1_at (fuel nN kK : Nat) (hN : nN = kK + 1) (l : List (Int × Int)) (a : Int) (b : Int) (x0 : Int) (x1 : (List (Int × Int))) : slices_insertionSortCmpFunc_queue_Item.l1 fuel l a b nN x0 x1 = slices_insertionSortCmpFunc_queue_Item.b1 l a b (slices_insertionSortCmpFunc_queue_Item.l1 fuel l a b kK) (slices_insertionSortCmpFunc_queue_Item.l4 fuel l a b (slices_insertionSortCmpFunc_queue_Item.l1 fuel l a b kK) fuel) x0 x1 := by
  subst hN
  rfl
noncomputable def s_slices_insertionSortCmpFunc_queue_Item : Den.Sum := ⟨[.own 47 (.pair (.int .i64) (.int .i64)), .raw, .raw, .raw], fun args objs κ => match args, objs with
  | [.row 0, .d (.int .i64) a, .d (.int .i64) b, .fn (.func 50) [] []], [.row 47 (.pair (.int .i64) (.int .i64)) l false] => (match veil (slices_insertionSortCmpFunc_queue_Item.f BIG l a b) with | none => none | some y => κ [] [.row 47 (.pair (.int .i64) (.int .i64)) y false])
  | _, _ => none⟩
theorem s_slices_insertionSortCmpFunc_queue_Item_det : SumDet s_slices_insertionSortCmpFunc_queue_Item := fun avs objs R κ => by
  show s_slices_insertionSortCmpFunc_queue_Item.run avs objs (two κ) = (s_slices_insertionSortCmpFunc_queue_Item.run avs objs (two some)).bind κ
  unfold s_slices_insertionSortCmpFunc_queue_Item
  simp only [veil_eq]
  split
  · split <;> rfl
  · rfl
theorem s_slices_insertionSortCmpFunc_queue_Item_ok : SumOk Try.prog 67 s_slices_insertionSortCmpFunc_queue_Item := by
  have hE : EnvOk Try.prog slices_insertionSortCmpFunc_queue_Item_E := env_ok (l := [(50, s_queue_Queue_All_c1)]) th_ok any_ok ⟨⟨s_queue_Queue_All_c1_ok, s_queue_Queue_All_c1_det⟩, trivial⟩ _
  refine sum_ok hE Try.func67 rfl (by kernel_rfl) s_slices_insertionSortCmpFunc_queue_Item [] slices_insertionSortCmpFunc_queue_Item.k ?_
  intro R avs objs κ r h
  unfold s_slices_insertionSortCmpFunc_queue_Item at h
  simp only [veil_eq] at h
  split at h
  · rename_i a b l
    split at h
    · cases h
    · rename_i y hy
      refine ⟨BIG, _, _, _, (slices_insertionSortCmpFunc_queue_Item.eq BIG l a b).trans hy, ?_, h⟩
      intro rs ros hk
      unfold slices_insertionSortCmpFunc_queue_Item.k at hk
      split at hk
      · first | (cases hk; exact ⟨rfl, rfl⟩) | (have e := Option.some.inj hk; rw [← e]; exact ⟨rfl, rfl⟩)
      · cases hk
  · cases h
noncomputable def slices_rotateCmpFunc_queue_Item_E : Env := ⟨th, gam [(74, s_slices_swapRangeCmpFunc_queue_Item)], fun i => if i = 2 then ⟨[0, 2, 4, 10, 11], [], []⟩ else ⟨[], [], []⟩⟩
noncomputable def slices_rotateCmpFunc_queue_Item.k (rs : List AV) (os : List Den.Obj) : Option (List (Int × Int)) :=
  match rs, os with
  | [], [.row 47 (.pair (.int .i64) (.int .i64)) r0 false] => some r0
  | _, _ => none
noncomputable def slices_rotateCmpFunc_queue_Item.s2 (l : List (Int × Int)) (a : Int) (m : Int) (b : Int) (x0 : Int) (x1 : Int) (x2 : (List (Int × Int))) : St := ⟨[.row 0, .dead, .d (.int .i64) (m), .dead, .fn (.func 50) [] [], .dead, .dead, .dead, .dead, .dead, .d (.int .i64) x0, .d (.int .i64) x1, .dead, .dead, .dead, .dead, .dead, .dead, .dead, .dead, .dead, .dead, .dead, .dead, .dead, .dead, .dead, .dead, .dead, .dead, .dead, .dead, .dead, .dead, .dead, .dead, .dead, .dead, .dead, .dead, .dead, .dead, .dead, .dead, .dead, .dead, .dead, .dead, .dead, .dead, .dead, .dead, .dead, .dead, .dead, .dead, .dead, .dead], ofL [(0, .row 47 (.pair (.int .i64) (.int .i64)) x2 false)], 1⟩
noncomputable def slices_rotateCmpFunc_queue_Item.b2 (l : List (Int × Int)) (a : Int) (m : Int) (b : Int) (A2 : Int → Int → (List (Int × Int)) → Option (List (Int × Int))) (x0 : Int) (x1 : Int) (x2 : (List (Int × Int))) : Option (List (Int × Int)) :=
  (if (x0 != x1) then (if (decide (x0 > x1)) then (match (veil (slices_swapRangeCmpFunc_queue_Item.f BIG x2 (Go.IntKind.wrap .i64 (m - x0)) m x1)) with | none => none | some y3 => A2 (Go.IntKind.wrap .i64 (x0 - x1)) x1 y3) else (match (veil (slices_swapRangeCmpFunc_queue_Item.f BIG x2 (Go.IntKind.wrap .i64 (m - x0)) (Go.IntKind.wrap .i64 ((Go.IntKind.wrap .i64 (m + x1)) - x0)) x0)) with | none => none | some y4 => A2 x0 (Go.IntKind.wrap .i64 (x1 - x0)) y4)) else (match (veil (slices_swapRangeCmpFunc_queue_Item.f BIG x2 (Go.IntKind.wrap .i64 (m - x0)) m x0)) with | none => none | some y5 => some (y5)))
noncomputable def slices_rotateCmpFunc_queue_Item.l2 (fuel : Nat) (l : List (Int × Int)) (a : Int) (m : Int) (b : Int) : Nat → Int → Int → (List (Int × Int)) → Option (List (Int × Int))
  | 0, _, _, _ => none
  | k + 1, x0, x1, x2 => slices_rotateCmpFunc_queue_Item.b2 l a m b (slices_rotateCmpFunc_queue_Item.l2 fuel l a m b k) x0 x1 x2
noncomputable def slices_rotateCmpFunc_queue_Item.b (l : List (Int × Int)) (a : Int) (m : Int) (b : Int) (E2 : Int → Int → (List (Int × Int)) → Option (List (Int × Int))) : Option (List (Int × Int)) :=
  E2 (Go.IntKind.wrap .i64 (m - a)) (Go.IntKind.wrap .i64 (b - m)) l
noncomputable def slices_rotateCmpFunc_queue_Item.f (fuel : Nat) (l : List (Int × Int)) (a : Int) (m : Int) (b : Int) : Option (List (Int × Int)) := slices_rotateCmpFunc_queue_Item.b l a m b (slices_rotateCmpFunc_queue_Item.l2 fuel l a m b fuel)
theorem slices_rotateCmpFunc_queue_Item.l2_eq (fuel : Nat) (l : List (Int × Int)) (a : Int) (m : Int) (b : Int) : ∀ (k : Nat) (x0 : Int) (x1 : Int) (x2 : (List (Int × Int))), lp slices_rotateCmpFunc_queue_Item_E fuel Try.f71 [] 1 slices_rotateCmpFunc_queue_Item.k 2 [] k (slices_rotateCmpFunc_queue_Item.s2 l a m b x0 x1 x2) = slices_rotateCmpFunc_queue_Item.l2 fuel l a m b k x0 x1 x2 := by
  intro k
  induction k with
  | zero => intro x0 x1 x2; rfl
  | succ k ih =>
    intro x0 x1 x2
    have h : lp slices_rotateCmpFunc_queue_Item_E fuel Try.f71 [] 1 slices_rotateCmpFunc_queue_Item.k 2 [] (k + 1) (slices_rotateCmpFunc_queue_Item.s2 l a m b x0 x1 x2) = slices_rotateCmpFunc_queue_Item.b2 l a m b (fun x0 x1 x2 => lp slices_rotateCmpFunc_queue_Item_E fuel Try.f71 [] 1 slices_rotateCmpFunc_queue_Item.k 2 [] k (slices_rotateCmpFunc_queue_Item.s2 l a m b x0 x1 x2)) x0 x1 x2 := by kernel_rfl
    rw [h]
    have e2 : (fun x0 x1 x2 => lp slices_rotateCmpFunc_queue_Item_E fuel Try.f71 [] 1 slices_rotateCmpFunc_queue_Item.k 2 [] k (slices_rotateCmpFunc_queue_Item.s2 l a m b x0 x1 x2)) = slices_rotateCmpFunc_queue_Item.l2 fuel l a m b k := (funext fun x0 => (funext fun x1 => (funext fun x2 => ih x0 x1 x2)))
    rw [e2]
    rfl
theorem slices_rotateCmpFunc_queue_Item.eq (fuel : Nat) (l : List (Int × Int)) (a : Int) (m : Int) (b : Int) : (denF slices_rotateCmpFunc_queue_Item_E loopN fuel Try.f71 [] [.row 0, .d (.int .i64) a, .d (.int .i64) m, .d (.int .i64) b, .fn (.func 50) [] []] [.row 47 (.pair (.int .i64) (.int .i64)) l false] slices_rotateCmpFunc_queue_Item.k) = slices_rotateCmpFunc_queue_Item.f fuel l a m b := by
  have h : (denF slices_rotateCmpFunc_queue_Item_E loopN fuel Try.f71 [] [.row 0, .d (.int .i64) a, .d (.int .i64) m, .d (.int .i64) b, .fn (.func 50) [] []] [.row 47 (.pair (.int .i64) (.int .i64)) l false] slices_rotateCmpFunc_queue_Item.k) = slices_rotateCmpFunc_queue_Item.b l a m b (fun x0 x1 x2 => lp slices_rotateCmpFunc_queue_Item_E fuel Try.f71 [] 1 slices_rotateCmpFunc_queue_Item.k 2 [] fuel (slices_rotateCmpFunc_queue_Item.s2 l a m b x0 x1 x2)) := by kernel_rfl
  rw [h]
  have e2 : (fun x0 x1 x2 => lp slices_rotateCmpFunc_queue_Item_E fuel Try.f71 [] 1 slices_rotateCmpFunc_queue_Item.k 2 [] fuel (slices_rotateCmpFunc_queue_Item.s2 l a m b x0 x1 x2)) = slices_rotateCmpFunc_queue_Item.l2 fuel l a m b fuel := (funext fun x0 => (funext fun x1 => (funext fun x2 => slices_rotateCmpFunc_queue_Item.l2_eq fuel l a m b fuel x0 x1 x2)))
  rw [e2]
  rfl
theorem slices_rotateCmpFunc_queue_Item.l2_at (fuel nN kK : Nat) (hN : nN = kK + 1) (l : List (Int × Int)) (a : Int) (m : Int) (b : Int) (x0 : Int) (x1 : Int) (x2 : (List (Int × Int))) : slices_rotateCmpFunc_queue_Item.l2 fuel l a m b nN x0 x1 x2 = slices_rotateCmpFunc_queue_Item.b2 l a m b (slices_rotateCmpFunc_queue_Item.l2 fuel l a m b kK) x0 x1 x2 := by
  subst hN
  rfl
noncomputable def s_slices_rotateCmpFunc_queue_Item : Den.Sum := ⟨[.own 47 (.pair (.int .i64) (.int .i64)), .raw, .raw, .raw, .raw], fun args objs κ => match args, objs with
  | [.row 0, .d (.int .i64) a, .d (.int .i64) m, .d (.int .i64) b, .fn (.func 50) [] []], [.row 47 (.pair (.int .i64) (.int .i64)) l false] => (match veil (slices_rotateCmpFunc_queue_Item.f BIG l a m b) with | none => none | some y => κ [] [.row 47 (.pair (.int .i64) (.int .i64)) y false])
  | _, _ => none⟩
theorem s_slices_rotateCmpFunc_queue_Item_det : SumDet s_slices_rotateCmpFunc_queue_Item := fun avs objs R κ => by
  show s_slices_rotateCmpFunc_queue_Item.run avs objs (two κ) = (s_slices_rotateCmpFunc_queue_Item.run avs objs (two some)).bind κ
  unfold s_slices_rotateCmpFunc_queue_Item
  simp only [veil_eq]
  split
  · split <;> rfl
  · rfl
theorem s_slices_rotateCmpFunc_queue_Item_ok : SumOk Try.prog 71 s_slices_rotateCmpFunc_queue_Item := by
  have hE : EnvOk Try.prog slices_rotateCmpFunc_queue_Item_E := env_ok (l := [(74, s_slices_swapRangeCmpFunc_queue_Item)]) th_ok any_ok ⟨⟨s_slices_swapRangeCmpFunc_queue_Item_ok, s_slices_swapRangeCmpFunc_queue_Item_det⟩, trivial⟩ _
  refine sum_ok hE Try.func71 rfl (by kernel_rfl) s_slices_rotateCmpFunc_queue_Item [] slices_rotateCmpFunc_queue_Item.k ?_
  intro R avs objs κ r h
  unfold s_slices_rotateCmpFunc_queue_Item at h
  simp only [veil_eq] at h
  split at h
  · rename_i a m b l
    split at h
    · cases h
    · rename_i y hy
      refine ⟨BIG, _, _, _, (slices_rotateCmpFunc_queue_Item.eq BIG l a m b).trans hy, ?_, h⟩
      intro rs ros hk
      unfold slices_rotateCmpFunc_queue_Item.k at hk
      split at hk
      · first | (cases hk; exact ⟨rfl, rfl⟩) | (have e := Option.some.inj hk; rw [← e]; exact ⟨rfl, rfl⟩)
      · cases hk
  · cases h
noncomputable def law22_bestR_E : Env := ⟨th, gam [], fun i => if i = 3 then ⟨[0, 1, 2, 7, 8], [], []⟩ else if i = 4 then ⟨[0, 1, 2, 7, 8], [], [777777]⟩ else if i = 6 then ⟨[0, 1, 2, 7, 8], [], [777777]⟩ else ⟨[], [], []⟩⟩
noncomputable def law22_bestR.k (rs : List AV) (os : List Den.Obj) : Option (Int × (List Bool)) :=
  match rs, os with
  | [.d (.int .i64) r0], [.row 4 .bool r1 false] => some (r0, r1)
  | _, _ => none
noncomputable def law22_bestR.s4 (l : List (Int × Int)) (picked : List Bool) (but : Int) (x4 : Int) (x5 : Int) : St := ⟨[.d (.sl (.pair (.int .i64) (.int .i64))) (l), .row 0, .d (.int .i64) (but), .dead, .dead, .dead, .dead, .d (.int .i64) x4, .d (.int .i64) x5, .dead, .dead, .dead, .dead, .dead, .dead, .dead, .dead, .dead, .dead, .dead, .dead, .dead, .dead, .dead, .dead, .dead, .dead, .dead, .dead, .dead, .dead, .dead, .dead, .dead, .dead, .dead, .dead, .dead, .dead, .dead, .dead, .dead, .dead, .dead, .dead, .dead], ofL [(0, .row 4 .bool (picked) false)], 1⟩
noncomputable def law22_bestR.b4 (l : List (Int × Int)) (picked : List Bool) (but : Int) (A3 : Int → Int → Option (Int × (List Bool))) (A4 : Int → Int → Option (Int × (List Bool))) (x4 : Int) (x5 : Int) : Option (Int × (List Bool)) :=
  A3 x4 (Go.IntKind.wrap .i64 (x5 - (1 : Int)))
noncomputable def law22_bestR.l4 (fuel : Nat) (l : List (Int × Int)) (picked : List Bool) (but : Int) (A3 : Int → Int → Option (Int × (List Bool))) : Nat → Int → Int → Option (Int × (List Bool))
  | 0, _, _ => none
  | k + 1, x4, x5 => law22_bestR.b4 l picked but A3 (law22_bestR.l4 fuel l picked but A3 k) x4 x5
noncomputable def law22_bestR.s6 (l : List (Int × Int)) (picked : List Bool) (but : Int) (x7 : Int) (x8 : Int) : St := ⟨[.d (.sl (.pair (.int .i64) (.int .i64))) (l), .row 0, .d (.int .i64) (but), .dead, .dead, .dead, .dead, .d (.int .i64) x7, .d (.int .i64) x8, .dead, .dead, .dead, .dead, .dead, .dead, .dead, .dead, .dead, .dead, .dead, .dead, .dead, .dead, .dead, .dead, .dead, .dead, .dead, .dead, .dead, .dead, .dead, .dead, .dead, .dead, .dead, .dead, .dead, .dead, .dead, .dead, .dead, .dead, .dead, .dead, .dead], ofL [(0, .row 4 .bool (picked) false)], 1⟩
noncomputable def law22_bestR.b6 (l : List (Int × Int)) (picked : List Bool) (but : Int) (A3 : Int → Int → Option (Int × (List Bool))) (A6 : Int → Int → Option (Int × (List Bool))) (E4 : Int → Int → Option (Int × (List Bool))) (x7 : Int) (x8 : Int) : Option (Int × (List Bool)) :=
  (if (decide (x7 < (0 : Int))) then E4 x8 x8 else (match (idx l x8) with | none => none | some y9 => (match (idx l x7) with | none => none | some y10 => (if (decide (y9.2 < y10.2)) then E4 x8 x8 else E4 x7 x8))))
noncomputable def law22_bestR.l6 (fuel : Nat) (l : List (Int × Int)) (picked : List Bool) (but : Int) (A3 : Int → Int → Option (Int × (List Bool))) : Nat → Int → Int → Option (Int × (List Bool))
  | 0, _, _ => none
  | k + 1, x7, x8 => law22_bestR.b6 l picked but A3 (law22_bestR.l6 fuel l picked but A3 k) (law22_bestR.l4 fuel l picked but A3 fuel) x7 x8
noncomputable def law22_bestR.s3 (l : List (Int × Int)) (picked : List Bool) (but : Int) (x0 : Int) (x1 : Int) : St := ⟨[.d (.sl (.pair (.int .i64) (.int .i64))) (l), .row 0, .d (.int .i64) (but), .dead, .dead, .dead, .dead, .d (.int .i64) x0, .d (.int .i64) x1, .dead, .dead, .dead, .dead, .dead, .dead, .dead, .dead, .dead, .dead, .dead, .dead, .dead, .dead, .dead, .dead, .dead, .dead, .dead, .dead, .dead, .dead, .dead, .dead, .dead, .dead, .dead, .dead, .dead, .dead, .dead, .dead, .dead, .dead, .dead, .dead, .dead], ofL [(0, .row 4 .bool (picked) false)], 1⟩
noncomputable def law22_bestR.b3 (l : List (Int × Int)) (picked : List Bool) (but : Int) (A3 : Int → Int → Option (Int × (List Bool))) (E4 : Int → Int → Option (Int × (List Bool))) (E6 : Int → Int → Option (Int × (List Bool))) (x0 : Int) (x1 : Int) : Option (Int × (List Bool)) :=
  (if (decide (x1 ≥ (0 : Int))) then (match (idx picked x1) with | none => none | some y2 => (match (idx picked x1) with | none => none | some y3 => (if y3 then E4 x0 x1 else (match (idx l x1) with | none => none | some y6 => (if (y6.1 == but) then E4 x0 x1 else E6 x0 x1))))) else some (x0, picked))
noncomputable def law22_bestR.l3 (fuel : Nat) (l : List (Int × Int)) (picked : List Bool) (but : Int) : Nat → Int → Int → Option (Int × (List Bool))
  | 0, _, _ => none
  | k + 1, x0, x1 => law22_bestR.b3 l picked but (law22_bestR.l3 fuel l picked but k) (law22_bestR.l4 fuel l picked but (law22_bestR.l3 fuel l picked but k) fuel) (law22_bestR.l6 fuel l picked but (law22_bestR.l3 fuel l picked but k) fuel) x0 x1
noncomputable def law22_bestR.b (l : List (Int × Int)) (picked : List Bool) (but : Int) (E3 : Int → Int → Option (Int × (List Bool))) : Option (Int × (List Bool)) :=
  E3 (-(1 : Int)) (Go.IntKind.wrap .i64 (((((List.length l)) : Nat) : Int) - (1 : Int)))
noncomputable def law22_bestR.f (fuel : Nat) (l : List (Int × Int)) (picked : List Bool) (but : Int) : Option (Int × (List Bool)) := law22_bestR.b l picked but (law22_bestR.l3 fuel l picked but fuel)
theorem law22_bestR.l4_eq (fuel : Nat) (l : List (Int × Int)) (picked : List Bool) (but : Int) (k3 : Nat) : ∀ (k : Nat) (x4 : Int) (x5 : Int), lp law22_bestR_E fuel Try.f44 [.raw] 1 law22_bestR.k 4 [k3] k (law22_bestR.s4 l picked but x4 x5) = law22_bestR.l4 fuel l picked but (fun x0 x1 => lp law22_bestR_E fuel Try.f44 [.raw] 1 law22_bestR.k 3 [] k3 (law22_bestR.s3 l picked but x0 x1)) k x4 x5 := by
  intro k
  induction k with
  | zero => intro x4 x5; rfl
  | succ k ih =>
    intro x4 x5
    have h : lp law22_bestR_E fuel Try.f44 [.raw] 1 law22_bestR.k 4 [k3] (k + 1) (law22_bestR.s4 l picked but x4 x5) = law22_bestR.b4 l picked but (fun x0 x1 => lp law22_bestR_E fuel Try.f44 [.raw] 1 law22_bestR.k 3 [] k3 (law22_bestR.s3 l picked but x0 x1)) (fun x4 x5 => lp law22_bestR_E fuel Try.f44 [.raw] 1 law22_bestR.k 4 [k3] k (law22_bestR.s4 l picked but x4 x5)) x4 x5 := by kernel_rfl
    rw [h]
    have e4 : (fun x4 x5 => lp law22_bestR_E fuel Try.f44 [.raw] 1 law22_bestR.k 4 [k3] k (law22_bestR.s4 l picked but x4 x5)) = law22_bestR.l4 fuel l picked but (fun x0 x1 => lp law22_bestR_E fuel Try.f44 [.raw] 1 law22_bestR.k 3 [] k3 (law22_bestR.s3 l picked but x0 x1)) k := (funext fun x4 => (funext fun x5 => ih x4 x5))
    rw [e4]
    rfl
theorem law22_bestR.l6_eq (fuel : Nat) (l : List (Int × Int)) (picked : List Bool) (but : Int) (k3 : Nat) : ∀ (k : Nat) (x7 : Int) (x8 : Int), lp law22_bestR_E fuel Try.f44 [.raw] 1 law22_bestR.k 6 [k3] k (law22_bestR.s6 l picked but x7 x8) = law22_bestR.l6 fuel l picked but (fun x0 x1 => lp law22_bestR_E fuel Try.f44 [.raw] 1 law22_bestR.k 3 [] k3 (law22_bestR.s3 l picked but x0 x1)) k x7 x8 := by
  intro k
  induction k with
  | zero => intro x7 x8; rfl
  | succ k ih =>
    intro x7 x8
    have h : lp law22_bestR_E fuel Try.f44 [.raw] 1 law22_bestR.k 6 [k3] (k + 1) (law22_bestR.s6 l picked but x7 x8) = law22_bestR.b6 l picked but (fun x0 x1 => lp law22_bestR_E fuel Try.f44 [.raw] 1 law22_bestR.k 3 [] k3 (law22_bestR.s3 l picked but x0 x1)) (fun x7 x8 => lp law22_bestR_E fuel Try.f44 [.raw] 1 law22_bestR.k 6 [k3] k (law22_bestR.s6 l picked but x7 x8)) (fun x4 x5 => lp law22_bestR_E fuel Try.f44 [.raw] 1 law22_bestR.k 4 [k3] fuel (law22_bestR.s4 l picked but x4 x5)) x7 x8 := by kernel_rfl
    rw [h]
    have e6 : (fun x7 x8 => lp law22_bestR_E fuel Try.f44 [.raw] 1 law22_bestR.k 6 [k3] k (law22_bestR.s6 l picked but x7 x8)) = law22_bestR.l6 fuel l picked but (fun x0 x1 => lp law22_bestR_E fuel Try.f44 [.raw] 1 law22_bestR.k 3 [] k3 (law22_bestR.s3 l picked but x0 x1)) k := (funext fun x7 => (funext fun x8 => ih x7 x8))
    rw [e6]
    have e4 : (fun x4 x5 => lp law22_bestR_E fuel Try.f44 [.raw] 1 law22_bestR.k 4 [k3] fuel (law22_bestR.s4 l picked but x4 x5)) = law22_bestR.l4 fuel l picked but (fun x0 x1 => lp law22_bestR_E fuel Try.f44 [.raw] 1 law22_bestR.k 3 [] k3 (law22_bestR.s3 l picked but x0 x1)) fuel := (funext fun x4 => (funext fun x5 => law22_bestR.l4_eq fuel l picked but k3 fuel x4 x5))
    rw [e4]
    rfl
theorem law22_bestR.l3_eq (fuel : Nat) (l : List (Int × Int)) (picked : List Bool) (but : Int) : ∀ (k : Nat) (x0 : Int) (x1 : Int), lp law22_bestR_E fuel Try.f44 [.raw] 1 law22_bestR.k 3 [] k (law22_bestR.s3 l picked but x0 x1) = law22_bestR.l3 fuel l picked but k x0 x1 := by
  intro k
  induction k with
  | zero => intro x0 x1; rfl
  | succ k ih =>
    intro x0 x1
    have h : lp law22_bestR_E fuel Try.f44 [.raw] 1 law22_bestR.k 3 [] (k + 1) (law22_bestR.s3 l picked but x0 x1) = law22_bestR.b3 l picked but (fun x0 x1 => lp law22_bestR_E fuel Try.f44 [.raw] 1 law22_bestR.k 3 [] k (law22_bestR.s3 l picked but x0 x1)) (fun x4 x5 => lp law22_bestR_E fuel Try.f44 [.raw] 1 law22_bestR.k 4 [k] fuel (law22_bestR.s4 l picked but x4 x5)) (fun x7 x8 => lp law22_bestR_E fuel Try.f44 [.raw] 1 law22_bestR.k 6 [k] fuel (law22_bestR.s6 l picked but x7 x8)) x0 x1 := by kernel_rfl
    rw [h]
    have e3 : (fun x0 x1 => lp law22_bestR_E fuel Try.f44 [.raw] 1 law22_bestR.k 3 [] k (law22_bestR.s3 l picked but x0 x1)) = law22_bestR.l3 fuel l picked but k := (funext fun x0 => (funext fun x1 => ih x0 x1))
    rw [e3]
    have e4 : (fun x4 x5 => lp law22_bestR_E fuel Try.f44 [.raw] 1 law22_bestR.k 4 [k] fuel (law22_bestR.s4 l picked but x4 x5)) = law22_bestR.l4 fuel l picked but (fun x0 x1 => lp law22_bestR_E fuel Try.f44 [.raw] 1 law22_bestR.k 3 [] k (law22_bestR.s3 l picked but x0 x1)) fuel := (funext fun x4 => (funext fun x5 => law22_bestR.l4_eq fuel l picked but k fuel x4 x5))
    rw [e4]
    rw [e3]
    have e6 : (fun x7 x8 => lp law22_bestR_E fuel Try.f44 [.raw] 1 law22_bestR.k 6 [k] fuel (law22_bestR.s6 l picked but x7 x8)) = law22_bestR.l6 fuel l picked but (fun x0 x1 => lp law22_bestR_E fuel Try.f44 [.raw] 1 law22_bestR.k 3 [] k (law22_bestR.s3 l picked but x0 x1)) fuel := (funext fun x7 => (funext fun x8 => law22_bestR.l6_eq fuel l picked but k fuel x7 x8))
    rw [e6]
    rw [e3]
    rfl
theorem law22_bestR.eq (fuel : Nat) (l : List (Int × Int)) (picked : List Bool) (but : Int) : (denF law22_bestR_E loopN fuel Try.f44 [.raw] [.d (.sl (.pair (.int .i64) (.int .i64))) l, .row 0, .d (.int .i64) but] [.row 4 .bool picked false] law22_bestR.k) = law22_bestR.f fuel l picked but := by
  have h : (denF law22_bestR_E loopN fuel Try.f44 [.raw] [.d (.sl (.pair (.int .i64) (.int .i64))) l, .row 0, .d (.int .i64) but] [.row 4 .bool picked false] law22_bestR.k) = law22_bestR.b l picked but (fun x0 x1 => lp law22_bestR_E fuel Try.f44 [.raw] 1 law22_bestR.k 3 [] fuel (law22_bestR.s3 l picked but x0 x1)) := by kernel_rfl
  rw [h]
  have e3 : (fun x0 x1 => lp law22_bestR_E fuel Try.f44 [.raw] 1 law22_bestR.k 3 [] fuel (law22_bestR.s3 l picked but x0 x1)) = law22_bestR.l3 fuel l picked but fuel := (funext fun x0 => (funext fun x1 => law22_bestR.l3_eq fuel l picked but fuel x0 x1))
  rw [e3]
  rfl
theorem law22_bestR.l4_at (fuel nN kK : Nat) (hN : nN = kK + 1) (l : List (Int × Int)) (picked : List Bool) (but : Int) (A3 : Int → Int → Option (Int × (List Bool))) (x4 : Int) (x5 : Int) : law22_bestR.l4 fuel l picked but A3 nN x4 x5 = law22_bestR.b4 l picked but A3 (law22_bestR.l4 fuel l picked but A3 kK) x4 x5 := by
  subst hN
  rfl
theorem law22_bestR.l6_at (fuel nN kK : Nat) (hN : nN = kK + 1) (l : List (Int × Int)) (picked : List Bool) (but : Int) (A3 : Int → Int → Option (Int × (List Bool))) (x7 : Int) (x8 : Int) : law22_bestR.l6 fuel l picked but A3 nN x7 x8 = law22_bestR.b6 l picked but A3 (law22_bestR.l6 fuel l picked but A3 kK) (law22_bestR.l4 fuel l picked but A3 fuel) x7 x8 := by
  subst hN
  rfl
theorem law22_bestR.l3_at (fuel nN kK : Nat) (hN : nN = kK + 1) (l : List (Int × Int)) (picked : List Bool) (but : Int) (x0 : Int) (x1 : Int) : law22_bestR.l3 fuel l picked but nN x0 x1 = law22_bestR.b3 l picked but (law22_bestR.l3 fuel l picked but kK) (law22_bestR.l4 fuel l picked but (law22_bestR.l3 fuel l picked but kK) fuel) (law22_bestR.l6 fuel l picked but (law22_bestR.l3 fuel l picked but kK) fuel) x0 x1 := by
  subst hN
  rfl
noncomputable def s_law22_bestR : Den.Sum := ⟨[.dat (.sl (.pair (.int .i64) (.int .i64))) false, .own 4 .bool, .raw], fun args objs κ => match args, objs with
  | [.d (.sl (.pair (.int .i64) (.int .i64))) l, .row 0, .d (.int .i64) but], [.row 4 .bool picked false] => (match veil (law22_bestR.f BIG l picked but) with | none => none | some y => κ [.d (.int .i64) y.1] [.row 4 .bool y.2 false])
  | _, _ => none⟩
theorem s_law22_bestR_det : SumDet s_law22_bestR := fun avs objs R κ => by
  show s_law22_bestR.run avs objs (two κ) = (s_law22_bestR.run avs objs (two some)).bind κ
  unfold s_law22_bestR
  simp only [veil_eq]
  split
  · split <;> rfl
  · rfl
theorem s_law22_bestR_ok : SumOk Try.prog 44 s_law22_bestR := by
  have hE : EnvOk Try.prog law22_bestR_E := env_ok (l := []) th_ok any_ok trivial _
  refine sum_ok hE Try.func44 rfl (by kernel_rfl) s_law22_bestR [.raw] law22_bestR.k ?_
  intro R avs objs κ r h
  unfold s_law22_bestR at h
  simp only [veil_eq] at h
  split at h
  · rename_i l but picked
    split at h
    · cases h
    · rename_i y hy
      refine ⟨BIG, _, _, _, (law22_bestR.eq BIG l picked but).trans hy, ?_, h⟩
      intro rs ros hk
      unfold law22_bestR.k at hk
      split at hk
      · first | (cases hk; exact ⟨rfl, rfl⟩) | (have e := Option.some.inj hk; rw [← e]; exact ⟨rfl, rfl⟩)
      · cases hk
  · cases h
noncomputable def queue_Queue_Take_c1_E : Env := ⟨th, gam [(45, s_slices_Contains_int_int)], fun i => ⟨[], [], []⟩⟩
noncomputable def queue_Queue_Take_c1.k (rs : List AV) (os : List Den.Obj) : Option (Bool × (List Int) × Int) :=
  match rs, os with
  | [.d .bool r0], [.box [.row 1], .row 3 (.int .i64) r1 false, .box [.d (.int .i64) r2]] => some (r0, r1, r2)
  | _, _ => none
noncomputable def queue_Queue_Take_c1.b (itID : Int) (itSent : Int) (out : List Int) (b0 : Int) : Option (Bool × (List Int) × Int) :=
  (match (veil (slices_Contains_int_int_row.f BIG out itID)) with | none => none | some y0 => (if y0.1 then some ((decide (itSent ≥ b0)), y0.2, b0) else some (false, y0.2, b0)))
noncomputable def queue_Queue_Take_c1.f (fuel : Nat) (itID : Int) (itSent : Int) (out : List Int) (b0 : Int) : Option (Bool × (List Int) × Int) := queue_Queue_Take_c1.b itID itSent out b0
theorem queue_Queue_Take_c1.eq (fuel : Nat) (itID : Int) (itSent : Int) (out : List Int) (b0 : Int) : (denF queue_Queue_Take_c1_E loopN fuel Try.f46 [.raw] [.agg [.d (.int .i64) itID, .d (.int .i64) itSent], .ptr 0 0, .ptr 2 0] [.box [.row 1], .row 3 (.int .i64) out false, .box [.d (.int .i64) b0]] queue_Queue_Take_c1.k) = queue_Queue_Take_c1.f fuel itID itSent out b0 := by
  kernel_rfl
noncomputable def s_queue_Queue_Take_c1 : Den.Sum := ⟨[.dat (.pair (.int .i64) (.int .i64)) true, .pb [.own none [] 0 3 (.int .i64) false], .raw], fun args objs κ => match args, objs with
  | [.agg [.d (.int .i64) itID, .d (.int .i64) itSent], .ptr 0 0, .ptr 2 0], [.box [.row 1], .row 3 (.int .i64) out false, .box [.d (.int .i64) b0]] => (match veil (queue_Queue_Take_c1.f BIG itID itSent out b0) with | none => none | some y => κ [.d .bool y.1] [.box [.row 1], .row 3 (.int .i64) y.2.1 false, .box [.d (.int .i64) y.2.2]])
  | _, _ => none⟩
theorem s_queue_Queue_Take_c1_det : SumDet s_queue_Queue_Take_c1 := fun avs objs R κ => by
  show s_queue_Queue_Take_c1.run avs objs (two κ) = (s_queue_Queue_Take_c1.run avs objs (two some)).bind κ
  unfold s_queue_Queue_Take_c1
  simp only [veil_eq]
  split
  · split <;> rfl
  · rfl
theorem s_queue_Queue_Take_c1_ok : SumOk Try.prog 46 s_queue_Queue_Take_c1 := by
  have hE : EnvOk Try.prog queue_Queue_Take_c1_E := env_ok (l := [(45, s_slices_Contains_int_int)]) th_ok any_ok ⟨⟨s_slices_Contains_int_int_ok, s_slices_Contains_int_int_det⟩, trivial⟩ _
  refine sum_ok hE Try.func46 rfl (by kernel_rfl) s_queue_Queue_Take_c1 [.raw] queue_Queue_Take_c1.k ?_
  intro R avs objs κ r h
  unfold s_queue_Queue_Take_c1 at h
  simp only [veil_eq] at h
  split at h
  · rename_i itID itSent out b0
    split at h
    · cases h
    · rename_i y hy
      refine ⟨BIG, _, _, _, (queue_Queue_Take_c1.eq BIG itID itSent out b0).trans hy, ?_, h⟩
      intro rs ros hk
      unfold queue_Queue_Take_c1.k at hk
      split at hk
      · first | (cases hk; exact ⟨rfl, rfl⟩) | (have e := Option.some.inj hk; rw [← e]; exact ⟨rfl, rfl⟩)
      · cases hk
  · cases h
noncomputable def s_slices_symMergeCmpFunc_queue_Itemr (recG : List (Int × Int) → Int → Int → Int → Option (List (Int × Int))) : Den.Sum := ⟨[.own 47 (.pair (.int .i64) (.int .i64)), .raw, .raw, .raw, .raw], fun args objs κ => match args, objs with
  | [.row 0, .d (.int .i64) a, .d (.int .i64) m, .d (.int .i64) b, .fn (.func 50) [] []], [.row 47 (.pair (.int .i64) (.int .i64)) l false] => (match veil (recG l a m b) with | none => none | some y => κ [] [.row 47 (.pair (.int .i64) (.int .i64)) y false])
  | _, _ => none⟩
theorem s_slices_symMergeCmpFunc_queue_Itemr_det (recG : List (Int × Int) → Int → Int → Int → Option (List (Int × Int))) : SumDet (s_slices_symMergeCmpFunc_queue_Itemr recG) := fun avs objs R κ => by
  show (s_slices_symMergeCmpFunc_queue_Itemr recG).run avs objs (two κ) = ((s_slices_symMergeCmpFunc_queue_Itemr recG).run avs objs (two some)).bind κ
  unfold s_slices_symMergeCmpFunc_queue_Itemr
  simp only [veil_eq]
  split
  · split <;> rfl
  · rfl
noncomputable def slices_symMergeCmpFunc_queue_Item_E (recG : List (Int × Int) → Int → Int → Int → Option (List (Int × Int))) : Env := ⟨th, gam [(50, s_queue_Queue_All_c1), (71, s_slices_rotateCmpFunc_queue_Item), (68, (s_slices_symMergeCmpFunc_queue_Itemr recG))], fun i => if i = 3 then ⟨[0, 1, 4, 10, 11], [], []⟩ else if i = 9 then ⟨[0, 10, 13], [], []⟩ else if i = 15 then ⟨[0, 2, 4, 14, 15], [], []⟩ else if i = 21 then ⟨[0, 14, 17], [], []⟩ else if i = 33 then ⟨[0, 1, 2, 3, 4, 18, 19, 20, 21, 22], [], []⟩ else if i = 32 then ⟨[0, 1, 2, 3, 4, 18, 19, 20, 21], [], [777777]⟩ else if i = 41 then ⟨[0, 1, 3, 4, 18, 20, 24], [], [777777]⟩ else if i = 43 then ⟨[0, 3, 4, 18, 24], [], [777777]⟩ else ⟨[], [], []⟩⟩
noncomputable def slices_symMergeCmpFunc_queue_Item.k (rs : List AV) (os : List Den.Obj) : Option (List (Int × Int)) :=
  match rs, os with
  | [], [.row 47 (.pair (.int .i64) (.int .i64)) r0 false] => some r0
  | _, _ => none
noncomputable def slices_symMergeCmpFunc_queue_Item.s9 (recG : List (Int × Int) → Int → Int → Int → Option (List (Int × Int))) (l : List (Int × Int)) (a : Int) (m : Int) (b : Int) (x7 : Int) (x8 : Int) (x9 : (List (Int × Int))) : St := ⟨[.row 0, .dead, .dead, .dead, .dead, .dead, .dead, .dead, .dead, .dead, .d (.int .i64) x7, .dead, .dead, .d (.int .i64) x8, .dead, .dead, .dead, .dead, .dead, .dead, .dead, .dead, .dead, .dead, .dead, .dead, .dead, .dead, .dead, .dead, .dead, .dead, .dead, .dead, .dead, .dead, .dead, .dead, .dead, .dead, .dead, .dead, .dead, .dead, .dead, .dead, .dead, .dead, .dead, .dead, .dead, .dead, .dead, .dead, .dead, .dead, .dead, .dead, .dead, .dead, .dead, .dead, .dead, .dead, .dead, .dead, .dead, .dead, .dead, .dead, .dead, .dead, .dead, .dead, .dead, .dead, .dead, .dead, .dead, .dead, .dead, .dead, .dead, .dead, .dead, .dead, .dead, .dead, .dead, .dead, .dead, .dead, .dead, .dead, .dead, .dead, .dead, .dead, .dead, .dead, .dead, .dead, .dead, .dead, .dead, .dead, .dead, .dead, .dead, .dead, .dead, .dead, .dead, .dead, .dead, .dead, .dead, .dead, .dead, .dead, .dead, .dead, .dead, .dead, .dead, .dead, .dead, .dead, .dead, .dead, .dead, .dead, .dead, .dead, .dead, .dead, .dead, .dead, .dead, .dead, .dead, .dead, .dead, .dead, .dead, .dead, .dead, .dead, .dead, .dead, .dead, .dead, .dead, .dead, .dead, .dead, .dead, .dead, .dead, .dead, .dead, .dead, .dead, .dead, .dead, .dead, .dead, .dead, .dead, .dead, .dead, .dead, .dead, .dead, .dead, .dead, .dead, .dead, .dead, .dead, .dead, .dead, .dead, .dead, .dead, .dead, .dead, .dead, .dead, .dead, .dead, .dead, .dead, .dead, .dead, .dead, .dead, .dead, .dead, .dead, .dead, .dead, .dead, .dead, .dead, .dead, .dead, .dead, .dead, .dead, .dead, .dead, .dead, .dead, .dead, .dead, .dead, .dead, .dead, .dead], ofL [(0, .row 47 (.pair (.int .i64) (.int .i64)) x9 false)], 1⟩
noncomputable def slices_symMergeCmpFunc_queue_Item.b9 (recG : List (Int × Int) → Int → Int → Int → Option (List (Int × Int))) (l : List (Int × Int)) (a : Int) (m : Int) (b : Int) (A9 : Int → Int → (List (Int × Int)) → Option (List (Int × Int))) (x7 : Int) (x8 : Int) (x9 : (List (Int × Int))) : Option (List (Int × Int)) :=
  (if (decide (x8 < (Go.IntKind.wrap .i64 (x7 - (1 : Int))))) then (match (idx x9 (Go.IntKind.wrap .i64 (x8 + (1 : Int)))) with | none => none | some y10 => (match (idx x9 (Go.IntKind.wrap .i64 (x8 + (1 : Int)))) with | none => none | some y11 => (match (idx x9 x8) with | none => none | some y12 => (match (idx x9 x8) with | none => none | some y13 => (match (idx x9 x8) with | none => none | some y14 => (match (idx x9 x8) with | none => none | some y15 => (match (idx (List.set x9 (Int.toNat x8) (y11.1, y11.2)) (Go.IntKind.wrap .i64 (x8 + (1 : Int)))) with | none => none | some y16 => (match (idx (List.set x9 (Int.toNat x8) (y11.1, y11.2)) (Go.IntKind.wrap .i64 (x8 + (1 : Int)))) with | none => none | some y17 => A9 x7 (Go.IntKind.wrap .i64 (x8 + (1 : Int))) (List.set (List.set x9 (Int.toNat x8) (y11.1, y11.2)) (Int.toNat (Go.IntKind.wrap .i64 (x8 + (1 : Int)))) (y13.1, y13.2)))))))))) else some (x9))
noncomputable def slices_symMergeCmpFunc_queue_Item.l9 (recG : List (Int × Int) → Int → Int → Int → Option (List (Int × Int))) (fuel : Nat) (l : List (Int × Int)) (a : Int) (m : Int) (b : Int) : Nat → Int → Int → (List (Int × Int)) → Option (List (Int × Int))
  | 0, _, _, _ => none
  | k + 1, x7, x8, x9 => (slices_symMergeCmpFunc_queue_Item.b9 recG) l a m b ((slices_symMergeCmpFunc_queue_Item.l9 recG) fuel l a m b k) x7 x8 x9
noncomputable def slices_symMergeCmpFunc_queue_Item.s3 (recG : List (Int × Int) → Int → Int → Int → Option (List (Int × Int))) (l : List (Int × Int)) (a : Int) (m : Int) (b : Int) (x0 : Int) (x1 : Int) : St := ⟨[.row 0, .d (.int .i64) (a), .dead, .dead, .fn (.func 50) [] [], .dead, .dead, .dead, .dead, .dead, .d (.int .i64) x0, .d (.int .i64) x1, .dead, .dead, .dead, .dead, .dead, .dead, .dead, .dead, .dead, .dead, .dead, .dead, .dead, .dead, .dead, .dead, .dead, .dead, .dead, .dead, .dead, .dead, .dead, .dead, .dead, .dead, .dead, .dead, .dead, .dead, .dead, .dead, .dead, .dead, .dead, .dead, .dead, .dead, .dead, .dead, .dead, .dead, .dead, .dead, .dead, .dead, .dead, .dead, .dead, .dead, .dead, .dead, .dead, .dead, .dead, .dead, .dead, .dead, .dead, .dead, .dead, .dead, .dead, .dead, .dead, .dead, .dead, .dead, .dead, .dead, .dead, .dead, .dead, .dead, .dead, .dead, .dead, .dead, .dead, .dead, .dead, .dead, .dead, .dead, .dead, .dead, .dead, .dead, .dead, .dead, .dead, .dead, .dead, .dead, .dead, .dead, .dead, .dead, .dead, .dead, .dead, .dead, .dead, .dead, .dead, .dead, .dead, .dead, .dead, .dead, .dead, .dead, .dead, .dead, .dead, .dead, .dead, .dead, .dead, .dead, .dead, .dead, .dead, .dead, .dead, .dead, .dead, .dead, .dead, .dead, .dead, .dead, .dead, .dead, .dead, .dead, .dead, .dead, .dead, .dead, .dead, .dead, .dead, .dead, .dead, .dead, .dead, .dead, .dead, .dead, .dead, .dead, .dead, .dead, .dead, .dead, .dead, .dead, .dead, .dead, .dead, .dead, .dead, .dead, .dead, .dead, .dead, .dead, .dead, .dead, .dead, .dead, .dead, .dead, .dead, .dead, .dead, .dead, .dead, .dead, .dead, .dead, .dead, .dead, .dead, .dead, .dead, .dead, .dead, .dead, .dead, .dead, .dead, .dead, .dead, .dead, .dead, .dead, .dead, .dead, .dead, .dead, .dead, .dead, .dead, .dead, .dead, .dead], ofL [(0, .row 47 (.pair (.int .i64) (.int .i64)) (l) false)], 1⟩
noncomputable def slices_symMergeCmpFunc_queue_Item.b3 (recG : List (Int × Int) → Int → Int → Int → Option (List (Int × Int))) (l : List (Int × Int)) (a : Int) (m : Int) (b : Int) (A3 : Int → Int → Option (List (Int × Int))) (E9 : Int → Int → (List (Int × Int)) → Option (List (Int × Int))) (x0 : Int) (x1 : Int) : Option (List (Int × Int)) :=
  (if (decide (x0 < x1)) then (match (idx l (Go.IntKind.wrap .i64 (Int.fdiv (Go.IntKind.wrap .u64 (Go.IntKind.wrap .i64 (x0 + x1))) ((2 : Int) ^ (Min.min (Int.toNat (1 : Int)) (Go.IntKind.bits .u64)))))) with | none => none | some y2 => (match (idx l (Go.IntKind.wrap .i64 (Int.fdiv (Go.IntKind.wrap .u64 (Go.IntKind.wrap .i64 (x0 + x1))) ((2 : Int) ^ (Min.min (Int.toNat (1 : Int)) (Go.IntKind.bits .u64)))))) with | none => none | some y3 => (match (idx l a) with | none => none | some y4 => (match (idx l a) with | none => none | some y5 => (match (veil (queue_Queue_All_c1.f BIG y3.1 y3.2 y5.1 y5.2)) with | none => none | some y6 => (if (decide (y6 < (0 : Int))) then A3 (Go.IntKind.wrap .i64 ((Go.IntKind.wrap .i64 (Int.fdiv (Go.IntKind.wrap .u64 (Go.IntKind.wrap .i64 (x0 + x1))) ((2 : Int) ^ (Min.min (Int.toNat (1 : Int)) (Go.IntKind.bits .u64))))) + (1 : Int))) x1 else A3 x0 (Go.IntKind.wrap .i64 (Int.fdiv (Go.IntKind.wrap .u64 (Go.IntKind.wrap .i64 (x0 + x1))) ((2 : Int) ^ (Min.min (Int.toNat (1 : Int)) (Go.IntKind.bits .u64))))))))))) else E9 x0 a l)
noncomputable def slices_symMergeCmpFunc_queue_Item.l3 (recG : List (Int × Int) → Int → Int → Int → Option (List (Int × Int))) (fuel : Nat) (l : List (Int × Int)) (a : Int) (m : Int) (b : Int) : Nat → Int → Int → Option (List (Int × Int))
  | 0, _, _ => none
  | k + 1, x0, x1 => (slices_symMergeCmpFunc_queue_Item.b3 recG) l a m b ((slices_symMergeCmpFunc_queue_Item.l3 recG) fuel l a m b k) ((slices_symMergeCmpFunc_queue_Item.l9 recG) fuel l a m b fuel) x0 x1
noncomputable def slices_symMergeCmpFunc_queue_Item.s21 (recG : List (Int × Int) → Int → Int → Int → Option (List (Int × Int))) (l : List (Int × Int)) (a : Int) (m : Int) (b : Int) (x25 : Int) (x26 : Int) (x27 : (List (Int × Int))) : St := ⟨[.row 0, .dead, .dead, .dead, .dead, .dead, .dead, .dead, .dead, .dead, .dead, .dead, .dead, .dead, .d (.int .i64) x25, .dead, .dead, .d (.int .i64) x26, .dead, .dead, .dead, .dead, .dead, .dead, .dead, .dead, .dead, .dead, .dead, .dead, .dead, .dead, .dead, .dead, .dead, .dead, .dead, .dead, .dead, .dead, .dead, .dead, .dead, .dead, .dead, .dead, .dead, .dead, .dead, .dead, .dead, .dead, .dead, .dead, .dead, .dead, .dead, .dead, .dead, .dead, .dead, .dead, .dead, .dead, .dead, .dead, .dead, .dead, .dead, .dead, .dead, .dead, .dead, .dead, .dead, .dead, .dead, .dead, .dead, .dead, .dead, .dead, .dead, .dead, .dead, .dead, .dead, .dead, .dead, .dead, .dead, .dead, .dead, .dead, .dead, .dead, .dead, .dead, .dead, .dead, .dead, .dead, .dead, .dead, .dead, .dead, .dead, .dead, .dead, .dead, .dead, .dead, .dead, .dead, .dead, .dead, .dead, .dead, .dead, .dead, .dead, .dead, .dead, .dead, .dead, .dead, .dead, .dead, .dead, .dead, .dead, .dead, .dead, .dead, .dead, .dead, .dead, .dead, .dead, .dead, .dead, .dead, .dead, .dead, .dead, .dead, .dead, .dead, .dead, .dead, .dead, .dead, .dead, .dead, .dead, .dead, .dead, .dead, .dead, .dead, .dead, .dead, .dead, .dead, .dead, .dead, .dead, .dead, .dead, .dead, .dead, .dead, .dead, .dead, .dead, .dead, .dead, .dead, .dead, .dead, .dead, .dead, .dead, .dead, .dead, .dead, .dead, .dead, .dead, .dead, .dead, .dead, .dead, .dead, .dead, .dead, .dead, .dead, .dead, .dead, .dead, .dead, .dead, .dead, .dead, .dead, .dead, .dead, .dead, .dead, .dead, .dead, .dead, .dead, .dead, .dead, .dead, .dead, .dead, .dead], ofL [(0, .row 47 (.pair (.int .i64) (.int .i64)) x27 false)], 1⟩
noncomputable def slices_symMergeCmpFunc_queue_Item.b21 (recG : List (Int × Int) → Int → Int → Int → Option (List (Int × Int))) (l : List (Int × Int)) (a : Int) (m : Int) (b : Int) (A21 : Int → Int → (List (Int × Int)) → Option (List (Int × Int))) (x25 : Int) (x26 : Int) (x27 : (List (Int × Int))) : Option (List (Int × Int)) :=
  (if (decide (x26 > x25)) then (match (idx x27 (Go.IntKind.wrap .i64 (x26 - (1 : Int)))) with | none => none | some y28 => (match (idx x27 (Go.IntKind.wrap .i64 (x26 - (1 : Int)))) with | none => none | some y29 => (match (idx x27 x26) with | none => none | some y30 => (match (idx x27 x26) with | none => none | some y31 => (match (idx x27 x26) with | none => none | some y32 => (match (idx x27 x26) with | none => none | some y33 => (match (idx (List.set x27 (Int.toNat x26) (y29.1, y29.2)) (Go.IntKind.wrap .i64 (x26 - (1 : Int)))) with | none => none | some y34 => (match (idx (List.set x27 (Int.toNat x26) (y29.1, y29.2)) (Go.IntKind.wrap .i64 (x26 - (1 : Int)))) with | none => none | some y35 => A21 x25 (Go.IntKind.wrap .i64 (x26 - (1 : Int))) (List.set (List.set x27 (Int.toNat x26) (y29.1, y29.2)) (Int.toNat (Go.IntKind.wrap .i64 (x26 - (1 : Int)))) (y31.1, y31.2)))))))))) else some (x27))
noncomputable def slices_symMergeCmpFunc_queue_Item.l21 (recG : List (Int × Int) → Int → Int → Int → Option (List (Int × Int))) (fuel : Nat) (l : List (Int × Int)) (a : Int) (m : Int) (b : Int) : Nat → Int → Int → (List (Int × Int)) → Option (List (Int × Int))
  | 0, _, _, _ => none
  | k + 1, x25, x26, x27 => (slices_symMergeCmpFunc_queue_Item.b21 recG) l a m b ((slices_symMergeCmpFunc_queue_Item.l21 recG) fuel l a m b k) x25 x26 x27
noncomputable def slices_symMergeCmpFunc_queue_Item.s15 (recG : List (Int × Int) → Int → Int → Int → Option (List (Int × Int))) (l : List (Int × Int)) (a : Int) (m : Int) (b : Int) (x18 : Int) (x19 : Int) : St := ⟨[.row 0, .dead, .d (.int .i64) (m), .dead, .fn (.func 50) [] [], .dead, .dead, .dead, .dead, .dead, .dead, .dead, .dead, .dead, .d (.int .i64) x18, .d (.int .i64) x19, .dead, .dead, .dead, .dead, .dead, .dead, .dead, .dead, .dead, .dead, .dead, .dead, .dead, .dead, .dead, .dead, .dead, .dead, .dead, .dead, .dead, .dead, .dead, .dead, .dead, .dead, .dead, .dead, .dead, .dead, .dead, .dead, .dead, .dead, .dead, .dead, .dead, .dead, .dead, .dead, .dead, .dead, .dead, .dead, .dead, .dead, .dead, .dead, .dead, .dead, .dead, .dead, .dead, .dead, .dead, .dead, .dead, .dead, .dead, .dead, .dead, .dead, .dead, .dead, .dead, .dead, .dead, .dead, .dead, .dead, .dead, .dead, .dead, .dead, .dead, .dead, .dead, .dead, .dead, .dead, .dead, .dead, .dead, .dead, .dead, .dead, .dead, .dead, .dead, .dead, .dead, .dead, .dead, .dead, .dead, .dead, .dead, .dead, .dead, .dead, .dead, .dead, .dead, .dead, .dead, .dead, .dead, .dead, .dead, .dead, .dead, .dead, .dead, .dead, .dead, .dead, .dead, .dead, .dead, .dead, .dead, .dead, .dead, .dead, .dead, .dead, .dead, .dead, .dead, .dead, .dead, .dead, .dead, .dead, .dead, .dead, .dead, .dead, .dead, .dead, .dead, .dead, .dead, .dead, .dead, .dead, .dead, .dead, .dead, .dead, .dead, .dead, .dead, .dead, .dead, .dead, .dead, .dead, .dead, .dead, .dead, .dead, .dead, .dead, .dead, .dead, .dead, .dead, .dead, .dead, .dead, .dead, .dead, .dead, .dead, .dead, .dead, .dead, .dead, .dead, .dead, .dead, .dead, .dead, .dead, .dead, .dead, .dead, .dead, .dead, .dead, .dead, .dead, .dead, .dead, .dead, .dead, .dead, .dead, .dead, .dead, .dead, .dead, .dead], ofL [(0, .row 47 (.pair (.int .i64) (.int .i64)) (l) false)], 1⟩
noncomputable def slices_symMergeCmpFunc_queue_Item.b15 (recG : List (Int × Int) → Int → Int → Int → Option (List (Int × Int))) (l : List (Int × Int)) (a : Int) (m : Int) (b : Int) (A15 : Int → Int → Option (List (Int × Int))) (E21 : Int → Int → (List (Int × Int)) → Option (List (Int × Int))) (x18 : Int) (x19 : Int) : Option (List (Int × Int)) :=
  (if (decide (x18 < x19)) then (match (idx l m) with | none => none | some y20 => (match (idx l m) with | none => none | some y21 => (match (idx l (Go.IntKind.wrap .i64 (Int.fdiv (Go.IntKind.wrap .u64 (Go.IntKind.wrap .i64 (x18 + x19))) ((2 : Int) ^ (Min.min (Int.toNat (1 : Int)) (Go.IntKind.bits .u64)))))) with | none => none | some y22 => (match (idx l (Go.IntKind.wrap .i64 (Int.fdiv (Go.IntKind.wrap .u64 (Go.IntKind.wrap .i64 (x18 + x19))) ((2 : Int) ^ (Min.min (Int.toNat (1 : Int)) (Go.IntKind.bits .u64)))))) with | none => none | some y23 => (match (veil (queue_Queue_All_c1.f BIG y21.1 y21.2 y23.1 y23.2)) with | none => none | some y24 => (if (!(decide (y24 < (0 : Int)))) then A15 (Go.IntKind.wrap .i64 ((Go.IntKind.wrap .i64 (Int.fdiv (Go.IntKind.wrap .u64 (Go.IntKind.wrap .i64 (x18 + x19))) ((2 : Int) ^ (Min.min (Int.toNat (1 : Int)) (Go.IntKind.bits .u64))))) + (1 : Int))) x19 else A15 x18 (Go.IntKind.wrap .i64 (Int.fdiv (Go.IntKind.wrap .u64 (Go.IntKind.wrap .i64 (x18 + x19))) ((2 : Int) ^ (Min.min (Int.toNat (1 : Int)) (Go.IntKind.bits .u64))))))))))) else E21 x18 m l)
noncomputable def slices_symMergeCmpFunc_queue_Item.l15 (recG : List (Int × Int) → Int → Int → Int → Option (List (Int × Int))) (fuel : Nat) (l : List (Int × Int)) (a : Int) (m : Int) (b : Int) : Nat → Int → Int → Option (List (Int × Int))
  | 0, _, _ => none
  | k + 1, x18, x19 => (slices_symMergeCmpFunc_queue_Item.b15 recG) l a m b ((slices_symMergeCmpFunc_queue_Item.l15 recG) fuel l a m b k) ((slices_symMergeCmpFunc_queue_Item.l21 recG) fuel l a m b fuel) x18 x19
noncomputable def slices_symMergeCmpFunc_queue_Item.s43 (recG : List (Int × Int) → Int → Int → Int → Option (List (Int × Int))) (l : List (Int × Int)) (a : Int) (m : Int) (b : Int) (x50 : Int) (x51 : (List (Int × Int))) : St := ⟨[.row 0, .dead, .dead, .d (.int .i64) (b), .fn (.func 50) [] [], .dead, .dead, .dead, .dead, .dead, .dead, .dead, .dead, .dead, .dead, .dead, .dead, .dead, .d (.int .i64) ((Go.IntKind.wrap .i64 (Int.fdiv (Go.IntKind.wrap .u64 (Go.IntKind.wrap .i64 (a + b))) ((2 : Int) ^ (Min.min (Int.toNat (1 : Int)) (Go.IntKind.bits .u64)))))), .dead, .dead, .dead, .dead, .dead, .d (.int .i64) x50, .dead, .dead, .dead, .dead, .dead, .dead, .dead, .dead, .dead, .dead, .dead, .dead, .dead, .dead, .dead, .dead, .dead, .dead, .dead, .dead, .dead, .dead, .dead, .dead, .dead, .dead, .dead, .dead, .dead, .dead, .dead, .dead, .dead, .dead, .dead, .dead, .dead, .dead, .dead, .dead, .dead, .dead, .dead, .dead, .dead, .dead, .dead, .dead, .dead, .dead, .dead, .dead, .dead, .dead, .dead, .dead, .dead, .dead, .dead, .dead, .dead, .dead, .dead, .dead, .dead, .dead, .dead, .dead, .dead, .dead, .dead, .dead, .dead, .dead, .dead, .dead, .dead, .dead, .dead, .dead, .dead, .dead, .dead, .dead, .dead, .dead, .dead, .dead, .dead, .dead, .dead, .dead, .dead, .dead, .dead, .dead, .dead, .dead, .dead, .dead, .dead, .dead, .dead, .dead, .dead, .dead, .dead, .dead, .dead, .dead, .dead, .dead, .dead, .dead, .dead, .dead, .dead, .dead, .dead, .dead, .dead, .dead, .dead, .dead, .dead, .dead, .dead, .dead, .dead, .dead, .dead, .dead, .dead, .dead, .dead, .dead, .dead, .dead, .dead, .dead, .dead, .dead, .dead, .dead, .dead, .dead, .dead, .dead, .dead, .dead, .dead, .dead, .dead, .dead, .dead, .dead, .dead, .dead, .dead, .dead, .dead, .dead, .dead, .dead, .dead, .dead, .dead, .dead, .dead, .dead, .dead, .dead, .dead, .dead, .dead, .dead, .dead, .dead, .dead, .dead, .dead, .dead, .dead, .dead, .dead, .dead, .dead, .dead, .dead, .dead, .dead, .dead, .dead, .dead, .dead], ofL [(0, .row 47 (.pair (.int .i64) (.int .i64)) x51 false)], 1⟩
noncomputable def slices_symMergeCmpFunc_queue_Item.b43 (recG : List (Int × Int) → Int → Int → Int → Option (List (Int × Int))) (l : List (Int × Int)) (a : Int) (m : Int) (b : Int) (A43 : Int → (List (Int × Int)) → Option (List (Int × Int))) (x50 : Int) (x51 : (List (Int × Int))) : Option (List (Int × Int)) :=
  (if (decide ((Go.IntKind.wrap .i64 (Int.fdiv (Go.IntKind.wrap .u64 (Go.IntKind.wrap .i64 (a + b))) ((2 : Int) ^ (Min.min (Int.toNat (1 : Int)) (Go.IntKind.bits .u64))))) < x50)) then (if (decide (x50 < b)) then (match (veil (recG x51 (Go.IntKind.wrap .i64 (Int.fdiv (Go.IntKind.wrap .u64 (Go.IntKind.wrap .i64 (a + b))) ((2 : Int) ^ (Min.min (Int.toNat (1 : Int)) (Go.IntKind.bits .u64))))) x50 b)) with | none => none | some y52 => some (y52)) else some (x51)) else some (x51))
noncomputable def slices_symMergeCmpFunc_queue_Item.l43 (recG : List (Int × Int) → Int → Int → Int → Option (List (Int × Int))) (fuel : Nat) (l : List (Int × Int)) (a : Int) (m : Int) (b : Int) : Nat → Int → (List (Int × Int)) → Option (List (Int × Int))
  | 0, _, _ => none
  | k + 1, x50, x51 => (slices_symMergeCmpFunc_queue_Item.b43 recG) l a m b ((slices_symMergeCmpFunc_queue_Item.l43 recG) fuel l a m b k) x50 x51
noncomputable def slices_symMergeCmpFunc_queue_Item.s41 (recG : List (Int × Int) → Int → Int → Int → Option (List (Int × Int))) (l : List (Int × Int)) (a : Int) (m : Int) (b : Int) (x46 : Int) (x47 : Int) (x48 : (List (Int × Int))) : St := ⟨[.row 0, .d (.int .i64) (a), .dead, .d (.int .i64) (b), .fn (.func 50) [] [], .dead, .dead, .dead, .dead, .dead, .dead, .dead, .dead, .dead, .dead, .dead, .dead, .dead, .d (.int .i64) ((Go.IntKind.wrap .i64 (Int.fdiv (Go.IntKind.wrap .u64 (Go.IntKind.wrap .i64 (a + b))) ((2 : Int) ^ (Min.min (Int.toNat (1 : Int)) (Go.IntKind.bits .u64)))))), .dead, .d (.int .i64) x46, .dead, .dead, .dead, .d (.int .i64) x47, .dead, .dead, .dead, .dead, .dead, .dead, .dead, .dead, .dead, .dead, .dead, .dead, .dead, .dead, .dead, .dead, .dead, .dead, .dead, .dead, .dead, .dead, .dead, .dead, .dead, .dead, .dead, .dead, .dead, .dead, .dead, .dead, .dead, .dead, .dead, .dead, .dead, .dead, .dead, .dead, .dead, .dead, .dead, .dead, .dead, .dead, .dead, .dead, .dead, .dead, .dead, .dead, .dead, .dead, .dead, .dead, .dead, .dead, .dead, .dead, .dead, .dead, .dead, .dead, .dead, .dead, .dead, .dead, .dead, .dead, .dead, .dead, .dead, .dead, .dead, .dead, .dead, .dead, .dead, .dead, .dead, .dead, .dead, .dead, .dead, .dead, .dead, .dead, .dead, .dead, .dead, .dead, .dead, .dead, .dead, .dead, .dead, .dead, .dead, .dead, .dead, .dead, .dead, .dead, .dead, .dead, .dead, .dead, .dead, .dead, .dead, .dead, .dead, .dead, .dead, .dead, .dead, .dead, .dead, .dead, .dead, .dead, .dead, .dead, .dead, .dead, .dead, .dead, .dead, .dead, .dead, .dead, .dead, .dead, .dead, .dead, .dead, .dead, .dead, .dead, .dead, .dead, .dead, .dead, .dead, .dead, .dead, .dead, .dead, .dead, .dead, .dead, .dead, .dead, .dead, .dead, .dead, .dead, .dead, .dead, .dead, .dead, .dead, .dead, .dead, .dead, .dead, .dead, .dead, .dead, .dead, .dead, .dead, .dead, .dead, .dead, .dead, .dead, .dead, .dead, .dead, .dead, .dead, .dead, .dead, .dead, .dead, .dead, .dead, .dead, .dead, .dead, .dead, .dead, .dead], ofL [(0, .row 47 (.pair (.int .i64) (.int .i64)) x48 false)], 1⟩
noncomputable def slices_symMergeCmpFunc_queue_Item.b41 (recG : List (Int × Int) → Int → Int → Int → Option (List (Int × Int))) (l : List (Int × Int)) (a : Int) (m : Int) (b : Int) (A41 : Int → Int → (List (Int × Int)) → Option (List (Int × Int))) (E43 : Int → (List (Int × Int)) → Option (List (Int × Int))) (x46 : Int) (x47 : Int) (x48 : (List (Int × Int))) : Option (List (Int × Int)) :=
  (if (decide (a < x46)) then (if (decide (x46 < (Go.IntKind.wrap .i64 (Int.fdiv (Go.IntKind.wrap .u64 (Go.IntKind.wrap .i64 (a + b))) ((2 : Int) ^ (Min.min (Int.toNat (1 : Int)) (Go.IntKind.bits .u64))))))) then (match (veil (recG x48 a x46 (Go.IntKind.wrap .i64 (Int.fdiv (Go.IntKind.wrap .u64 (Go.IntKind.wrap .i64 (a + b))) ((2 : Int) ^ (Min.min (Int.toNat (1 : Int)) (Go.IntKind.bits .u64))))))) with | none => none | some y49 => E43 x47 y49) else E43 x47 x48) else E43 x47 x48)
noncomputable def slices_symMergeCmpFunc_queue_Item.l41 (recG : List (Int × Int) → Int → Int → Int → Option (List (Int × Int))) (fuel : Nat) (l : List (Int × Int)) (a : Int) (m : Int) (b : Int) : Nat → Int → Int → (List (Int × Int)) → Option (List (Int × Int))
  | 0, _, _, _ => none
  | k + 1, x46, x47, x48 => (slices_symMergeCmpFunc_queue_Item.b41 recG) l a m b ((slices_symMergeCmpFunc_queue_Item.l41 recG) fuel l a m b k) ((slices_symMergeCmpFunc_queue_Item.l43 recG) fuel l a m b fuel) x46 x47 x48
noncomputable def slices_symMergeCmpFunc_queue_Item.s33 (recG : List (Int × Int) → Int → Int → Int → Option (List (Int × Int))) (l : List (Int × Int)) (a : Int) (m : Int) (b : Int) (x38 : Int) (x39 : Int) : St := ⟨[.row 0, .d (.int .i64) (a), .d (.int .i64) (m), .d (.int .i64) (b), .fn (.func 50) [] [], .dead, .dead, .dead, .dead, .dead, .dead, .dead, .dead, .dead, .dead, .dead, .dead, .dead, .d (.int .i64) ((Go.IntKind.wrap .i64 (Int.fdiv (Go.IntKind.wrap .u64 (Go.IntKind.wrap .i64 (a + b))) ((2 : Int) ^ (Min.min (Int.toNat (1 : Int)) (Go.IntKind.bits .u64)))))), .d (.int .i64) ((Go.IntKind.wrap .i64 ((Go.IntKind.wrap .i64 (Int.fdiv (Go.IntKind.wrap .u64 (Go.IntKind.wrap .i64 (a + b))) ((2 : Int) ^ (Min.min (Int.toNat (1 : Int)) (Go.IntKind.bits .u64))))) + m))), .d (.int .i64) x38, .d (.int .i64) x39, .d (.int .i64) ((Go.IntKind.wrap .i64 ((Go.IntKind.wrap .i64 ((Go.IntKind.wrap .i64 (Int.fdiv (Go.IntKind.wrap .u64 (Go.IntKind.wrap .i64 (a + b))) ((2 : Int) ^ (Min.min (Int.toNat (1 : Int)) (Go.IntKind.bits .u64))))) + m)) - (1 : Int)))), .dead, .dead, .dead, .dead, .dead, .dead, .dead, .dead, .dead, .dead, .dead, .dead, .dead, .dead, .dead, .dead, .dead, .dead, .dead, .dead, .dead, .dead, .dead, .dead, .dead, .dead, .dead, .dead, .dead, .dead, .dead, .dead, .dead, .dead, .dead, .dead, .dead, .dead, .dead, .dead, .dead, .dead, .dead, .dead, .dead, .dead, .dead, .dead, .dead, .dead, .dead, .dead, .dead, .dead, .dead, .dead, .dead, .dead, .dead, .dead, .dead, .dead, .dead, .dead, .dead, .dead, .dead, .dead, .dead, .dead, .dead, .dead, .dead, .dead, .dead, .dead, .dead, .dead, .dead, .dead, .dead, .dead, .dead, .dead, .dead, .dead, .dead, .dead, .dead, .dead, .dead, .dead, .dead, .dead, .dead, .dead, .dead, .dead, .dead, .dead, .dead, .dead, .dead, .dead, .dead, .dead, .dead, .dead, .dead, .dead, .dead, .dead, .dead, .dead, .dead, .dead, .dead, .dead, .dead, .dead, .dead, .dead, .dead, .dead, .dead, .dead, .dead, .dead, .dead, .dead, .dead, .dead, .dead, .dead, .dead, .dead, .dead, .dead, .dead, .dead, .dead, .dead, .dead, .dead, .dead, .dead, .dead, .dead, .dead, .dead, .dead, .dead, .dead, .dead, .dead, .dead, .dead, .dead, .dead, .dead, .dead, .dead, .dead, .dead, .dead, .dead, .dead, .dead, .dead, .dead, .dead, .dead, .dead, .dead, .dead, .dead, .dead, .dead, .dead, .dead, .dead, .dead, .dead, .dead, .dead, .dead, .dead, .dead, .dead, .dead, .dead, .dead, .dead, .dead, .dead, .dead, .dead], ofL [(0, .row 47 (.pair (.int .i64) (.int .i64)) (l) false)], 1⟩
noncomputable def slices_symMergeCmpFunc_queue_Item.b33 (recG : List (Int × Int) → Int → Int → Int → Option (List (Int × Int))) (l : List (Int × Int)) (a : Int) (m : Int) (b : Int) (A33 : Int → Int → Option (List (Int × Int))) (E41 : Int → Int → (List (Int × Int)) → Option (List (Int × Int))) (x38 : Int) (x39 : Int) : Option (List (Int × Int)) :=
  (if (decide (x38 < x39)) then (match (idx l (Go.IntKind.wrap .i64 ((Go.IntKind.wrap .i64 ((Go.IntKind.wrap .i64 ((Go.IntKind.wrap .i64 (Int.fdiv (Go.IntKind.wrap .u64 (Go.IntKind.wrap .i64 (a + b))) ((2 : Int) ^ (Min.min (Int.toNat (1 : Int)) (Go.IntKind.bits .u64))))) + m)) - (1 : Int))) - (Go.IntKind.wrap .i64 (Int.fdiv (Go.IntKind.wrap .u64 (Go.IntKind.wrap .i64 (x38 + x39))) ((2 : Int) ^ (Min.min (Int.toNat (1 : Int)) (Go.IntKind.bits .u64)))))))) with | none => none | some y40 => (match (idx l (Go.IntKind.wrap .i64 ((Go.IntKind.wrap .i64 ((Go.IntKind.wrap .i64 ((Go.IntKind.wrap .i64 (Int.fdiv (Go.IntKind.wrap .u64 (Go.IntKind.wrap .i64 (a + b))) ((2 : Int) ^ (Min.min (Int.toNat (1 : Int)) (Go.IntKind.bits .u64))))) + m)) - (1 : Int))) - (Go.IntKind.wrap .i64 (Int.fdiv (Go.IntKind.wrap .u64 (Go.IntKind.wrap .i64 (x38 + x39))) ((2 : Int) ^ (Min.min (Int.toNat (1 : Int)) (Go.IntKind.bits .u64)))))))) with | none => none | some y41 => (match (idx l (Go.IntKind.wrap .i64 (Int.fdiv (Go.IntKind.wrap .u64 (Go.IntKind.wrap .i64 (x38 + x39))) ((2 : Int) ^ (Min.min (Int.toNat (1 : Int)) (Go.IntKind.bits .u64)))))) with | none => none | some y42 => (match (idx l (Go.IntKind.wrap .i64 (Int.fdiv (Go.IntKind.wrap .u64 (Go.IntKind.wrap .i64 (x38 + x39))) ((2 : Int) ^ (Min.min (Int.toNat (1 : Int)) (Go.IntKind.bits .u64)))))) with | none => none | some y43 => (match (veil (queue_Queue_All_c1.f BIG y41.1 y41.2 y43.1 y43.2)) with | none => none | some y44 => (if (!(decide (y44 < (0 : Int)))) then A33 (Go.IntKind.wrap .i64 ((Go.IntKind.wrap .i64 (Int.fdiv (Go.IntKind.wrap .u64 (Go.IntKind.wrap .i64 (x38 + x39))) ((2 : Int) ^ (Min.min (Int.toNat (1 : Int)) (Go.IntKind.bits .u64))))) + (1 : Int))) x39 else A33 x38 (Go.IntKind.wrap .i64 (Int.fdiv (Go.IntKind.wrap .u64 (Go.IntKind.wrap .i64 (x38 + x39))) ((2 : Int) ^ (Min.min (Int.toNat (1 : Int)) (Go.IntKind.bits .u64))))))))))) else (if (decide (x38 < m)) then (if (decide (m < (Go.IntKind.wrap .i64 ((Go.IntKind.wrap .i64 ((Go.IntKind.wrap .i64 (Int.fdiv (Go.IntKind.wrap .u64 (Go.IntKind.wrap .i64 (a + b))) ((2 : Int) ^ (Min.min (Int.toNat (1 : Int)) (Go.IntKind.bits .u64))))) + m)) - x38)))) then (match (veil (slices_rotateCmpFunc_queue_Item.f BIG l x38 m (Go.IntKind.wrap .i64 ((Go.IntKind.wrap .i64 ((Go.IntKind.wrap .i64 (Int.fdiv (Go.IntKind.wrap .u64 (Go.IntKind.wrap .i64 (a + b))) ((2 : Int) ^ (Min.min (Int.toNat (1 : Int)) (Go.IntKind.bits .u64))))) + m)) - x38)))) with | none => none | some y45 => E41 x38 (Go.IntKind.wrap .i64 ((Go.IntKind.wrap .i64 ((Go.IntKind.wrap .i64 (Int.fdiv (Go.IntKind.wrap .u64 (Go.IntKind.wrap .i64 (a + b))) ((2 : Int) ^ (Min.min (Int.toNat (1 : Int)) (Go.IntKind.bits .u64))))) + m)) - x38)) y45) else E41 x38 (Go.IntKind.wrap .i64 ((Go.IntKind.wrap .i64 ((Go.IntKind.wrap .i64 (Int.fdiv (Go.IntKind.wrap .u64 (Go.IntKind.wrap .i64 (a + b))) ((2 : Int) ^ (Min.min (Int.toNat (1 : Int)) (Go.IntKind.bits .u64))))) + m)) - x38)) l) else E41 x38 (Go.IntKind.wrap .i64 ((Go.IntKind.wrap .i64 ((Go.IntKind.wrap .i64 (Int.fdiv (Go.IntKind.wrap .u64 (Go.IntKind.wrap .i64 (a + b))) ((2 : Int) ^ (Min.min (Int.toNat (1 : Int)) (Go.IntKind.bits .u64))))) + m)) - x38)) l))
noncomputable def slices_symMergeCmpFunc_queue_Item.l33 (recG : List (Int × Int) → Int → Int → Int → Option (List (Int × Int))) (fuel : Nat) (l : List (Int × Int)) (a : Int) (m : Int) (b : Int) : Nat → Int → Int → Option (List (Int × Int))
  | 0, _, _ => none
  | k + 1, x38, x39 => (slices_symMergeCmpFunc_queue_Item.b33 recG) l a m b ((slices_symMergeCmpFunc_queue_Item.l33 recG) fuel l a m b k) ((slices_symMergeCmpFunc_queue_Item.l41 recG) fuel l a m b fuel) x38 x39
noncomputable def slices_symMergeCmpFunc_queue_Item.s32 (recG : List (Int × Int) → Int → Int → Int → Option (List (Int × Int))) (l : List (Int × Int)) (a : Int) (m : Int) (b : Int) (x36 : Int) (x37 : Int) : St := ⟨[.row 0, .d (.int .i64) (a), .d (.int .i64) (m), .d (.int .i64) (b), .fn (.func 50) [] [], .dead, .dead, .dead, .dead, .dead, .dead, .dead, .dead, .dead, .dead, .dead, .dead, .dead, .d (.int .i64) ((Go.IntKind.wrap .i64 (Int.fdiv (Go.IntKind.wrap .u64 (Go.IntKind.wrap .i64 (a + b))) ((2 : Int) ^ (Min.min (Int.toNat (1 : Int)) (Go.IntKind.bits .u64)))))), .d (.int .i64) ((Go.IntKind.wrap .i64 ((Go.IntKind.wrap .i64 (Int.fdiv (Go.IntKind.wrap .u64 (Go.IntKind.wrap .i64 (a + b))) ((2 : Int) ^ (Min.min (Int.toNat (1 : Int)) (Go.IntKind.bits .u64))))) + m))), .d (.int .i64) x36, .d (.int .i64) x37, .dead, .dead, .dead, .dead, .dead, .dead, .dead, .dead, .dead, .dead, .dead, .dead, .dead, .dead, .dead, .dead, .dead, .dead, .dead, .dead, .dead, .dead, .dead, .dead, .dead, .dead, .dead, .dead, .dead, .dead, .dead, .dead, .dead, .dead, .dead, .dead, .dead, .dead, .dead, .dead, .dead, .dead, .dead, .dead, .dead, .dead, .dead, .dead, .dead, .dead, .dead, .dead, .dead, .dead, .dead, .dead, .dead, .dead, .dead, .dead, .dead, .dead, .dead, .dead, .dead, .dead, .dead, .dead, .dead, .dead, .dead, .dead, .dead, .dead, .dead, .dead, .dead, .dead, .dead, .dead, .dead, .dead, .dead, .dead, .dead, .dead, .dead, .dead, .dead, .dead, .dead, .dead, .dead, .dead, .dead, .dead, .dead, .dead, .dead, .dead, .dead, .dead, .dead, .dead, .dead, .dead, .dead, .dead, .dead, .dead, .dead, .dead, .dead, .dead, .dead, .dead, .dead, .dead, .dead, .dead, .dead, .dead, .dead, .dead, .dead, .dead, .dead, .dead, .dead, .dead, .dead, .dead, .dead, .dead, .dead, .dead, .dead, .dead, .dead, .dead, .dead, .dead, .dead, .dead, .dead, .dead, .dead, .dead, .dead, .dead, .dead, .dead, .dead, .dead, .dead, .dead, .dead, .dead, .dead, .dead, .dead, .dead, .dead, .dead, .dead, .dead, .dead, .dead, .dead, .dead, .dead, .dead, .dead, .dead, .dead, .dead, .dead, .dead, .dead, .dead, .dead, .dead, .dead, .dead, .dead, .dead, .dead, .dead, .dead, .dead, .dead, .dead, .dead, .dead, .dead, .dead, .dead, .dead], ofL [(0, .row 47 (.pair (.int .i64) (.int .i64)) (l) false)], 1⟩
noncomputable def slices_symMergeCmpFunc_queue_Item.b32 (recG : List (Int × Int) → Int → Int → Int → Option (List (Int × Int))) (l : List (Int × Int)) (a : Int) (m : Int) (b : Int) (A32 : Int → Int → Option (List (Int × Int))) (E33 : Int → Int → Option (List (Int × Int))) (x36 : Int) (x37 : Int) : Option (List (Int × Int)) :=
  E33 x36 x37
noncomputable def slices_symMergeCmpFunc_queue_Item.l32 (recG : List (Int × Int) → Int → Int → Int → Option (List (Int × Int))) (fuel : Nat) (l : List (Int × Int)) (a : Int) (m : Int) (b : Int) : Nat → Int → Int → Option (List (Int × Int))
  | 0, _, _ => none
  | k + 1, x36, x37 => (slices_symMergeCmpFunc_queue_Item.b32 recG) l a m b ((slices_symMergeCmpFunc_queue_Item.l32 recG) fuel l a m b k) ((slices_symMergeCmpFunc_queue_Item.l33 recG) fuel l a m b fuel) x36 x37
noncomputable def slices_symMergeCmpFunc_queue_Item.b (recG : List (Int × Int) → Int → Int → Int → Option (List (Int × Int))) (l : List (Int × Int)) (a : Int) (m : Int) (b : Int) (E3 : Int → Int → Option (List (Int × Int))) (E15 : Int → Int → Option (List (Int × Int))) (E32 : Int → Int → Option (List (Int × Int))) : Option (List (Int × Int)) :=
  (if ((Go.IntKind.wrap .i64 (m - a)) == (1 : Int)) then E3 m b else (if ((Go.IntKind.wrap .i64 (b - m)) == (1 : Int)) then E15 a m else (if (decide (m > (Go.IntKind.wrap .i64 (Int.fdiv (Go.IntKind.wrap .u64 (Go.IntKind.wrap .i64 (a + b))) ((2 : Int) ^ (Min.min (Int.toNat (1 : Int)) (Go.IntKind.bits .u64))))))) then E32 (Go.IntKind.wrap .i64 ((Go.IntKind.wrap .i64 ((Go.IntKind.wrap .i64 (Int.fdiv (Go.IntKind.wrap .u64 (Go.IntKind.wrap .i64 (a + b))) ((2 : Int) ^ (Min.min (Int.toNat (1 : Int)) (Go.IntKind.bits .u64))))) + m)) - b)) (Go.IntKind.wrap .i64 (Int.fdiv (Go.IntKind.wrap .u64 (Go.IntKind.wrap .i64 (a + b))) ((2 : Int) ^ (Min.min (Int.toNat (1 : Int)) (Go.IntKind.bits .u64))))) else E32 a m)))
noncomputable def slices_symMergeCmpFunc_queue_Item.f (recG : List (Int × Int) → Int → Int → Int → Option (List (Int × Int))) (fuel : Nat) (l : List (Int × Int)) (a : Int) (m : Int) (b : Int) : Option (List (Int × Int)) := (slices_symMergeCmpFunc_queue_Item.b recG) l a m b ((slices_symMergeCmpFunc_queue_Item.l3 recG) fuel l a m b fuel) ((slices_symMergeCmpFunc_queue_Item.l15 recG) fuel l a m b fuel) ((slices_symMergeCmpFunc_queue_Item.l32 recG) fuel l a m b fuel)
theorem slices_symMergeCmpFunc_queue_Item.l9_eq (recG : List (Int × Int) → Int → Int → Int → Option (List (Int × Int))) (fuel : Nat) (l : List (Int × Int)) (a : Int) (m : Int) (b : Int) : ∀ (k : Nat) (x7 : Int) (x8 : Int) (x9 : (List (Int × Int))), lp (slices_symMergeCmpFunc_queue_Item_E recG) fuel Try.f68 [] 1 slices_symMergeCmpFunc_queue_Item.k 9 [] k ((slices_symMergeCmpFunc_queue_Item.s9 recG) l a m b x7 x8 x9) = (slices_symMergeCmpFunc_queue_Item.l9 recG) fuel l a m b k x7 x8 x9 := by
  intro k
  induction k with
  | zero => intro x7 x8 x9; rfl
  | succ k ih =>
    intro x7 x8 x9
    have h : lp (slices_symMergeCmpFunc_queue_Item_E recG) fuel Try.f68 [] 1 slices_symMergeCmpFunc_queue_Item.k 9 [] (k + 1) ((slices_symMergeCmpFunc_queue_Item.s9 recG) l a m b x7 x8 x9) = (slices_symMergeCmpFunc_queue_Item.b9 recG) l a m b (fun x7 x8 x9 => lp (slices_symMergeCmpFunc_queue_Item_E recG) fuel Try.f68 [] 1 slices_symMergeCmpFunc_queue_Item.k 9 [] k ((slices_symMergeCmpFunc_queue_Item.s9 recG) l a m b x7 x8 x9)) x7 x8 x9 := by kernel_rfl
    rw [h]
    have e9 : (fun x7 x8 x9 => lp (slices_symMergeCmpFunc_queue_Item_E recG) fuel Try.f68 [] 1 slices_symMergeCmpFunc_queue_Item.k 9 [] k ((slices_symMergeCmpFunc_queue_Item.s9 recG) l a m b x7 x8 x9)) = (slices_symMergeCmpFunc_queue_Item.l9 recG) fuel l a m b k := (funext fun x7 => (funext fun x8 => (funext fun x9 => ih x7 x8 x9)))
    rw [e9]
    rfl
theorem slices_symMergeCmpFunc_queue_Item.l3_eq (recG : List (Int × Int) → Int → Int → Int → Option (List (Int × Int))) (fuel : Nat) (l : List (Int × Int)) (a : Int) (m : Int) (b : Int) : ∀ (k : Nat) (x0 : Int) (x1 : Int), lp (slices_symMergeCmpFunc_queue_Item_E recG) fuel Try.f68 [] 1 slices_symMergeCmpFunc_queue_Item.k 3 [] k ((slices_symMergeCmpFunc_queue_Item.s3 recG) l a m b x0 x1) = (slices_symMergeCmpFunc_queue_Item.l3 recG) fuel l a m b k x0 x1 := by
  intro k
  induction k with
  | zero => intro x0 x1; rfl
  | succ k ih =>
    intro x0 x1
    have h : lp (slices_symMergeCmpFunc_queue_Item_E recG) fuel Try.f68 [] 1 slices_symMergeCmpFunc_queue_Item.k 3 [] (k + 1) ((slices_symMergeCmpFunc_queue_Item.s3 recG) l a m b x0 x1) = (slices_symMergeCmpFunc_queue_Item.b3 recG) l a m b (fun x0 x1 => lp (slices_symMergeCmpFunc_queue_Item_E recG) fuel Try.f68 [] 1 slices_symMergeCmpFunc_queue_Item.k 3 [] k ((slices_symMergeCmpFunc_queue_Item.s3 recG) l a m b x0 x1)) (fun x7 x8 x9 => lp (slices_symMergeCmpFunc_queue_Item_E recG) fuel Try.f68 [] 1 slices_symMergeCmpFunc_queue_Item.k 9 [] fuel ((slices_symMergeCmpFunc_queue_Item.s9 recG) l a m b x7 x8 x9)) x0 x1 := by kernel_rfl
    rw [h]
    have e3 : (fun x0 x1 => lp (slices_symMergeCmpFunc_queue_Item_E recG) fuel Try.f68 [] 1 slices_symMergeCmpFunc_queue_Item.k 3 [] k ((slices_symMergeCmpFunc_queue_Item.s3 recG) l a m b x0 x1)) = (slices_symMergeCmpFunc_queue_Item.l3 recG) fuel l a m b k := (funext fun x0 => (funext fun x1 => ih x0 x1))
    rw [e3]
    have e9 : (fun x7 x8 x9 => lp (slices_symMergeCmpFunc_queue_Item_E recG) fuel Try.f68 [] 1 slices_symMergeCmpFunc_queue_Item.k 9 [] fuel ((slices_symMergeCmpFunc_queue_Item.s9 recG) l a m b x7 x8 x9)) = (slices_symMergeCmpFunc_queue_Item.l9 recG) fuel l a m b fuel := (funext fun x7 => (funext fun x8 => (funext fun x9 => (slices_symMergeCmpFunc_queue_Item.l9_eq recG) fuel l a m b fuel x7 x8 x9)))
    rw [e9]
    rfl
theorem slices_symMergeCmpFunc_queue_Item.l21_eq (recG : List (Int × Int) → Int → Int → Int → Option (List (Int × Int))) (fuel : Nat) (l : List (Int × Int)) (a : Int) (m : Int) (b : Int) : ∀ (k : Nat) (x25 : Int) (x26 : Int) (x27 : (List (Int × Int))), lp (slices_symMergeCmpFunc_queue_Item_E recG) fuel Try.f68 [] 1 slices_symMergeCmpFunc_queue_Item.k 21 [] k ((slices_symMergeCmpFunc_queue_Item.s21 recG) l a m b x25 x26 x27) = (slices_symMergeCmpFunc_queue_Item.l21 recG) fuel l a m b k x25 x26 x27 := by
  intro k
  induction k with
  | zero => intro x25 x26 x27; rfl
  | succ k ih =>
    intro x25 x26 x27
    have h : lp (slices_symMergeCmpFunc_queue_Item_E recG) fuel Try.f68 [] 1 slices_symMergeCmpFunc_queue_Item.k 21 [] (k + 1) ((slices_symMergeCmpFunc_queue_Item.s21 recG) l a m b x25 x26 x27) = (slices_symMergeCmpFunc_queue_Item.b21 recG) l a m b (fun x25 x26 x27 => lp (slices_symMergeCmpFunc_queue_Item_E recG) fuel Try.f68 [] 1 slices_symMergeCmpFunc_queue_Item.k 21 [] k ((slices_symMergeCmpFunc_queue_Item.s21 recG) l a m b x25 x26 x27)) x25 x26 x27 := by kernel_rfl
    rw [h]
    have e21 : (fun x25 x26 x27 => lp (slices_symMergeCmpFunc_queue_Item_E recG) fuel Try.f68 [] 1 slices_symMergeCmpFunc_queue_Item.k 21 [] k ((slices_symMergeCmpFunc_queue_Item.s21 recG) l a m b x25 x26 x27)) = (slices_symMergeCmpFunc_queue_Item.l21 recG) fuel l a m b k := (funext fun x25 => (funext fun x26 => (funext fun x27 => ih x25 x26 x27)))
    rw [e21]
    rfl
theorem slices_symMergeCmpFunc_queue_Item.l15_eq (recG : List (Int × Int) → Int → Int → Int → Option (List (Int × Int))) (fuel : Nat) (l : List (Int × Int)) (a : Int) (m : Int) (b : Int) : ∀ (k : Nat) (x18 : Int) (x19 : Int), lp (slices_symMergeCmpFunc_queue_Item_E recG) fuel Try.f68 [] 1 slices_symMergeCmpFunc_queue_Item.k 15 [] k ((slices_symMergeCmpFunc_queue_Item.s15 recG) l a m b x18 x19) = (slices_symMergeCmpFunc_queue_Item.l15 recG) fuel l a m b k x18 x19 := by
  intro k
  induction k with
  | zero => intro x18 x19; rfl
  | succ k ih =>
    intro x18 x19
    have h : lp (slices_symMergeCmpFunc_queue_Item_E recG) fuel Try.f68 [] 1 slices_symMergeCmpFunc_queue_Item.k 15 [] (k + 1) ((slices_symMergeCmpFunc_queue_Item.s15 recG) l a m b x18 x19) = (slices_symMergeCmpFunc_queue_Item.b15 recG) l a m b (fun x18 x19 => lp (slices_symMergeCmpFunc_queue_Item_E recG) fuel Try.f68 [] 1 slices_symMergeCmpFunc_queue_Item.k 15 [] k ((slices_symMergeCmpFunc_queue_Item.s15 recG) l a m b x18 x19)) (fun x25 x26 x27 => lp (slices_symMergeCmpFunc_queue_Item_E recG) fuel Try.f68 [] 1 slices_symMergeCmpFunc_queue_Item.k 21 [] fuel ((slices_symMergeCmpFunc_queue_Item.s21 recG) l a m b x25 x26 x27)) x18 x19 := by kernel_rfl
    rw [h]
    have e15 : (fun x18 x19 => lp (slices_symMergeCmpFunc_queue_Item_E recG) fuel Try.f68 [] 1 slices_symMergeCmpFunc_queue_Item.k 15 [] k ((slices_symMergeCmpFunc_queue_Item.s15 recG) l a m b x18 x19)) = (slices_symMergeCmpFunc_queue_Item.l15 recG) fuel l a m b k := (funext fun x18 => (funext fun x19 => ih x18 x19))
    rw [e15]
    have e21 : (fun x25 x26 x27 => lp (slices_symMergeCmpFunc_queue_Item_E recG) fuel Try.f68 [] 1 slices_symMergeCmpFunc_queue_Item.k 21 [] fuel ((slices_symMergeCmpFunc_queue_Item.s21 recG) l a m b x25 x26 x27)) = (slices_symMergeCmpFunc_queue_Item.l21 recG) fuel l a m b fuel := (funext fun x25 => (funext fun x26 => (funext fun x27 => (slices_symMergeCmpFunc_queue_Item.l21_eq recG) fuel l a m b fuel x25 x26 x27)))
    rw [e21]
    rfl
theorem slices_symMergeCmpFunc_queue_Item.l43_eq (recG : List (Int × Int) → Int → Int → Int → Option (List (Int × Int))) (fuel : Nat) (l : List (Int × Int)) (a : Int) (m : Int) (b : Int) : ∀ (k : Nat) (x50 : Int) (x51 : (List (Int × Int))), lp (slices_symMergeCmpFunc_queue_Item_E recG) fuel Try.f68 [] 1 slices_symMergeCmpFunc_queue_Item.k 43 [] k ((slices_symMergeCmpFunc_queue_Item.s43 recG) l a m b x50 x51) = (slices_symMergeCmpFunc_queue_Item.l43 recG) fuel l a m b k x50 x51 := by
  intro k
  induction k with
  | zero => intro x50 x51; rfl
  | succ k ih =>
    intro x50 x51
    have h : lp (slices_symMergeCmpFunc_queue_Item_E recG) fuel Try.f68 [] 1 slices_symMergeCmpFunc_queue_Item.k 43 [] (k + 1) ((slices_symMergeCmpFunc_queue_Item.s43 recG) l a m b x50 x51) = (slices_symMergeCmpFunc_queue_Item.b43 recG) l a m b (fun x50 x51 => lp (slices_symMergeCmpFunc_queue_Item_E recG) fuel Try.f68 [] 1 slices_symMergeCmpFunc_queue_Item.k 43 [] k ((slices_symMergeCmpFunc_queue_Item.s43 recG) l a m b x50 x51)) x50 x51 := by kernel_rfl
    rw [h]
    have e43 : (fun x50 x51 => lp (slices_symMergeCmpFunc_queue_Item_E recG) fuel Try.f68 [] 1 slices_symMergeCmpFunc_queue_Item.k 43 [] k ((slices_symMergeCmpFunc_queue_Item.s43 recG) l a m b x50 x51)) = (slices_symMergeCmpFunc_queue_Item.l43 recG) fuel l a m b k := (funext fun x50 => (funext fun x51 => ih x50 x51))
    rw [e43]
    rfl
theorem slices_symMergeCmpFunc_queue_Item.l41_eq (recG : List (Int × Int) → Int → Int → Int → Option (List (Int × Int))) (fuel : Nat) (l : List (Int × Int)) (a : Int) (m : Int) (b : Int) : ∀ (k : Nat) (x46 : Int) (x47 : Int) (x48 : (List (Int × Int))), lp (slices_symMergeCmpFunc_queue_Item_E recG) fuel Try.f68 [] 1 slices_symMergeCmpFunc_queue_Item.k 41 [] k ((slices_symMergeCmpFunc_queue_Item.s41 recG) l a m b x46 x47 x48) = (slices_symMergeCmpFunc_queue_Item.l41 recG) fuel l a m b k x46 x47 x48 := by
  intro k
  induction k with
  | zero => intro x46 x47 x48; rfl
  | succ k ih =>
    intro x46 x47 x48
    have h : lp (slices_symMergeCmpFunc_queue_Item_E recG) fuel Try.f68 [] 1 slices_symMergeCmpFunc_queue_Item.k 41 [] (k + 1) ((slices_symMergeCmpFunc_queue_Item.s41 recG) l a m b x46 x47 x48) = (slices_symMergeCmpFunc_queue_Item.b41 recG) l a m b (fun x46 x47 x48 => lp (slices_symMergeCmpFunc_queue_Item_E recG) fuel Try.f68 [] 1 slices_symMergeCmpFunc_queue_Item.k 41 [] k ((slices_symMergeCmpFunc_queue_Item.s41 recG) l a m b x46 x47 x48)) (fun x50 x51 => lp (slices_symMergeCmpFunc_queue_Item_E recG) fuel Try.f68 [] 1 slices_symMergeCmpFunc_queue_Item.k 43 [] fuel ((slices_symMergeCmpFunc_queue_Item.s43 recG) l a m b x50 x51)) x46 x47 x48 := by kernel_rfl
    rw [h]
    have e41 : (fun x46 x47 x48 => lp (slices_symMergeCmpFunc_queue_Item_E recG) fuel Try.f68 [] 1 slices_symMergeCmpFunc_queue_Item.k 41 [] k ((slices_symMergeCmpFunc_queue_Item.s41 recG) l a m b x46 x47 x48)) = (slices_symMergeCmpFunc_queue_Item.l41 recG) fuel l a m b k := (funext fun x46 => (funext fun x47 => (funext fun x48 => ih x46 x47 x48)))
    rw [e41]
    have e43 : (fun x50 x51 => lp (slices_symMergeCmpFunc_queue_Item_E recG) fuel Try.f68 [] 1 slices_symMergeCmpFunc_queue_Item.k 43 [] fuel ((slices_symMergeCmpFunc_queue_Item.s43 recG) l a m b x50 x51)) = (slices_symMergeCmpFunc_queue_Item.l43 recG) fuel l a m b fuel := (funext fun x50 => (funext fun x51 => (slices_symMergeCmpFunc_queue_Item.l43_eq recG) fuel l a m b fuel x50 x51))
    rw [e43]
    rfl
theorem slices_symMergeCmpFunc_queue_Item.l33_eq (recG : List (Int × Int) → Int → Int → Int → Option (List (Int × Int))) (fuel : Nat) (l : List (Int × Int)) (a : Int) (m : Int) (b : Int) : ∀ (k : Nat) (x38 : Int) (x39 : Int), lp (slices_symMergeCmpFunc_queue_Item_E recG) fuel Try.f68 [] 1 slices_symMergeCmpFunc_queue_Item.k 33 [] k ((slices_symMergeCmpFunc_queue_Item.s33 recG) l a m b x38 x39) = (slices_symMergeCmpFunc_queue_Item.l33 recG) fuel l a m b k x38 x39 := by
  intro k
  induction k with
  | zero => intro x38 x39; rfl
  | succ k ih =>
    intro x38 x39
    have h : lp (slices_symMergeCmpFunc_queue_Item_E recG) fuel Try.f68 [] 1 slices_symMergeCmpFunc_queue_Item.k 33 [] (k + 1) ((slices_symMergeCmpFunc_queue_Item.s33 recG) l a m b x38 x39) = (slices_symMergeCmpFunc_queue_Item.b33 recG) l a m b (fun x38 x39 => lp (slices_symMergeCmpFunc_queue_Item_E recG) fuel Try.f68 [] 1 slices_symMergeCmpFunc_queue_Item.k 33 [] k ((slices_symMergeCmpFunc_queue_Item.s33 recG) l a m b x38 x39)) (fun x46 x47 x48 => lp (slices_symMergeCmpFunc_queue_Item_E recG) fuel Try.f68 [] 1 slices_symMergeCmpFunc_queue_Item.k 41 [] fuel ((slices_symMergeCmpFunc_queue_Item.s41 recG) l a m b x46 x47 x48)) x38 x39 := by kernel_rfl
    rw [h]
    have e33 : (fun x38 x39 => lp (slices_symMergeCmpFunc_queue_Item_E recG) fuel Try.f68 [] 1 slices_symMergeCmpFunc_queue_Item.k 33 [] k ((slices_symMergeCmpFunc_queue_Item.s33 recG) l a m b x38 x39)) = (slices_symMergeCmpFunc_queue_Item.l33 recG) fuel l a m b k := (funext fun x38 => (funext fun x39 => ih x38 x39))
    rw [e33]
    have e41 : (fun x46 x47 x48 => lp (slices_symMergeCmpFunc_queue_Item_E recG) fuel Try.f68 [] 1 slices_symMergeCmpFunc_queue_Item.k 41 [] fuel ((slices_symMergeCmpFunc_queue_Item.s41 recG) l a m b x46 x47 x48)) = (slices_symMergeCmpFunc_queue_Item.l41 recG) fuel l a m b fuel := (funext fun x46 => (funext fun x47 => (funext fun x48 => (slices_symMergeCmpFunc_queue_Item.l41_eq recG) fuel l a m b fuel x46 x47 x48)))
    rw [e41]
    rfl
theorem slices_symMergeCmpFunc_queue_Item.l32_eq (recG : List (Int × Int) → Int → Int → Int → Option (List (Int × Int))) (fuel : Nat) (l : List (Int × Int)) (a : Int) (m : Int) (b : Int) : ∀ (k : Nat) (x36 : Int) (x37 : Int), lp (slices_symMergeCmpFunc_queue_Item_E recG) fuel Try.f68 [] 1 slices_symMergeCmpFunc_queue_Item.k 32 [] k ((slices_symMergeCmpFunc_queue_Item.s32 recG) l a m b x36 x37) = (slices_symMergeCmpFunc_queue_Item.l32 recG) fuel l a m b k x36 x37 := by
  intro k
  induction k with
  | zero => intro x36 x37; rfl
  | succ k ih =>
    intro x36 x37
    have h : lp (slices_symMergeCmpFunc_queue_Item_E recG) fuel Try.f68 [] 1 slices_symMergeCmpFunc_queue_Item.k 32 [] (k + 1) ((slices_symMergeCmpFunc_queue_Item.s32 recG) l a m b x36 x37) = (slices_symMergeCmpFunc_queue_Item.b32 recG) l a m b (fun x36 x37 => lp (slices_symMergeCmpFunc_queue_Item_E recG) fuel Try.f68 [] 1 slices_symMergeCmpFunc_queue_Item.k 32 [] k ((slices_symMergeCmpFunc_queue_Item.s32 recG) l a m b x36 x37)) (fun x38 x39 => lp (slices_symMergeCmpFunc_queue_Item_E recG) fuel Try.f68 [] 1 slices_symMergeCmpFunc_queue_Item.k 33 [] fuel ((slices_symMergeCmpFunc_queue_Item.s33 recG) l a m b x38 x39)) x36 x37 := by kernel_rfl
    rw [h]
    have e32 : (fun x36 x37 => lp (slices_symMergeCmpFunc_queue_Item_E recG) fuel Try.f68 [] 1 slices_symMergeCmpFunc_queue_Item.k 32 [] k ((slices_symMergeCmpFunc_queue_Item.s32 recG) l a m b x36 x37)) = (slices_symMergeCmpFunc_queue_Item.l32 recG) fuel l a m b k := (funext fun x36 => (funext fun x37 => ih x36 x37))
    rw [e32]
    have e33 : (fun x38 x39 => lp (slices_symMergeCmpFunc_queue_Item_E recG) fuel Try.f68 [] 1 slices_symMergeCmpFunc_queue_Item.k 33 [] fuel ((slices_symMergeCmpFunc_queue_Item.s33 recG) l a m b x38 x39)) = (slices_symMergeCmpFunc_queue_Item.l33 recG) fuel l a m b fuel := (funext fun x38 => (funext fun x39 => (slices_symMergeCmpFunc_queue_Item.l33_eq recG) fuel l a m b fuel x38 x39))
    rw [e33]
    rfl
theorem slices_symMergeCmpFunc_queue_Item.eq (recG : List (Int × Int) → Int → Int → Int → Option (List (Int × Int))) (fuel : Nat) (l : List (Int × Int)) (a : Int) (m : Int) (b : Int) : (denF (slices_symMergeCmpFunc_queue_Item_E recG) loopN fuel Try.f68 [] [.row 0, .d (.int .i64) a, .d (.int .i64) m, .d (.int .i64) b, .fn (.func 50) [] []] [.row 47 (.pair (.int .i64) (.int .i64)) l false] slices_symMergeCmpFunc_queue_Item.k) = (slices_symMergeCmpFunc_queue_Item.f recG) fuel l a m b := by
  have h : (denF (slices_symMergeCmpFunc_queue_Item_E recG) loopN fuel Try.f68 [] [.row 0, .d (.int .i64) a, .d (.int .i64) m, .d (.int .i64) b, .fn (.func 50) [] []] [.row 47 (.pair (.int .i64) (.int .i64)) l false] slices_symMergeCmpFunc_queue_Item.k) = (slices_symMergeCmpFunc_queue_Item.b recG) l a m b (fun x0 x1 => lp (slices_symMergeCmpFunc_queue_Item_E recG) fuel Try.f68 [] 1 slices_symMergeCmpFunc_queue_Item.k 3 [] fuel ((slices_symMergeCmpFunc_queue_Item.s3 recG) l a m b x0 x1)) (fun x18 x19 => lp (slices_symMergeCmpFunc_queue_Item_E recG) fuel Try.f68 [] 1 slices_symMergeCmpFunc_queue_Item.k 15 [] fuel ((slices_symMergeCmpFunc_queue_Item.s15 recG) l a m b x18 x19)) (fun x36 x37 => lp (slices_symMergeCmpFunc_queue_Item_E recG) fuel Try.f68 [] 1 slices_symMergeCmpFunc_queue_Item.k 32 [] fuel ((slices_symMergeCmpFunc_queue_Item.s32 recG) l a m b x36 x37)) := by kernel_rfl
  rw [h]
  have e3 : (fun x0 x1 => lp (slices_symMergeCmpFunc_queue_Item_E recG) fuel Try.f68 [] 1 slices_symMergeCmpFunc_queue_Item.k 3 [] fuel ((slices_symMergeCmpFunc_queue_Item.s3 recG) l a m b x0 x1)) = (slices_symMergeCmpFunc_queue_Item.l3 recG) fuel l a m b fuel := (funext fun x0 => (funext fun x1 => (slices_symMergeCmpFunc_queue_Item.l3_eq recG) fuel l a m b fuel x0 x1))
  rw [e3]
  have e15 : (fun x18 x19 => lp (slices_symMergeCmpFunc_queue_Item_E recG) fuel Try.f68 [] 1 slices_symMergeCmpFunc_queue_Item.k 15 [] fuel ((slices_symMergeCmpFunc_queue_Item.s15 recG) l a m b x18 x19)) = (slices_symMergeCmpFunc_queue_Item.l15 recG) fuel l a m b fuel := (funext fun x18 => (funext fun x19 => (slices_symMergeCmpFunc_queue_Item.l15_eq recG) fuel l a m b fuel x18 x19))
  rw [e15]
  have e32 : (fun x36 x37 => lp (slices_symMergeCmpFunc_queue_Item_E recG) fuel Try.f68 [] 1 slices_symMergeCmpFunc_queue_Item.k 32 [] fuel ((slices_symMergeCmpFunc_queue_Item.s32 recG) l a m b x36 x37)) = (slices_symMergeCmpFunc_queue_Item.l32 recG) fuel l a m b fuel := (funext fun x36 => (funext fun x37 => (slices_symMergeCmpFunc_queue_Item.l32_eq recG) fuel l a m b fuel x36 x37))
  rw [e32]
  rfl
theorem slices_symMergeCmpFunc_queue_Item.l9_at (recG : List (Int × Int) → Int → Int → Int → Option (List (Int × Int))) (fuel nN kK : Nat) (hN : nN = kK + 1) (l : List (Int × Int)) (a : Int) (m : Int) (b : Int) (x7 : Int) (x8 : Int) (x9 : (List (Int × Int))) : (slices_symMergeCmpFunc_queue_Item.l9 recG) fuel l a m b nN x7 x8 x9 = (slices_symMergeCmpFunc_queue_Item.b9 recG) l a m b ((slices_symMergeCmpFunc_queue_Item.l9 recG) fuel l a m b kK) x7 x8 x9 := by
  subst hN
  rfl
theorem slices_symMergeCmpFunc_queue_Item.l3_at (recG : List (Int × Int) → Int → Int → Int → Option (List (Int × Int))) (fuel nN kK : Nat) (hN : nN = kK + 1) (l : List (Int × Int)) (a : Int) (m : Int) (b : Int) (x0 : Int) (x1 : Int) : (slices_symMergeCmpFunc_queue_Item.l3 recG) fuel l a m b nN x0 x1 = (slices_symMergeCmpFunc_queue_Item.b3 recG) l a m b ((slices_symMergeCmpFunc_queue_Item.l3 recG) fuel l a m b kK) ((slices_symMergeCmpFunc_queue_Item.l9 recG) fuel l a m b fuel) x0 x1 := by
  subst hN
  rfl
theorem slices_symMergeCmpFunc_queue_Item.l21_at (recG : List (Int × Int) → Int → Int → Int → Option (List (Int × Int))) (fuel nN kK : Nat) (hN : nN = kK + 1) (l : List (Int × Int)) (a : Int) (m : Int) (b : Int) (x25 : Int) (x26 : Int) (x27 : (List (Int × Int))) : (slices_symMergeCmpFunc_queue_Item.l21 recG) fuel l a m b nN x25 x26 x27 = (slices_symMergeCmpFunc_queue_Item.b21 recG) l a m b ((slices_symMergeCmpFunc_queue_Item.l21 recG) fuel l a m b kK) x25 x26 x27 := by
  subst hN
  rfl
theorem slices_symMergeCmpFunc_queue_Item.l15_at (recG : List (Int × Int) → Int → Int → Int → Option (List (Int × Int))) (fuel nN kK : Nat) (hN : nN = kK + 1) (l : List (Int × Int)) (a : Int) (m : Int) (b : Int) (x18 : Int) (x19 : Int) : (slices_symMergeCmpFunc_queue_Item.l15 recG) fuel l a m b nN x18 x19 = (slices_symMergeCmpFunc_queue_Item.b15 recG) l a m b ((slices_symMergeCmpFunc_queue_Item.l15 recG) fuel l a m b kK) ((slices_symMergeCmpFunc_queue_Item.l21 recG) fuel l a m b fuel) x18 x19 := by
  subst hN
  rfl
theorem slices_symMergeCmpFunc_queue_Item.l43_at (recG : List (Int × Int) → Int → Int → Int → Option (List (Int × Int))) (fuel nN kK : Nat) (hN : nN = kK + 1) (l : List (Int × Int)) (a : Int) (m : Int) (b : Int) (x50 : Int) (x51 : (List (Int × Int))) : (slices_symMergeCmpFunc_queue_Item.l43 recG) fuel l a m b nN x50 x51 = (slices_symMergeCmpFunc_queue_Item.b43 recG) l a m b ((slices_symMergeCmpFunc_queue_Item.l43 recG) fuel l a m b kK) x50 x51 := by
  subst hN
  rfl
theorem slices_symMergeCmpFunc_queue_Item.l41_at (recG : List (Int × Int) → Int → Int → Int → Option (List (Int × Int))) (fuel nN kK : Nat) (hN : nN = kK + 1) (l : List (Int × Int)) (a : Int) (m : Int) (b : Int) (x46 : Int) (x47 : Int) (x48 : (List (Int × Int))) : (slices_symMergeCmpFunc_queue_Item.l41 recG) fuel l a m b nN x46 x47 x48 = (slices_symMergeCmpFunc_queue_Item.b41 recG) l a m b ((slices_symMergeCmpFunc_queue_Item.l41 recG) fuel l a m b kK) ((slices_symMergeCmpFunc_queue_Item.l43 recG) fuel l a m b fuel) x46 x47 x48 := by
  subst hN
  rfl
theorem slices_symMergeCmpFunc_queue_Item.l33_at (recG : List (Int × Int) → Int → Int → Int → Option (List (Int × Int))) (fuel nN kK : Nat) (hN : nN = kK + 1) (l : List (Int × Int)) (a : Int) (m : Int) (b : Int) (x38 : Int) (x39 : Int) : (slices_symMergeCmpFunc_queue_Item.l33 recG) fuel l a m b nN x38 x39 = (slices_symMergeCmpFunc_queue_Item.b33 recG) l a m b ((slices_symMergeCmpFunc_queue_Item.l33 recG) fuel l a m b kK) ((slices_symMergeCmpFunc_queue_Item.l41 recG) fuel l a m b fuel) x38 x39 := by
  subst hN
  rfl
theorem slices_symMergeCmpFunc_queue_Item.l32_at (recG : List (Int × Int) → Int → Int → Int → Option (List (Int × Int))) (fuel nN kK : Nat) (hN : nN = kK + 1) (l : List (Int × Int)) (a : Int) (m : Int) (b : Int) (x36 : Int) (x37 : Int) : (slices_symMergeCmpFunc_queue_Item.l32 recG) fuel l a m b nN x36 x37 = (slices_symMergeCmpFunc_queue_Item.b32 recG) l a m b ((slices_symMergeCmpFunc_queue_Item.l32 recG) fuel l a m b kK) ((slices_symMergeCmpFunc_queue_Item.l33 recG) fuel l a m b fuel) x36 x37 := by
  subst hN
  rfl
theorem s_slices_symMergeCmpFunc_queue_Itemr_step (recG : List (Int × Int) → Int → Int → Int → Option (List (Int × Int))) (hG : SumOk Try.prog 68 (s_slices_symMergeCmpFunc_queue_Itemr recG)) : SumOk Try.prog 68 (s_slices_symMergeCmpFunc_queue_Itemr (fun l a m b => slices_symMergeCmpFunc_queue_Item.f recG BIG l a m b)) := by
  have hE : EnvOk Try.prog (slices_symMergeCmpFunc_queue_Item_E recG) := env_ok (l := [(50, s_queue_Queue_All_c1), (71, s_slices_rotateCmpFunc_queue_Item), (68, s_slices_symMergeCmpFunc_queue_Itemr recG)]) th_ok any_ok ⟨⟨s_queue_Queue_All_c1_ok, s_queue_Queue_All_c1_det⟩, ⟨s_slices_rotateCmpFunc_queue_Item_ok, s_slices_rotateCmpFunc_queue_Item_det⟩, ⟨hG, s_slices_symMergeCmpFunc_queue_Itemr_det recG⟩, trivial⟩ _
  refine sum_ok hE Try.func68 rfl (by kernel_rfl) (s_slices_symMergeCmpFunc_queue_Itemr (fun l a m b => slices_symMergeCmpFunc_queue_Item.f recG BIG l a m b)) [] slices_symMergeCmpFunc_queue_Item.k ?_
  intro R avs objs κ r h
  unfold s_slices_symMergeCmpFunc_queue_Itemr at h
  simp only [veil_eq] at h
  split at h
  · rename_i a m b l
    split at h
    · cases h
    · rename_i y hy
      refine ⟨BIG, _, _, _, (slices_symMergeCmpFunc_queue_Item.eq recG BIG l a m b).trans hy, ?_, h⟩
      intro rs ros hk
      unfold slices_symMergeCmpFunc_queue_Item.k at hk
      split at hk
      · first | (cases hk; exact ⟨rfl, rfl⟩) | (have e := Option.some.inj hk; rw [← e]; exact ⟨rfl, rfl⟩)
      · cases hk
  · cases h
noncomputable def slices_symMergeCmpFunc_queue_Item.it : Nat → (List (Int × Int) → Int → Int → Int → Option (List (Int × Int)))
  | 0 => fun _ _ _ _ => none
  | k + 1 => fun l a m b => slices_symMergeCmpFunc_queue_Item.f (slices_symMergeCmpFunc_queue_Item.it k) BIG l a m b
theorem slices_symMergeCmpFunc_queue_Item.it_ok : ∀ k, SumOk Try.prog 68 (s_slices_symMergeCmpFunc_queue_Itemr (slices_symMergeCmpFunc_queue_Item.it k))
  | 0 => ⟨⟨_, _, Try.func68, rfl, by kernel_rfl⟩, fun avs objs κ r h => by
    unfold s_slices_symMergeCmpFunc_queue_Itemr slices_symMergeCmpFunc_queue_Item.it at h
    simp only [veil_eq] at h
    split at h <;> cases h⟩
  | k + 1 => s_slices_symMergeCmpFunc_queue_Itemr_step (slices_symMergeCmpFunc_queue_Item.it k) (slices_symMergeCmpFunc_queue_Item.it_ok k)
noncomputable def s_slices_symMergeCmpFunc_queue_Item : Den.Sum := s_slices_symMergeCmpFunc_queue_Itemr (slices_symMergeCmpFunc_queue_Item.it 64)
theorem s_slices_symMergeCmpFunc_queue_Item_det : SumDet s_slices_symMergeCmpFunc_queue_Item := s_slices_symMergeCmpFunc_queue_Itemr_det _
theorem s_slices_symMergeCmpFunc_queue_Item_ok : SumOk Try.prog 68 s_slices_symMergeCmpFunc_queue_Item := slices_symMergeCmpFunc_queue_Item.it_ok 64
noncomputable def law22_order_E : Env := ⟨th, gam [(44, s_law22_bestR)], fun i => if i = 4 then ⟨[0, 1, 5, 6, 7], [(6, 3, (.int .i64))], []⟩ else ⟨[], [], []⟩⟩
noncomputable def law22_order.k (rs : List AV) (os : List Den.Obj) : Option (List Int) :=
  match rs, os with
  | [.row 0], [.row 3 (.int .i64) r0 false] => some r0
  | _, _ => none
noncomputable def law22_order.s4 (l : List (Int × Int)) (but : Int) (x0 : Int) (x1 : (List Bool)) (x2 : (List Int)) : St := ⟨[.d (.sl (.pair (.int .i64) (.int .i64))) (l), .d (.int .i64) (but), .dead, .dead, .dead, .row 64, .row 65, .d (.int .i64) x0, .dead, .dead, .dead, .dead, .dead, .dead, .dead, .dead, .dead, .dead, .dead, .dead, .dead, .dead, .dead, .dead, .dead, .dead, .dead, .dead, .dead, .dead, .dead, .dead], ofL [(64, .row 4 .bool x1 false), (65, .row 3 (.int .i64) x2 false)], 0⟩
noncomputable def law22_order.b4 (l : List (Int × Int)) (but : Int) (A4 : Int → (List Bool) → (List Int) → Option (List Int)) (x0 : Int) (x1 : (List Bool)) (x2 : (List Int)) : Option (List Int) :=
  (if (decide (x0 < ((((List.length l)) : Nat) : Int))) then (match (veil (law22_bestR.f BIG l x1 but)) with | none => none | some y3 => (if (decide (y3.1 ≥ (0 : Int))) then (match (idx y3.2 y3.1) with | none => none | some y4 => (match (idx y3.2 y3.1) with | none => none | some y5 => (if ((((List.length x2) + (List.length (y3.1 :: ([] : List Int)))) * (8 : Nat)) ≤ lim) then A4 (Go.IntKind.wrap .i64 (x0 + (1 : Int))) (List.set y3.2 (Int.toNat y3.1) true) (x2 ++ (y3.1 :: ([] : List Int))) else none))) else A4 (Go.IntKind.wrap .i64 (x0 + (1 : Int))) y3.2 x2)) else some (x2))
noncomputable def law22_order.l4 (fuel : Nat) (l : List (Int × Int)) (but : Int) : Nat → Int → (List Bool) → (List Int) → Option (List Int)
  | 0, _, _, _ => none
  | k + 1, x0, x1, x2 => law22_order.b4 l but (law22_order.l4 fuel l but k) x0 x1 x2
noncomputable def law22_order.b (l : List (Int × Int)) (but : Int) (E4 : Int → (List Bool) → (List Int) → Option (List Int)) : Option (List Int) :=
  (if (((0 : Int) ≤ ((((List.length l)) : Nat) : Int)) ∧ ((((((List.length l)) : Nat) : Int) ≤ ((((List.length l)) : Nat) : Int)) ∧ (((((((List.length l)) : Nat) : Int) * ((((1 : Nat)) : Nat) : Int)) ≤ (1099511627776 : Int)) ∧ (((((List.length l)) : Nat) : Int) ≤ (1099511627776 : Int))))) then E4 (0 : Int) (List.replicate (Int.toNat ((((List.length l)) : Nat) : Int)) (zeroI Go.Den.Ty.bool)) ([] : List Int) else none)
noncomputable def law22_order.f (fuel : Nat) (l : List (Int × Int)) (but : Int) : Option (List Int) := law22_order.b l but (law22_order.l4 fuel l but fuel)
theorem law22_order.l4_eq (fuel : Nat) (l : List (Int × Int)) (but : Int) : ∀ (k : Nat) (x0 : Int) (x1 : (List Bool)) (x2 : (List Int)), lp law22_order_E fuel Try.f20 [.own 3 (.int .i64)] 0 law22_order.k 4 [] k (law22_order.s4 l but x0 x1 x2) = law22_order.l4 fuel l but k x0 x1 x2 := by
  intro k
  induction k with
  | zero => intro x0 x1 x2; rfl
  | succ k ih =>
    intro x0 x1 x2
    have h : lp law22_order_E fuel Try.f20 [.own 3 (.int .i64)] 0 law22_order.k 4 [] (k + 1) (law22_order.s4 l but x0 x1 x2) = law22_order.b4 l but (fun x0 x1 x2 => lp law22_order_E fuel Try.f20 [.own 3 (.int .i64)] 0 law22_order.k 4 [] k (law22_order.s4 l but x0 x1 x2)) x0 x1 x2 := by kernel_rfl
    rw [h]
    have e4 : (fun x0 x1 x2 => lp law22_order_E fuel Try.f20 [.own 3 (.int .i64)] 0 law22_order.k 4 [] k (law22_order.s4 l but x0 x1 x2)) = law22_order.l4 fuel l but k := (funext fun x0 => (funext fun x1 => (funext fun x2 => ih x0 x1 x2)))
    rw [e4]
    rfl
theorem law22_order.eq (fuel : Nat) (l : List (Int × Int)) (but : Int) : (denF law22_order_E loopN fuel Try.f20 [.own 3 (.int .i64)] [.d (.sl (.pair (.int .i64) (.int .i64))) l, .d (.int .i64) but] [] law22_order.k) = law22_order.f fuel l but := by
  have h : (denF law22_order_E loopN fuel Try.f20 [.own 3 (.int .i64)] [.d (.sl (.pair (.int .i64) (.int .i64))) l, .d (.int .i64) but] [] law22_order.k) = law22_order.b l but (fun x0 x1 x2 => lp law22_order_E fuel Try.f20 [.own 3 (.int .i64)] 0 law22_order.k 4 [] fuel (law22_order.s4 l but x0 x1 x2)) := by kernel_rfl
  rw [h]
  have e4 : (fun x0 x1 x2 => lp law22_order_E fuel Try.f20 [.own 3 (.int .i64)] 0 law22_order.k 4 [] fuel (law22_order.s4 l but x0 x1 x2)) = law22_order.l4 fuel l but fuel := (funext fun x0 => (funext fun x1 => (funext fun x2 => law22_order.l4_eq fuel l but fuel x0 x1 x2)))
  rw [e4]
  rfl
theorem law22_order.l4_at (fuel nN kK : Nat) (hN : nN = kK + 1) (l : List (Int × Int)) (but : Int) (x0 : Int) (x1 : (List Bool)) (x2 : (List Int)) : law22_order.l4 fuel l but nN x0 x1 x2 = law22_order.b4 l but (law22_order.l4 fuel l but kK) x0 x1 x2 := by
  subst hN
  rfl
noncomputable def s_law22_order : Den.Sum := ⟨[.dat (.sl (.pair (.int .i64) (.int .i64))) false, .raw], fun args objs κ => match args, objs with
  | [.d (.sl (.pair (.int .i64) (.int .i64))) l, .d (.int .i64) but], [] => (match veil (law22_order.f BIG l but) with | none => none | some y => κ [.row 0] [.row 3 (.int .i64) y false])
  | _, _ => none⟩
theorem s_law22_order_det : SumDet s_law22_order := fun avs objs R κ => by
  show s_law22_order.run avs objs (two κ) = (s_law22_order.run avs objs (two some)).bind κ
  unfold s_law22_order
  simp only [veil_eq]
  split
  · split <;> rfl
  · rfl
theorem s_law22_order_ok : SumOk Try.prog 20 s_law22_order := by
  have hE : EnvOk Try.prog law22_order_E := env_ok (l := [(44, s_law22_bestR)]) th_ok any_ok ⟨⟨s_law22_bestR_ok, s_law22_bestR_det⟩, trivial⟩ _
  refine sum_ok hE Try.func20 rfl (by kernel_rfl) s_law22_order [.own 3 (.int .i64)] law22_order.k ?_
  intro R avs objs κ r h
  unfold s_law22_order at h
  simp only [veil_eq] at h
  split at h
  · rename_i l but
    split at h
    · cases h
    · rename_i y hy
      refine ⟨BIG, _, _, _, (law22_order.eq BIG l but).trans hy, ?_, h⟩
      intro rs ros hk
      unfold law22_order.k at hk
      split at hk
      · first | (cases hk; exact ⟨rfl, rfl⟩) | (have e := Option.some.inj hk; rw [← e]; exact ⟨rfl, rfl⟩)
      · cases hk
  · cases h
noncomputable def slices_IndexFunc_queue_Item_queue_Item_drop_E : Env := ⟨th, gam [(43, s_queue_Queue_Drop_c1)], fun i => if i = 2 then ⟨[0, 1, 7, 8], [], []⟩ else ⟨[], [], []⟩⟩
noncomputable def slices_IndexFunc_queue_Item_queue_Item_drop.k (rs : List AV) (os : List Den.Obj) : Option (Int × (List (Int × Int)) × Int) :=
  match rs, os with
  | [.d (.int .i64) r0], [.row 47 (.pair (.int .i64) (.int .i64)) r1 false, .box [.d (.int .i64) r2]] => some (r0, r1, r2)
  | _, _ => none
noncomputable def slices_IndexFunc_queue_Item_queue_Item_drop.s2 (s : List (Int × Int)) (id0 : Int) (x0 : Int) (x1 : Int) (x2 : Int) : St := ⟨[.row 0, .fn (.func 43) [] [.ptr 1 0], .dead, .dead, .dead, .dead, .dead, .d (.int .i64) x0, .d (.int .i64) x1, .dead, .dead, .dead, .dead, .dead, .dead, .dead, .dead, .dead, .dead], ofL [(0, .row 47 (.pair (.int .i64) (.int .i64)) (s) false), (1, .box [.d (.int .i64) x2])], 2⟩
noncomputable def slices_IndexFunc_queue_Item_queue_Item_drop.b2 (s : List (Int × Int)) (id0 : Int) (A2 : Int → Int → Int → Option (Int × (List (Int × Int)) × Int)) (x0 : Int) (x1 : Int) (x2 : Int) : Option (Int × (List (Int × Int)) × Int) :=
  (if (decide (x1 < x0)) then (match (idx s x1) with | none => none | some y3 => (match (idx s x1) with | none => none | some y4 => (match (veil (queue_Queue_Drop_c1.f BIG y4.1 y4.2 x2)) with | none => none | some y5 => (if y5.1 then some (x1, s, y5.2) else A2 x0 (Go.IntKind.wrap .i64 (x1 + (1 : Int))) y5.2)))) else some ((-(1 : Int)), s, x2))
noncomputable def slices_IndexFunc_queue_Item_queue_Item_drop.l2 (fuel : Nat) (s : List (Int × Int)) (id0 : Int) : Nat → Int → Int → Int → Option (Int × (List (Int × Int)) × Int)
  | 0, _, _, _ => none
  | k + 1, x0, x1, x2 => slices_IndexFunc_queue_Item_queue_Item_drop.b2 s id0 (slices_IndexFunc_queue_Item_queue_Item_drop.l2 fuel s id0 k) x0 x1 x2
noncomputable def slices_IndexFunc_queue_Item_queue_Item_drop.b (s : List (Int × Int)) (id0 : Int) (E2 : Int → Int → Int → Option (Int × (List (Int × Int)) × Int)) : Option (Int × (List (Int × Int)) × Int) :=
  E2 ((((List.length s)) : Nat) : Int) (0 : Int) id0
noncomputable def slices_IndexFunc_queue_Item_queue_Item_drop.f (fuel : Nat) (s : List (Int × Int)) (id0 : Int) : Option (Int × (List (Int × Int)) × Int) := slices_IndexFunc_queue_Item_queue_Item_drop.b s id0 (slices_IndexFunc_queue_Item_queue_Item_drop.l2 fuel s id0 fuel)
theorem slices_IndexFunc_queue_Item_queue_Item_drop.l2_eq (fuel : Nat) (s : List (Int × Int)) (id0 : Int) : ∀ (k : Nat) (x0 : Int) (x1 : Int) (x2 : Int), lp slices_IndexFunc_queue_Item_queue_Item_drop_E fuel Try.f60 [.raw] 2 slices_IndexFunc_queue_Item_queue_Item_drop.k 2 [] k (slices_IndexFunc_queue_Item_queue_Item_drop.s2 s id0 x0 x1 x2) = slices_IndexFunc_queue_Item_queue_Item_drop.l2 fuel s id0 k x0 x1 x2 := by
  intro k
  induction k with
  | zero => intro x0 x1 x2; rfl
  | succ k ih =>
    intro x0 x1 x2
    have h : lp slices_IndexFunc_queue_Item_queue_Item_drop_E fuel Try.f60 [.raw] 2 slices_IndexFunc_queue_Item_queue_Item_drop.k 2 [] (k + 1) (slices_IndexFunc_queue_Item_queue_Item_drop.s2 s id0 x0 x1 x2) = slices_IndexFunc_queue_Item_queue_Item_drop.b2 s id0 (fun x0 x1 x2 => lp slices_IndexFunc_queue_Item_queue_Item_drop_E fuel Try.f60 [.raw] 2 slices_IndexFunc_queue_Item_queue_Item_drop.k 2 [] k (slices_IndexFunc_queue_Item_queue_Item_drop.s2 s id0 x0 x1 x2)) x0 x1 x2 := by kernel_rfl
    rw [h]
    have e2 : (fun x0 x1 x2 => lp slices_IndexFunc_queue_Item_queue_Item_drop_E fuel Try.f60 [.raw] 2 slices_IndexFunc_queue_Item_queue_Item_drop.k 2 [] k (slices_IndexFunc_queue_Item_queue_Item_drop.s2 s id0 x0 x1 x2)) = slices_IndexFunc_queue_Item_queue_Item_drop.l2 fuel s id0 k := (funext fun x0 => (funext fun x1 => (funext fun x2 => ih x0 x1 x2)))
    rw [e2]
    rfl
theorem slices_IndexFunc_queue_Item_queue_Item_drop.eq (fuel : Nat) (s : List (Int × Int)) (id0 : Int) : (denF slices_IndexFunc_queue_Item_queue_Item_drop_E loopN fuel Try.f60 [.raw] [.row 0, .fn (.func 43) [] [.ptr 1 0]] [.row 47 (.pair (.int .i64) (.int .i64)) s false, .box [.d (.int .i64) id0]] slices_IndexFunc_queue_Item_queue_Item_drop.k) = slices_IndexFunc_queue_Item_queue_Item_drop.f fuel s id0 := by
  have h : (denF slices_IndexFunc_queue_Item_queue_Item_drop_E loopN fuel Try.f60 [.raw] [.row 0, .fn (.func 43) [] [.ptr 1 0]] [.row 47 (.pair (.int .i64) (.int .i64)) s false, .box [.d (.int .i64) id0]] slices_IndexFunc_queue_Item_queue_Item_drop.k) = slices_IndexFunc_queue_Item_queue_Item_drop.b s id0 (fun x0 x1 x2 => lp slices_IndexFunc_queue_Item_queue_Item_drop_E fuel Try.f60 [.raw] 2 slices_IndexFunc_queue_Item_queue_Item_drop.k 2 [] fuel (slices_IndexFunc_queue_Item_queue_Item_drop.s2 s id0 x0 x1 x2)) := by kernel_rfl
  rw [h]
  have e2 : (fun x0 x1 x2 => lp slices_IndexFunc_queue_Item_queue_Item_drop_E fuel Try.f60 [.raw] 2 slices_IndexFunc_queue_Item_queue_Item_drop.k 2 [] fuel (slices_IndexFunc_queue_Item_queue_Item_drop.s2 s id0 x0 x1 x2)) = slices_IndexFunc_queue_Item_queue_Item_drop.l2 fuel s id0 fuel := (funext fun x0 => (funext fun x1 => (funext fun x2 => slices_IndexFunc_queue_Item_queue_Item_drop.l2_eq fuel s id0 fuel x0 x1 x2)))
  rw [e2]
  rfl
theorem slices_IndexFunc_queue_Item_queue_Item_drop.l2_at (fuel nN kK : Nat) (hN : nN = kK + 1) (s : List (Int × Int)) (id0 : Int) (x0 : Int) (x1 : Int) (x2 : Int) : slices_IndexFunc_queue_Item_queue_Item_drop.l2 fuel s id0 nN x0 x1 x2 = slices_IndexFunc_queue_Item_queue_Item_drop.b2 s id0 (slices_IndexFunc_queue_Item_queue_Item_drop.l2 fuel s id0 kK) x0 x1 x2 := by
  subst hN
  rfl
noncomputable def s_slices_IndexFunc_queue_Item_queue_Item_drop : Den.Sum := ⟨[.own 47 (.pair (.int .i64) (.int .i64)), .raw], fun args objs κ => match args, objs with
  | [.row 0, .fn (.func 43) [] [.ptr 1 0]], [.row 47 (.pair (.int .i64) (.int .i64)) s false, .box [.d (.int .i64) id0]] => (match veil (slices_IndexFunc_queue_Item_queue_Item_drop.f BIG s id0) with | none => none | some y => κ [.d (.int .i64) y.1] [.row 47 (.pair (.int .i64) (.int .i64)) y.2.1 false, .box [.d (.int .i64) y.2.2]])
  | _, _ => none⟩
theorem s_slices_IndexFunc_queue_Item_queue_Item_drop_det : SumDet s_slices_IndexFunc_queue_Item_queue_Item_drop := fun avs objs R κ => by
  show s_slices_IndexFunc_queue_Item_queue_Item_drop.run avs objs (two κ) = (s_slices_IndexFunc_queue_Item_queue_Item_drop.run avs objs (two some)).bind κ
  unfold s_slices_IndexFunc_queue_Item_queue_Item_drop
  simp only [veil_eq]
  split
  · split <;> rfl
  · rfl
theorem s_slices_IndexFunc_queue_Item_queue_Item_drop_ok : SumOk Try.prog 60 s_slices_IndexFunc_queue_Item_queue_Item_drop := by
  have hE : EnvOk Try.prog slices_IndexFunc_queue_Item_queue_Item_drop_E := env_ok (l := [(43, s_queue_Queue_Drop_c1)]) th_ok any_ok ⟨⟨s_queue_Queue_Drop_c1_ok, s_queue_Queue_Drop_c1_det⟩, trivial⟩ _
  refine sum_ok hE Try.func60 rfl (by kernel_rfl) s_slices_IndexFunc_queue_Item_queue_Item_drop [.raw] slices_IndexFunc_queue_Item_queue_Item_drop.k ?_
  intro R avs objs κ r h
  unfold s_slices_IndexFunc_queue_Item_queue_Item_drop at h
  simp only [veil_eq] at h
  split at h
  · rename_i s id0
    split at h
    · cases h
    · rename_i y hy
      refine ⟨BIG, _, _, _, (slices_IndexFunc_queue_Item_queue_Item_drop.eq BIG s id0).trans hy, ?_, h⟩
      intro rs ros hk
      unfold slices_IndexFunc_queue_Item_queue_Item_drop.k at hk
      split at hk
      · first | (cases hk; exact ⟨rfl, rfl⟩) | (have e := Option.some.inj hk; rw [← e]; exact ⟨rfl, rfl⟩)
      · cases hk
  · cases h
noncomputable def slices_IndexFunc_queue_Item_queue_Item_take_E : Env := ⟨th, gam [(46, s_queue_Queue_Take_c1)], fun i => if i = 2 then ⟨[0, 1, 7, 8], [], []⟩ else ⟨[], [], []⟩⟩
noncomputable def slices_IndexFunc_queue_Item_queue_Item_take.k (rs : List AV) (os : List Den.Obj) : Option (Int × (List (Int × Int)) × (List Int) × Int) :=
  match rs, os with
  | [.d (.int .i64) r0], [.row 47 (.pair (.int .i64) (.int .i64)) r1 false, .box [.row 2], .row 3 (.int .i64) r2 false, .box [.d (.int .i64) r3]] => some (r0, r1, r2, r3)
  | _, _ => none
noncomputable def slices_IndexFunc_queue_Item_queue_Item_take.s2 (s : List (Int × Int)) (out : List Int) (b0 : Int) (x0 : Int) (x1 : Int) (x2 : (List Int)) (x3 : Int) : St := ⟨[.row 0, .fn (.func 46) [] [.ptr 1 0, .ptr 3 0], .dead, .dead, .dead, .dead, .dead, .d (.int .i64) x0, .d (.int .i64) x1, .dead, .dead, .dead, .dead, .dead, .dead, .dead, .dead, .dead, .dead], ofL [(0, .row 47 (.pair (.int .i64) (.int .i64)) (s) false), (1, .box [.row 2]), (2, .row 3 (.int .i64) x2 false), (3, .box [.d (.int .i64) x3])], 4⟩
noncomputable def slices_IndexFunc_queue_Item_queue_Item_take.b2 (s : List (Int × Int)) (out : List Int) (b0 : Int) (A2 : Int → Int → (List Int) → Int → Option (Int × (List (Int × Int)) × (List Int) × Int)) (x0 : Int) (x1 : Int) (x2 : (List Int)) (x3 : Int) : Option (Int × (List (Int × Int)) × (List Int) × Int) :=
  (if (decide (x1 < x0)) then (match (idx s x1) with | none => none | some y4 => (match (idx s x1) with | none => none | some y5 => (match (veil (queue_Queue_Take_c1.f BIG y5.1 y5.2 x2 x3)) with | none => none | some y6 => (if y6.1 then some (x1, s, y6.2.1, y6.2.2) else A2 x0 (Go.IntKind.wrap .i64 (x1 + (1 : Int))) y6.2.1 y6.2.2)))) else some ((-(1 : Int)), s, x2, x3))
noncomputable def slices_IndexFunc_queue_Item_queue_Item_take.l2 (fuel : Nat) (s : List (Int × Int)) (out : List Int) (b0 : Int) : Nat → Int → Int → (List Int) → Int → Option (Int × (List (Int × Int)) × (List Int) × Int)
  | 0, _, _, _, _ => none
  | k + 1, x0, x1, x2, x3 => slices_IndexFunc_queue_Item_queue_Item_take.b2 s out b0 (slices_IndexFunc_queue_Item_queue_Item_take.l2 fuel s out b0 k) x0 x1 x2 x3
noncomputable def slices_IndexFunc_queue_Item_queue_Item_take.b (s : List (Int × Int)) (out : List Int) (b0 : Int) (E2 : Int → Int → (List Int) → Int → Option (Int × (List (Int × Int)) × (List Int) × Int)) : Option (Int × (List (Int × Int)) × (List Int) × Int) :=
  E2 ((((List.length s)) : Nat) : Int) (0 : Int) out b0
noncomputable def slices_IndexFunc_queue_Item_queue_Item_take.f (fuel : Nat) (s : List (Int × Int)) (out : List Int) (b0 : Int) : Option (Int × (List (Int × Int)) × (List Int) × Int) := slices_IndexFunc_queue_Item_queue_Item_take.b s out b0 (slices_IndexFunc_queue_Item_queue_Item_take.l2 fuel s out b0 fuel)
theorem slices_IndexFunc_queue_Item_queue_Item_take.l2_eq (fuel : Nat) (s : List (Int × Int)) (out : List Int) (b0 : Int) : ∀ (k : Nat) (x0 : Int) (x1 : Int) (x2 : (List Int)) (x3 : Int), lp slices_IndexFunc_queue_Item_queue_Item_take_E fuel Try.f60 [.raw] 4 slices_IndexFunc_queue_Item_queue_Item_take.k 2 [] k (slices_IndexFunc_queue_Item_queue_Item_take.s2 s out b0 x0 x1 x2 x3) = slices_IndexFunc_queue_Item_queue_Item_take.l2 fuel s out b0 k x0 x1 x2 x3 := by
  intro k
  induction k with
  | zero => intro x0 x1 x2 x3; rfl
  | succ k ih =>
    intro x0 x1 x2 x3
    have h : lp slices_IndexFunc_queue_Item_queue_Item_take_E fuel Try.f60 [.raw] 4 slices_IndexFunc_queue_Item_queue_Item_take.k 2 [] (k + 1) (slices_IndexFunc_queue_Item_queue_Item_take.s2 s out b0 x0 x1 x2 x3) = slices_IndexFunc_queue_Item_queue_Item_take.b2 s out b0 (fun x0 x1 x2 x3 => lp slices_IndexFunc_queue_Item_queue_Item_take_E fuel Try.f60 [.raw] 4 slices_IndexFunc_queue_Item_queue_Item_take.k 2 [] k (slices_IndexFunc_queue_Item_queue_Item_take.s2 s out b0 x0 x1 x2 x3)) x0 x1 x2 x3 := by kernel_rfl
    rw [h]
    have e2 : (fun x0 x1 x2 x3 => lp slices_IndexFunc_queue_Item_queue_Item_take_E fuel Try.f60 [.raw] 4 slices_IndexFunc_queue_Item_queue_Item_take.k 2 [] k (slices_IndexFunc_queue_Item_queue_Item_take.s2 s out b0 x0 x1 x2 x3)) = slices_IndexFunc_queue_Item_queue_Item_take.l2 fuel s out b0 k := (funext fun x0 => (funext fun x1 => (funext fun x2 => (funext fun x3 => ih x0 x1 x2 x3))))
    rw [e2]
    rfl
theorem slices_IndexFunc_queue_Item_queue_Item_take.eq (fuel : Nat) (s : List (Int × Int)) (out : List Int) (b0 : Int) : (denF slices_IndexFunc_queue_Item_queue_Item_take_E loopN fuel Try.f60 [.raw] [.row 0, .fn (.func 46) [] [.ptr 1 0, .ptr 3 0]] [.row 47 (.pair (.int .i64) (.int .i64)) s false, .box [.row 2], .row 3 (.int .i64) out false, .box [.d (.int .i64) b0]] slices_IndexFunc_queue_Item_queue_Item_take.k) = slices_IndexFunc_queue_Item_queue_Item_take.f fuel s out b0 := by
  have h : (denF slices_IndexFunc_queue_Item_queue_Item_take_E loopN fuel Try.f60 [.raw] [.row 0, .fn (.func 46) [] [.ptr 1 0, .ptr 3 0]] [.row 47 (.pair (.int .i64) (.int .i64)) s false, .box [.row 2], .row 3 (.int .i64) out false, .box [.d (.int .i64) b0]] slices_IndexFunc_queue_Item_queue_Item_take.k) = slices_IndexFunc_queue_Item_queue_Item_take.b s out b0 (fun x0 x1 x2 x3 => lp slices_IndexFunc_queue_Item_queue_Item_take_E fuel Try.f60 [.raw] 4 slices_IndexFunc_queue_Item_queue_Item_take.k 2 [] fuel (slices_IndexFunc_queue_Item_queue_Item_take.s2 s out b0 x0 x1 x2 x3)) := by kernel_rfl
  rw [h]
  have e2 : (fun x0 x1 x2 x3 => lp slices_IndexFunc_queue_Item_queue_Item_take_E fuel Try.f60 [.raw] 4 slices_IndexFunc_queue_Item_queue_Item_take.k 2 [] fuel (slices_IndexFunc_queue_Item_queue_Item_take.s2 s out b0 x0 x1 x2 x3)) = slices_IndexFunc_queue_Item_queue_Item_take.l2 fuel s out b0 fuel := (funext fun x0 => (funext fun x1 => (funext fun x2 => (funext fun x3 => slices_IndexFunc_queue_Item_queue_Item_take.l2_eq fuel s out b0 fuel x0 x1 x2 x3))))
  rw [e2]
  rfl
theorem slices_IndexFunc_queue_Item_queue_Item_take.l2_at (fuel nN kK : Nat) (hN : nN = kK + 1) (s : List (Int × Int)) (out : List Int) (b0 : Int) (x0 : Int) (x1 : Int) (x2 : (List Int)) (x3 : Int) : slices_IndexFunc_queue_Item_queue_Item_take.l2 fuel s out b0 nN x0 x1 x2 x3 = slices_IndexFunc_queue_Item_queue_Item_take.b2 s out b0 (slices_IndexFunc_queue_Item_queue_Item_take.l2 fuel s out b0 kK) x0 x1 x2 x3 := by
  subst hN
  rfl
noncomputable def s_slices_IndexFunc_queue_Item_queue_Item_take : Den.Sum := ⟨[.own 47 (.pair (.int .i64) (.int .i64)), .raw], fun args objs κ => match args, objs with
  | [.row 0, .fn (.func 46) [] [.ptr 1 0, .ptr 3 0]], [.row 47 (.pair (.int .i64) (.int .i64)) s false, .box [.row 2], .row 3 (.int .i64) out false, .box [.d (.int .i64) b0]] => (match veil (slices_IndexFunc_queue_Item_queue_Item_take.f BIG s out b0) with | none => none | some y => κ [.d (.int .i64) y.1] [.row 47 (.pair (.int .i64) (.int .i64)) y.2.1 false, .box [.row 2], .row 3 (.int .i64) y.2.2.1 false, .box [.d (.int .i64) y.2.2.2]])
  | _, _ => none⟩
theorem s_slices_IndexFunc_queue_Item_queue_Item_take_det : SumDet s_slices_IndexFunc_queue_Item_queue_Item_take := fun avs objs R κ => by
  show s_slices_IndexFunc_queue_Item_queue_Item_take.run avs objs (two κ) = (s_slices_IndexFunc_queue_Item_queue_Item_take.run avs objs (two some)).bind κ
  unfold s_slices_IndexFunc_queue_Item_queue_Item_take
  simp only [veil_eq]
  split
  · split <;> rfl
  · rfl
theorem s_slices_IndexFunc_queue_Item_queue_Item_take_ok : SumOk Try.prog 60 s_slices_IndexFunc_queue_Item_queue_Item_take := by
  have hE : EnvOk Try.prog slices_IndexFunc_queue_Item_queue_Item_take_E := env_ok (l := [(46, s_queue_Queue_Take_c1)]) th_ok any_ok ⟨⟨s_queue_Queue_Take_c1_ok, s_queue_Queue_Take_c1_det⟩, trivial⟩ _
  refine sum_ok hE Try.func60 rfl (by kernel_rfl) s_slices_IndexFunc_queue_Item_queue_Item_take [.raw] slices_IndexFunc_queue_Item_queue_Item_take.k ?_
  intro R avs objs κ r h
  unfold s_slices_IndexFunc_queue_Item_queue_Item_take at h
  simp only [veil_eq] at h
  split at h
  · rename_i s out b0
    split at h
    · cases h
    · rename_i y hy
      refine ⟨BIG, _, _, _, (slices_IndexFunc_queue_Item_queue_Item_take.eq BIG s out b0).trans hy, ?_, h⟩
      intro rs ros hk
      unfold slices_IndexFunc_queue_Item_queue_Item_take.k at hk
      split at hk
      · first | (cases hk; exact ⟨rfl, rfl⟩) | (have e := Option.some.inj hk; rw [← e]; exact ⟨rfl, rfl⟩)
      · cases hk
  · cases h
noncomputable def s_slices_IndexFunc_queue_Item_queue_Item : Den.Sum := ⟨[.own 47 (.pair (.int .i64) (.int .i64)), .raw], fun args objs κ => match args, objs with
  | [.row 0, .fn (.func 43) [] [.ptr 1 0]], [.row 47 (.pair (.int .i64) (.int .i64)) s false, .box [.d (.int .i64) id0]] => s_slices_IndexFunc_queue_Item_queue_Item_drop.run [.row 0, .fn (.func 43) [] [.ptr 1 0]] [.row 47 (.pair (.int .i64) (.int .i64)) s false, .box [.d (.int .i64) id0]] κ
  | [.row 0, .fn (.func 46) [] [.ptr 1 0, .ptr 3 0]], [.row 47 (.pair (.int .i64) (.int .i64)) s false, .box [.row 2], .row 3 (.int .i64) out false, .box [.d (.int .i64) b0]] => s_slices_IndexFunc_queue_Item_queue_Item_take.run [.row 0, .fn (.func 46) [] [.ptr 1 0, .ptr 3 0]] [.row 47 (.pair (.int .i64) (.int .i64)) s false, .box [.row 2], .row 3 (.int .i64) out false, .box [.d (.int .i64) b0]] κ
  | _, _ => none⟩
theorem s_slices_IndexFunc_queue_Item_queue_Item_det : SumDet s_slices_IndexFunc_queue_Item_queue_Item := fun avs objs R κ => by
  show s_slices_IndexFunc_queue_Item_queue_Item.run avs objs (two κ) = (s_slices_IndexFunc_queue_Item_queue_Item.run avs objs (two some)).bind κ
  unfold s_slices_IndexFunc_queue_Item_queue_Item
  simp only
  split
  · exact s_slices_IndexFunc_queue_Item_queue_Item_drop_det _ _ R κ
  · exact s_slices_IndexFunc_queue_Item_queue_Item_take_det _ _ R κ
  · rfl
theorem s_slices_IndexFunc_queue_Item_queue_Item_ok : SumOk Try.prog 60 s_slices_IndexFunc_queue_Item_queue_Item := by
  refine ⟨s_slices_IndexFunc_queue_Item_queue_Item_drop_ok.1, ?_⟩
  intro R avs objs κ r h
  unfold s_slices_IndexFunc_queue_Item_queue_Item at h
  simp only at h
  split at h
  · exact s_slices_IndexFunc_queue_Item_queue_Item_drop_ok.2 _ _ κ r h
  · exact s_slices_IndexFunc_queue_Item_queue_Item_take_ok.2 _ _ κ r h
  · cases h
noncomputable def slices_stableCmpFunc_queue_Item_E : Env := ⟨th, gam [(50, s_queue_Queue_All_c1), (67, s_slices_insertionSortCmpFunc_queue_Item), (68, s_slices_symMergeCmpFunc_queue_Item)], fun i => if i = 2 then ⟨[0, 1, 2, 6, 7, 8], [], []⟩ else if i = 7 then ⟨[0, 1, 2, 6], [], []⟩ else if i = 9 then ⟨[0, 1, 2, 6, 7, 8], [], []⟩ else ⟨[], [], []⟩⟩
noncomputable def slices_stableCmpFunc_queue_Item.k (rs : List AV) (os : List Den.Obj) : Option (List (Int × Int)) :=
  match rs, os with
  | [], [.row 47 (.pair (.int .i64) (.int .i64)) r0 false] => some r0
  | _, _ => none
noncomputable def slices_stableCmpFunc_queue_Item.s9 (l : List (Int × Int)) (n0 : Int) (x7 : Int) (x8 : Int) (x9 : Int) (x10 : (List (Int × Int))) : St := ⟨[.row 0, .d (.int .i64) (n0), .fn (.func 50) [] [], .dead, .dead, .dead, .d (.int .i64) x7, .d (.int .i64) x8, .d (.int .i64) x9, .dead, .dead, .dead, .dead, .dead, .dead, .dead, .dead, .dead, .dead, .dead, .dead, .dead, .dead, .dead, .dead, .dead, .dead, .dead, .dead, .dead, .dead, .dead, .dead, .dead, .dead, .dead, .dead, .dead, .dead, .dead, .dead, .dead, .dead, .dead, .dead, .dead, .dead, .dead, .dead, .dead, .dead, .dead, .dead, .dead, .dead, .dead, .dead, .dead, .dead, .dead, .dead, .dead, .dead], ofL [(0, .row 47 (.pair (.int .i64) (.int .i64)) x10 false)], 1⟩
noncomputable def slices_stableCmpFunc_queue_Item.b9 (l : List (Int × Int)) (n0 : Int) (A7 : Int → (List (Int × Int)) → Option (List (Int × Int))) (A9 : Int → Int → Int → (List (Int × Int)) → Option (List (Int × Int))) (x7 : Int) (x8 : Int) (x9 : Int) (x10 : (List (Int × Int))) : Option (List (Int × Int)) :=
  (if (decide (x9 ≤ n0)) then (match (veil (slices_symMergeCmpFunc_queue_Item.it (64 : Nat) x10 x8 (Go.IntKind.wrap .i64 (x8 + x7)) x9)) with | none => none | some y11 => A9 x7 x9 (Go.IntKind.wrap .i64 (x9 + (Go.IntKind.wrap .i64 ((2 : Int) * x7)))) y11) else (if (decide ((Go.IntKind.wrap .i64 (x8 + x7)) < n0)) then (match (veil (slices_symMergeCmpFunc_queue_Item.it (64 : Nat) x10 x8 (Go.IntKind.wrap .i64 (x8 + x7)) n0)) with | none => none | some y12 => A7 (Go.IntKind.wrap .i64 (x7 * (2 : Int))) y12) else A7 (Go.IntKind.wrap .i64 (x7 * (2 : Int))) x10))
noncomputable def slices_stableCmpFunc_queue_Item.l9 (fuel : Nat) (l : List (Int × Int)) (n0 : Int) (A7 : Int → (List (Int × Int)) → Option (List (Int × Int))) : Nat → Int → Int → Int → (List (Int × Int)) → Option (List (Int × Int))
  | 0, _, _, _, _ => none
  | k + 1, x7, x8, x9, x10 => slices_stableCmpFunc_queue_Item.b9 l n0 A7 (slices_stableCmpFunc_queue_Item.l9 fuel l n0 A7 k) x7 x8 x9 x10
noncomputable def slices_stableCmpFunc_queue_Item.s7 (l : List (Int × Int)) (n0 : Int) (x5 : Int) (x6 : (List (Int × Int))) : St := ⟨[.row 0, .d (.int .i64) (n0), .fn (.func 50) [] [], .dead, .dead, .dead, .d (.int .i64) x5, .dead, .dead, .dead, .dead, .dead, .dead, .dead, .dead, .dead, .dead, .dead, .dead, .dead, .dead, .dead, .dead, .dead, .dead, .dead, .dead, .dead, .dead, .dead, .dead, .dead, .dead, .dead, .dead, .dead, .dead, .dead, .dead, .dead, .dead, .dead, .dead, .dead, .dead, .dead, .dead, .dead, .dead, .dead, .dead, .dead, .dead, .dead, .dead, .dead, .dead, .dead, .dead, .dead, .dead, .dead, .dead], ofL [(0, .row 47 (.pair (.int .i64) (.int .i64)) x6 false)], 1⟩
noncomputable def slices_stableCmpFunc_queue_Item.b7 (l : List (Int × Int)) (n0 : Int) (A7 : Int → (List (Int × Int)) → Option (List (Int × Int))) (E9 : Int → Int → Int → (List (Int × Int)) → Option (List (Int × Int))) (x5 : Int) (x6 : (List (Int × Int))) : Option (List (Int × Int)) :=
  (if (decide (x5 < n0)) then E9 x5 (0 : Int) (Go.IntKind.wrap .i64 ((2 : Int) * x5)) x6 else some (x6))
noncomputable def slices_stableCmpFunc_queue_Item.l7 (fuel : Nat) (l : List (Int × Int)) (n0 : Int) : Nat → Int → (List (Int × Int)) → Option (List (Int × Int))
  | 0, _, _ => none
  | k + 1, x5, x6 => slices_stableCmpFunc_queue_Item.b7 l n0 (slices_stableCmpFunc_queue_Item.l7 fuel l n0 k) (slices_stableCmpFunc_queue_Item.l9 fuel l n0 (slices_stableCmpFunc_queue_Item.l7 fuel l n0 k) fuel) x5 x6
noncomputable def slices_stableCmpFunc_queue_Item.s2 (l : List (Int × Int)) (n0 : Int) (x0 : Int) (x1 : Int) (x2 : (List (Int × Int))) : St := ⟨[.row 0, .d (.int .i64) (n0), .fn (.func 50) [] [], .dead, .dead, .dead, .d (.int .i64) ((20 : Int)), .d (.int .i64) x0, .d (.int .i64) x1, .dead, .dead, .dead, .dead, .dead, .dead, .dead, .dead, .dead, .dead, .dead, .dead, .dead, .dead, .dead, .dead, .dead, .dead, .dead, .dead, .dead, .dead, .dead, .dead, .dead, .dead, .dead, .dead, .dead, .dead, .dead, .dead, .dead, .dead, .dead, .dead, .dead, .dead, .dead, .dead, .dead, .dead, .dead, .dead, .dead, .dead, .dead, .dead, .dead, .dead, .dead, .dead, .dead, .dead], ofL [(0, .row 47 (.pair (.int .i64) (.int .i64)) x2 false)], 1⟩
noncomputable def slices_stableCmpFunc_queue_Item.b2 (l : List (Int × Int)) (n0 : Int) (A2 : Int → Int → (List (Int × Int)) → Option (List (Int × Int))) (E7 : Int → (List (Int × Int)) → Option (List (Int × Int))) (x0 : Int) (x1 : Int) (x2 : (List (Int × Int))) : Option (List (Int × Int)) :=
  (if (decide (x1 ≤ n0)) then (match (veil (slices_insertionSortCmpFunc_queue_Item.f BIG x2 x0 x1)) with | none => none | some y3 => A2 x1 (Go.IntKind.wrap .i64 (x1 + (20 : Int))) y3) else (match (veil (slices_insertionSortCmpFunc_queue_Item.f BIG x2 x0 n0)) with | none => none | some y4 => E7 (20 : Int) y4))
noncomputable def slices_stableCmpFunc_queue_Item.l2 (fuel : Nat) (l : List (Int × Int)) (n0 : Int) : Nat → Int → Int → (List (Int × Int)) → Option (List (Int × Int))
  | 0, _, _, _ => none
  | k + 1, x0, x1, x2 => slices_stableCmpFunc_queue_Item.b2 l n0 (slices_stableCmpFunc_queue_Item.l2 fuel l n0 k) (slices_stableCmpFunc_queue_Item.l7 fuel l n0 fuel) x0 x1 x2
noncomputable def slices_stableCmpFunc_queue_Item.b (l : List (Int × Int)) (n0 : Int) (E2 : Int → Int → (List (Int × Int)) → Option (List (Int × Int))) : Option (List (Int × Int)) :=
  E2 (0 : Int) (20 : Int) l
noncomputable def slices_stableCmpFunc_queue_Item.f (fuel : Nat) (l : List (Int × Int)) (n0 : Int) : Option (List (Int × Int)) := slices_stableCmpFunc_queue_Item.b l n0 (slices_stableCmpFunc_queue_Item.l2 fuel l n0 fuel)
theorem slices_stableCmpFunc_queue_Item.l9_eq (fuel : Nat) (l : List (Int × Int)) (n0 : Int) (k7 : Nat) : ∀ (k : Nat) (x7 : Int) (x8 : Int) (x9 : Int) (x10 : (List (Int × Int))), lp slices_stableCmpFunc_queue_Item_E fuel Try.f62 [] 1 slices_stableCmpFunc_queue_Item.k 9 [k7] k (slices_stableCmpFunc_queue_Item.s9 l n0 x7 x8 x9 x10) = slices_stableCmpFunc_queue_Item.l9 fuel l n0 (fun x5 x6 => lp slices_stableCmpFunc_queue_Item_E fuel Try.f62 [] 1 slices_stableCmpFunc_queue_Item.k 7 [] k7 (slices_stableCmpFunc_queue_Item.s7 l n0 x5 x6)) k x7 x8 x9 x10 := by
  intro k
  induction k with
  | zero => intro x7 x8 x9 x10; rfl
  | succ k ih =>
    intro x7 x8 x9 x10
    have h : lp slices_stableCmpFunc_queue_Item_E fuel Try.f62 [] 1 slices_stableCmpFunc_queue_Item.k 9 [k7] (k + 1) (slices_stableCmpFunc_queue_Item.s9 l n0 x7 x8 x9 x10) = slices_stableCmpFunc_queue_Item.b9 l n0 (fun x5 x6 => lp slices_stableCmpFunc_queue_Item_E fuel Try.f62 [] 1 slices_stableCmpFunc_queue_Item.k 7 [] k7 (slices_stableCmpFunc_queue_Item.s7 l n0 x5 x6)) (fun x7 x8 x9 x10 => lp slices_stableCmpFunc_queue_Item_E fuel Try.f62 [] 1 slices_stableCmpFunc_queue_Item.k 9 [k7] k (slices_stableCmpFunc_queue_Item.s9 l n0 x7 x8 x9 x10)) x7 x8 x9 x10 := by kernel_rfl
    rw [h]
    have e9 : (fun x7 x8 x9 x10 => lp slices_stableCmpFunc_queue_Item_E fuel Try.f62 [] 1 slices_stableCmpFunc_queue_Item.k 9 [k7] k (slices_stableCmpFunc_queue_Item.s9 l n0 x7 x8 x9 x10)) = slices_stableCmpFunc_queue_Item.l9 fuel l n0 (fun x5 x6 => lp slices_stableCmpFunc_queue_Item_E fuel Try.f62 [] 1 slices_stableCmpFunc_queue_Item.k 7 [] k7 (slices_stableCmpFunc_queue_Item.s7 l n0 x5 x6)) k := (funext fun x7 => (funext fun x8 => (funext fun x9 => (funext fun x10 => ih x7 x8 x9 x10))))
    rw [e9]
    rfl
theorem slices_stableCmpFunc_queue_Item.l7_eq (fuel : Nat) (l : List (Int × Int)) (n0 : Int) : ∀ (k : Nat) (x5 : Int) (x6 : (List (Int × Int))), lp slices_stableCmpFunc_queue_Item_E fuel Try.f62 [] 1 slices_stableCmpFunc_queue_Item.k 7 [] k (slices_stableCmpFunc_queue_Item.s7 l n0 x5 x6) = slices_stableCmpFunc_queue_Item.l7 fuel l n0 k x5 x6 := by
  intro k
  induction k with
  | zero => intro x5 x6; rfl
  | succ k ih =>
    intro x5 x6
    have h : lp slices_stableCmpFunc_queue_Item_E fuel Try.f62 [] 1 slices_stableCmpFunc_queue_Item.k 7 [] (k + 1) (slices_stableCmpFunc_queue_Item.s7 l n0 x5 x6) = slices_stableCmpFunc_queue_Item.b7 l n0 (fun x5 x6 => lp slices_stableCmpFunc_queue_Item_E fuel Try.f62 [] 1 slices_stableCmpFunc_queue_Item.k 7 [] k (slices_stableCmpFunc_queue_Item.s7 l n0 x5 x6)) (fun x7 x8 x9 x10 => lp slices_stableCmpFunc_queue_Item_E fuel Try.f62 [] 1 slices_stableCmpFunc_queue_Item.k 9 [k] fuel (slices_stableCmpFunc_queue_Item.s9 l n0 x7 x8 x9 x10)) x5 x6 := by kernel_rfl
    rw [h]
    have e7 : (fun x5 x6 => lp slices_stableCmpFunc_queue_Item_E fuel Try.f62 [] 1 slices_stableCmpFunc_queue_Item.k 7 [] k (slices_stableCmpFunc_queue_Item.s7 l n0 x5 x6)) = slices_stableCmpFunc_queue_Item.l7 fuel l n0 k := (funext fun x5 => (funext fun x6 => ih x5 x6))
    rw [e7]
    have e9 : (fun x7 x8 x9 x10 => lp slices_stableCmpFunc_queue_Item_E fuel Try.f62 [] 1 slices_stableCmpFunc_queue_Item.k 9 [k] fuel (slices_stableCmpFunc_queue_Item.s9 l n0 x7 x8 x9 x10)) = slices_stableCmpFunc_queue_Item.l9 fuel l n0 (fun x5 x6 => lp slices_stableCmpFunc_queue_Item_E fuel Try.f62 [] 1 slices_stableCmpFunc_queue_Item.k 7 [] k (slices_stableCmpFunc_queue_Item.s7 l n0 x5 x6)) fuel := (funext fun x7 => (funext fun x8 => (funext fun x9 => (funext fun x10 => slices_stableCmpFunc_queue_Item.l9_eq fuel l n0 k fuel x7 x8 x9 x10))))
    rw [e9]
    rw [e7]
    rfl
theorem slices_stableCmpFunc_queue_Item.l2_eq (fuel : Nat) (l : List (Int × Int)) (n0 : Int) : ∀ (k : Nat) (x0 : Int) (x1 : Int) (x2 : (List (Int × Int))), lp slices_stableCmpFunc_queue_Item_E fuel Try.f62 [] 1 slices_stableCmpFunc_queue_Item.k 2 [] k (slices_stableCmpFunc_queue_Item.s2 l n0 x0 x1 x2) = slices_stableCmpFunc_queue_Item.l2 fuel l n0 k x0 x1 x2 := by
  intro k
  induction k with
  | zero => intro x0 x1 x2; rfl
  | succ k ih =>
    intro x0 x1 x2
    have h : lp slices_stableCmpFunc_queue_Item_E fuel Try.f62 [] 1 slices_stableCmpFunc_queue_Item.k 2 [] (k + 1) (slices_stableCmpFunc_queue_Item.s2 l n0 x0 x1 x2) = slices_stableCmpFunc_queue_Item.b2 l n0 (fun x0 x1 x2 => lp slices_stableCmpFunc_queue_Item_E fuel Try.f62 [] 1 slices_stableCmpFunc_queue_Item.k 2 [] k (slices_stableCmpFunc_queue_Item.s2 l n0 x0 x1 x2)) (fun x5 x6 => lp slices_stableCmpFunc_queue_Item_E fuel Try.f62 [] 1 slices_stableCmpFunc_queue_Item.k 7 [] fuel (slices_stableCmpFunc_queue_Item.s7 l n0 x5 x6)) x0 x1 x2 := by kernel_rfl
    rw [h]
    have e2 : (fun x0 x1 x2 => lp slices_stableCmpFunc_queue_Item_E fuel Try.f62 [] 1 slices_stableCmpFunc_queue_Item.k 2 [] k (slices_stableCmpFunc_queue_Item.s2 l n0 x0 x1 x2)) = slices_stableCmpFunc_queue_Item.l2 fuel l n0 k := (funext fun x0 => (funext fun x1 => (funext fun x2 => ih x0 x1 x2)))
    rw [e2]
    have e7 : (fun x5 x6 => lp slices_stableCmpFunc_queue_Item_E fuel Try.f62 [] 1 slices_stableCmpFunc_queue_Item.k 7 [] fuel (slices_stableCmpFunc_queue_Item.s7 l n0 x5 x6)) = slices_stableCmpFunc_queue_Item.l7 fuel l n0 fuel := (funext fun x5 => (funext fun x6 => slices_stableCmpFunc_queue_Item.l7_eq fuel l n0 fuel x5 x6))
    rw [e7]
    rfl
theorem slices_stableCmpFunc_queue_Item.eq (fuel : Nat) (l : List (Int × Int)) (n0 : Int) : (denF slices_stableCmpFunc_queue_Item_E loopN fuel Try.f62 [] [.row 0, .d (.int .i64) n0, .fn (.func 50) [] []] [.row 47 (.pair (.int .i64) (.int .i64)) l false] slices_stableCmpFunc_queue_Item.k) = slices_stableCmpFunc_queue_Item.f fuel l n0 := by
  have h : (denF slices_stableCmpFunc_queue_Item_E loopN fuel Try.f62 [] [.row 0, .d (.int .i64) n0, .fn (.func 50) [] []] [.row 47 (.pair (.int .i64) (.int .i64)) l false] slices_stableCmpFunc_queue_Item.k) = slices_stableCmpFunc_queue_Item.b l n0 (fun x0 x1 x2 => lp slices_stableCmpFunc_queue_Item_E fuel Try.f62 [] 1 slices_stableCmpFunc_queue_Item.k 2 [] fuel (slices_stableCmpFunc_queue_Item.s2 l n0 x0 x1 x2)) := by kernel_rfl
  rw [h]
  have e2 : (fun x0 x1 x2 => lp slices_stableCmpFunc_queue_Item_E fuel Try.f62 [] 1 slices_stableCmpFunc_queue_Item.k 2 [] fuel (slices_stableCmpFunc_queue_Item.s2 l n0 x0 x1 x2)) = slices_stableCmpFunc_queue_Item.l2 fuel l n0 fuel := (funext fun x0 => (funext fun x1 => (funext fun x2 => slices_stableCmpFunc_queue_Item.l2_eq fuel l n0 fuel x0 x1 x2)))
  rw [e2]
  rfl
theorem slices_stableCmpFunc_queue_Item.l9_at (fuel nN kK : Nat) (hN : nN = kK + 1) (l : List (Int × Int)) (n0 : Int) (A7 : Int → (List (Int × Int)) → Option (List (Int × Int))) (x7 : Int) (x8 : Int) (x9 : Int) (x10 : (List (Int × Int))) : slices_stableCmpFunc_queue_Item.l9 fuel l n0 A7 nN x7 x8 x9 x10 = slices_stableCmpFunc_queue_Item.b9 l n0 A7 (slices_stableCmpFunc_queue_Item.l9 fuel l n0 A7 kK) x7 x8 x9 x10 := by
  subst hN
  rfl
theorem slices_stableCmpFunc_queue_Item.l7_at (fuel nN kK : Nat) (hN : nN = kK + 1) (l : List (Int × Int)) (n0 : Int) (x5 : Int) (x6 : (List (Int × Int))) : slices_stableCmpFunc_queue_Item.l7 fuel l n0 nN x5 x6 = slices_stableCmpFunc_queue_Item.b7 l n0 (slices_stableCmpFunc_queue_Item.l7 fuel l n0 kK) (slices_stableCmpFunc_queue_Item.l9 fuel l n0 (slices_stableCmpFunc_queue_Item.l7 fuel l n0 kK) fuel) x5 x6 := by
  subst hN
  rfl
theorem slices_stableCmpFunc_queue_Item.l2_at (fuel nN kK : Nat) (hN : nN = kK + 1) (l : List (Int × Int)) (n0 : Int) (x0 : Int) (x1 : Int) (x2 : (List (Int × Int))) : slices_stableCmpFunc_queue_Item.l2 fuel l n0 nN x0 x1 x2 = slices_stableCmpFunc_queue_Item.b2 l n0 (slices_stableCmpFunc_queue_Item.l2 fuel l n0 kK) (slices_stableCmpFunc_queue_Item.l7 fuel l n0 fuel) x0 x1 x2 := by
  subst hN
  rfl
noncomputable def s_slices_stableCmpFunc_queue_Item : Den.Sum := ⟨[.own 47 (.pair (.int .i64) (.int .i64)), .raw, .raw], fun args objs κ => match args, objs with
  | [.row 0, .d (.int .i64) n0, .fn (.func 50) [] []], [.row 47 (.pair (.int .i64) (.int .i64)) l false] => (match veil (slices_stableCmpFunc_queue_Item.f BIG l n0) with | none => none | some y => κ [] [.row 47 (.pair (.int .i64) (.int .i64)) y false])
  | _, _ => none⟩
theorem s_slices_stableCmpFunc_queue_Item_det : SumDet s_slices_stableCmpFunc_queue_Item := fun avs objs R κ => by
  show s_slices_stableCmpFunc_queue_Item.run avs objs (two κ) = (s_slices_stableCmpFunc_queue_Item.run avs objs (two some)).bind κ
  unfold s_slices_stableCmpFunc_queue_Item
  simp only [veil_eq]
  split
  · split <;> rfl
  · rfl
theorem s_slices_stableCmpFunc_queue_Item_ok : SumOk Try.prog 62 s_slices_stableCmpFunc_queue_Item := by
  have hE : EnvOk Try.prog slices_stableCmpFunc_queue_Item_E := env_ok (l := [(50, s_queue_Queue_All_c1), (67, s_slices_insertionSortCmpFunc_queue_Item), (68, s_slices_symMergeCmpFunc_queue_Item)]) th_ok any_ok ⟨⟨s_queue_Queue_All_c1_ok, s_queue_Queue_All_c1_det⟩, ⟨s_slices_insertionSortCmpFunc_queue_Item_ok, s_slices_insertionSortCmpFunc_queue_Item_det⟩, ⟨s_slices_symMergeCmpFunc_queue_Item_ok, s_slices_symMergeCmpFunc_queue_Item_det⟩, trivial⟩ _
  refine sum_ok hE Try.func62 rfl (by kernel_rfl) s_slices_stableCmpFunc_queue_Item [] slices_stableCmpFunc_queue_Item.k ?_
  intro R avs objs κ r h
  unfold s_slices_stableCmpFunc_queue_Item at h
  simp only [veil_eq] at h
  split at h
  · rename_i n0 l
    split at h
    · cases h
    · rename_i y hy
      refine ⟨BIG, _, _, _, (slices_stableCmpFunc_queue_Item.eq BIG l n0).trans hy, ?_, h⟩
      intro rs ros hk
      unfold slices_stableCmpFunc_queue_Item.k at hk
      split at hk
      · first | (cases hk; exact ⟨rfl, rfl⟩) | (have e := Option.some.inj hk; rw [← e]; exact ⟨rfl, rfl⟩)
      · cases hk
  · cases h
noncomputable def slices_DeleteFunc_queue_Item_queue_Item_drop_E : Env := ⟨th, gam [(43, s_queue_Queue_Drop_c1), (60, s_slices_IndexFunc_queue_Item_queue_Item)], fun i => if i = 888888 then ⟨[1], [], []⟩ else if i = 5 then ⟨[0, 1, 5, 6], [], []⟩ else ⟨[], [], []⟩⟩
noncomputable def slices_DeleteFunc_queue_Item_queue_Item_drop.k (rs : List AV) (os : List Den.Obj) : Option (Int × (List (Int × Int))) :=
  match rs, os with
  | [.row 2], [.gone, .box [.d (.int .i64) r0], .row 47 (.pair (.int .i64) (.int .i64)) r1 false] => some (r0, r1)
  | _, _ => none
noncomputable def slices_DeleteFunc_queue_Item_queue_Item_drop.s5 (s : List (Int × Int)) (id0 : Int) (x1 : Int) (x2 : Int) (x3 : (List (Int × Int))) (x4 : Int) : St := ⟨[.row 0, .fn (.func 43) [] [.ptr 1 0], .dead, .dead, .dead, .d (.int .i64) x1, .d (.int .i64) x2, .dead, .dead, .dead, .dead, .dead, .dead, .dead, .dead, .dead, .dead, .dead, .dead, .dead, .dead, .dead, .dead, .dead, .dead, .dead, .dead, .dead, .dead, .dead, .dead, .dead, .dead, .dead, .dead, .dead, .dead, .dead, .dead, .dead, .dead, .dead], ofL [(0, .row 47 (.pair (.int .i64) (.int .i64)) x3 false), (1, .box [.d (.int .i64) x4])], 2⟩
noncomputable def slices_DeleteFunc_queue_Item_queue_Item_drop.b5 (s : List (Int × Int)) (id0 : Int) (A5 : Int → Int → (List (Int × Int)) → Int → Option (Int × (List (Int × Int)))) (x1 : Int) (x2 : Int) (x3 : (List (Int × Int))) (x4 : Int) : Option (Int × (List (Int × Int))) :=
  (if (decide (x2 < ((((List.length x3)) : Nat) : Int))) then (match (idx x3 x2) with | none => none | some y5 => (match (idx x3 x2) with | none => none | some y6 => (match (veil (queue_Queue_Drop_c1.f BIG y6.1 y6.2 x4)) with | none => none | some y7 => (if (!y7.1) then (match (idx x3 x1) with | none => none | some y8 => (match (idx x3 x1) with | none => none | some y9 => A5 (Go.IntKind.wrap .i64 (x1 + (1 : Int))) (Go.IntKind.wrap .i64 (x2 + (1 : Int))) (List.set x3 (Int.toNat x1) (y6.1, y6.2)) y7.2)) else A5 x1 (Go.IntKind.wrap .i64 (x2 + (1 : Int))) x3 y7.2)))) else (if (((0 : Int) ≤ x1) ∧ (x1 ≤ ((((List.length x3)) : Nat) : Int))) then (if (((Int.toNat x1) ≤ (List.length x3)) ∧ ((List.length x3) ≤ (List.length x3))) then (if (((0 : Int) ≤ x1) ∧ (x1 ≤ ((((List.length (((List.take (Int.toNat x1) x3) ++ (List.replicate ((List.length x3) - (Int.toNat x1)) (zeroI (Go.Den.Ty.pair (Go.Den.Ty.int .i64) (Go.Den.Ty.int .i64))))) ++ (List.drop (List.length x3) x3)))) : Nat) : Int))) then (if (((0 : Nat) = (0 : Nat)) ∧ ((Int.toNat x1) ≤ (List.length (((List.take (Int.toNat x1) x3) ++ (List.replicate ((List.length x3) - (Int.toNat x1)) (zeroI (Go.Den.Ty.pair (Go.Den.Ty.int .i64) (Go.Den.Ty.int .i64))))) ++ (List.drop (List.length x3) x3))))) then some (x4, (List.take (Int.toNat x1) (((List.take (Int.toNat x1) x3) ++ (List.replicate ((List.length x3) - (Int.toNat x1)) (zeroI (Go.Den.Ty.pair (Go.Den.Ty.int .i64) (Go.Den.Ty.int .i64))))) ++ (List.drop (List.length x3) x3)))) else none) else none) else none) else none))
noncomputable def slices_DeleteFunc_queue_Item_queue_Item_drop.l5 (fuel : Nat) (s : List (Int × Int)) (id0 : Int) : Nat → Int → Int → (List (Int × Int)) → Int → Option (Int × (List (Int × Int)))
  | 0, _, _, _, _ => none
  | k + 1, x1, x2, x3, x4 => slices_DeleteFunc_queue_Item_queue_Item_drop.b5 s id0 (slices_DeleteFunc_queue_Item_queue_Item_drop.l5 fuel s id0 k) x1 x2 x3 x4
noncomputable def slices_DeleteFunc_queue_Item_queue_Item_drop.b (s : List (Int × Int)) (id0 : Int) (E5 : Int → Int → (List (Int × Int)) → Int → Option (Int × (List (Int × Int)))) : Option (Int × (List (Int × Int))) :=
  (match (veil (slices_IndexFunc_queue_Item_queue_Item_drop.f BIG s id0)) with | none => none | some y0 => (if (y0.1 == (-(1 : Int))) then some (y0.2.2, y0.2.1) else E5 y0.1 (Go.IntKind.wrap .i64 (y0.1 + (1 : Int))) y0.2.1 y0.2.2))
noncomputable def slices_DeleteFunc_queue_Item_queue_Item_drop.f (fuel : Nat) (s : List (Int × Int)) (id0 : Int) : Option (Int × (List (Int × Int))) := slices_DeleteFunc_queue_Item_queue_Item_drop.b s id0 (slices_DeleteFunc_queue_Item_queue_Item_drop.l5 fuel s id0 fuel)
theorem slices_DeleteFunc_queue_Item_queue_Item_drop.l5_eq (fuel : Nat) (s : List (Int × Int)) (id0 : Int) : ∀ (k : Nat) (x1 : Int) (x2 : Int) (x3 : (List (Int × Int))) (x4 : Int), lp slices_DeleteFunc_queue_Item_queue_Item_drop_E fuel Try.f42 [.mv 47 (.pair (.int .i64) (.int .i64))] 2 slices_DeleteFunc_queue_Item_queue_Item_drop.k 5 [] k (slices_DeleteFunc_queue_Item_queue_Item_drop.s5 s id0 x1 x2 x3 x4) = slices_DeleteFunc_queue_Item_queue_Item_drop.l5 fuel s id0 k x1 x2 x3 x4 := by
  intro k
  induction k with
  | zero => intro x1 x2 x3 x4; rfl
  | succ k ih =>
    intro x1 x2 x3 x4
    have h : lp slices_DeleteFunc_queue_Item_queue_Item_drop_E fuel Try.f42 [.mv 47 (.pair (.int .i64) (.int .i64))] 2 slices_DeleteFunc_queue_Item_queue_Item_drop.k 5 [] (k + 1) (slices_DeleteFunc_queue_Item_queue_Item_drop.s5 s id0 x1 x2 x3 x4) = slices_DeleteFunc_queue_Item_queue_Item_drop.b5 s id0 (fun x1 x2 x3 x4 => lp slices_DeleteFunc_queue_Item_queue_Item_drop_E fuel Try.f42 [.mv 47 (.pair (.int .i64) (.int .i64))] 2 slices_DeleteFunc_queue_Item_queue_Item_drop.k 5 [] k (slices_DeleteFunc_queue_Item_queue_Item_drop.s5 s id0 x1 x2 x3 x4)) x1 x2 x3 x4 := by kernel_rfl
    rw [h]
    have e5 : (fun x1 x2 x3 x4 => lp slices_DeleteFunc_queue_Item_queue_Item_drop_E fuel Try.f42 [.mv 47 (.pair (.int .i64) (.int .i64))] 2 slices_DeleteFunc_queue_Item_queue_Item_drop.k 5 [] k (slices_DeleteFunc_queue_Item_queue_Item_drop.s5 s id0 x1 x2 x3 x4)) = slices_DeleteFunc_queue_Item_queue_Item_drop.l5 fuel s id0 k := (funext fun x1 => (funext fun x2 => (funext fun x3 => (funext fun x4 => ih x1 x2 x3 x4))))
    rw [e5]
    rfl
theorem slices_DeleteFunc_queue_Item_queue_Item_drop.eq (fuel : Nat) (s : List (Int × Int)) (id0 : Int) : (denF slices_DeleteFunc_queue_Item_queue_Item_drop_E loopN fuel Try.f42 [.mv 47 (.pair (.int .i64) (.int .i64))] [.row 0, .fn (.func 43) [] [.ptr 1 0]] [.row 47 (.pair (.int .i64) (.int .i64)) s false, .box [.d (.int .i64) id0]] slices_DeleteFunc_queue_Item_queue_Item_drop.k) = slices_DeleteFunc_queue_Item_queue_Item_drop.f fuel s id0 := by
  have h : (denF slices_DeleteFunc_queue_Item_queue_Item_drop_E loopN fuel Try.f42 [.mv 47 (.pair (.int .i64) (.int .i64))] [.row 0, .fn (.func 43) [] [.ptr 1 0]] [.row 47 (.pair (.int .i64) (.int .i64)) s false, .box [.d (.int .i64) id0]] slices_DeleteFunc_queue_Item_queue_Item_drop.k) = slices_DeleteFunc_queue_Item_queue_Item_drop.b s id0 (fun x1 x2 x3 x4 => lp slices_DeleteFunc_queue_Item_queue_Item_drop_E fuel Try.f42 [.mv 47 (.pair (.int .i64) (.int .i64))] 2 slices_DeleteFunc_queue_Item_queue_Item_drop.k 5 [] fuel (slices_DeleteFunc_queue_Item_queue_Item_drop.s5 s id0 x1 x2 x3 x4)) := by kernel_rfl
  rw [h]
  have e5 : (fun x1 x2 x3 x4 => lp slices_DeleteFunc_queue_Item_queue_Item_drop_E fuel Try.f42 [.mv 47 (.pair (.int .i64) (.int .i64))] 2 slices_DeleteFunc_queue_Item_queue_Item_drop.k 5 [] fuel (slices_DeleteFunc_queue_Item_queue_Item_drop.s5 s id0 x1 x2 x3 x4)) = slices_DeleteFunc_queue_Item_queue_Item_drop.l5 fuel s id0 fuel := (funext fun x1 => (funext fun x2 => (funext fun x3 => (funext fun x4 => slices_DeleteFunc_queue_Item_queue_Item_drop.l5_eq fuel s id0 fuel x1 x2 x3 x4))))
  rw [e5]
  rfl
theorem slices_DeleteFunc_queue_Item_queue_Item_drop.l5_at (fuel nN kK : Nat) (hN : nN = kK + 1) (s : List (Int × Int)) (id0 : Int) (x1 : Int) (x2 : Int) (x3 : (List (Int × Int))) (x4 : Int) : slices_DeleteFunc_queue_Item_queue_Item_drop.l5 fuel s id0 nN x1 x2 x3 x4 = slices_DeleteFunc_queue_Item_queue_Item_drop.b5 s id0 (slices_DeleteFunc_queue_Item_queue_Item_drop.l5 fuel s id0 kK) x1 x2 x3 x4 := by
  subst hN
  rfl
noncomputable def s_slices_DeleteFunc_queue_Item_queue_Item_drop : Den.Sum := ⟨[.own 47 (.pair (.int .i64) (.int .i64)), .raw], fun args objs κ => match args, objs with
  | [.row 0, .fn (.func 43) [] [.ptr 1 0]], [.row 47 (.pair (.int .i64) (.int .i64)) s false, .box [.d (.int .i64) id0]] => (match veil (slices_DeleteFunc_queue_Item_queue_Item_drop.f BIG s id0) with | none => none | some y => κ [.row 2] [.gone, .box [.d (.int .i64) y.1], .row 47 (.pair (.int .i64) (.int .i64)) y.2 false])
  | _, _ => none⟩
theorem s_slices_DeleteFunc_queue_Item_queue_Item_drop_det : SumDet s_slices_DeleteFunc_queue_Item_queue_Item_drop := fun avs objs R κ => by
  show s_slices_DeleteFunc_queue_Item_queue_Item_drop.run avs objs (two κ) = (s_slices_DeleteFunc_queue_Item_queue_Item_drop.run avs objs (two some)).bind κ
  unfold s_slices_DeleteFunc_queue_Item_queue_Item_drop
  simp only [veil_eq]
  split
  · split <;> rfl
  · rfl
theorem s_slices_DeleteFunc_queue_Item_queue_Item_drop_ok : SumOk Try.prog 42 s_slices_DeleteFunc_queue_Item_queue_Item_drop := by
  have hE : EnvOk Try.prog slices_DeleteFunc_queue_Item_queue_Item_drop_E := env_ok (l := [(43, s_queue_Queue_Drop_c1), (60, s_slices_IndexFunc_queue_Item_queue_Item)]) th_ok any_ok ⟨⟨s_queue_Queue_Drop_c1_ok, s_queue_Queue_Drop_c1_det⟩, ⟨s_slices_IndexFunc_queue_Item_queue_Item_ok, s_slices_IndexFunc_queue_Item_queue_Item_det⟩, trivial⟩ _
  refine sum_ok hE Try.func42 rfl (by kernel_rfl) s_slices_DeleteFunc_queue_Item_queue_Item_drop [.mv 47 (.pair (.int .i64) (.int .i64))] slices_DeleteFunc_queue_Item_queue_Item_drop.k ?_
  intro R avs objs κ r h
  unfold s_slices_DeleteFunc_queue_Item_queue_Item_drop at h
  simp only [veil_eq] at h
  split at h
  · rename_i s id0
    split at h
    · cases h
    · rename_i y hy
      refine ⟨BIG, _, _, _, (slices_DeleteFunc_queue_Item_queue_Item_drop.eq BIG s id0).trans hy, ?_, h⟩
      intro rs ros hk
      unfold slices_DeleteFunc_queue_Item_queue_Item_drop.k at hk
      split at hk
      · first | (cases hk; exact ⟨rfl, rfl⟩) | (have e := Option.some.inj hk; rw [← e]; exact ⟨rfl, rfl⟩)
      · cases hk
  · cases h
noncomputable def slices_DeleteFunc_queue_Item_queue_Item_take_E : Env := ⟨th, gam [(46, s_queue_Queue_Take_c1), (60, s_slices_IndexFunc_queue_Item_queue_Item)], fun i => if i = 888888 then ⟨[1], [], []⟩ else if i = 5 then ⟨[0, 1, 5, 6], [], []⟩ else ⟨[], [], []⟩⟩
noncomputable def slices_DeleteFunc_queue_Item_queue_Item_take.k (rs : List AV) (os : List Den.Obj) : Option ((List Int) × Int × (List (Int × Int))) :=
  match rs, os with
  | [.row 4], [.gone, .box [.row 2], .row 3 (.int .i64) r0 false, .box [.d (.int .i64) r1], .row 47 (.pair (.int .i64) (.int .i64)) r2 false] => some (r0, r1, r2)
  | _, _ => none
noncomputable def slices_DeleteFunc_queue_Item_queue_Item_take.s5 (s : List (Int × Int)) (out : List Int) (b0 : Int) (x1 : Int) (x2 : Int) (x3 : (List (Int × Int))) (x4 : (List Int)) (x5 : Int) : St := ⟨[.row 0, .fn (.func 46) [] [.ptr 1 0, .ptr 3 0], .dead, .dead, .dead, .d (.int .i64) x1, .d (.int .i64) x2, .dead, .dead, .dead, .dead, .dead, .dead, .dead, .dead, .dead, .dead, .dead, .dead, .dead, .dead, .dead, .dead, .dead, .dead, .dead, .dead, .dead, .dead, .dead, .dead, .dead, .dead, .dead, .dead, .dead, .dead, .dead, .dead, .dead, .dead, .dead], ofL [(0, .row 47 (.pair (.int .i64) (.int .i64)) x3 false), (1, .box [.row 2]), (2, .row 3 (.int .i64) x4 false), (3, .box [.d (.int .i64) x5])], 4⟩
noncomputable def slices_DeleteFunc_queue_Item_queue_Item_take.b5 (s : List (Int × Int)) (out : List Int) (b0 : Int) (A5 : Int → Int → (List (Int × Int)) → (List Int) → Int → Option ((List Int) × Int × (List (Int × Int)))) (x1 : Int) (x2 : Int) (x3 : (List (Int × Int))) (x4 : (List Int)) (x5 : Int) : Option ((List Int) × Int × (List (Int × Int))) :=
  (if (decide (x2 < ((((List.length x3)) : Nat) : Int))) then (match (idx x3 x2) with | none => none | some y6 => (match (idx x3 x2) with | none => none | some y7 => (match (veil (queue_Queue_Take_c1.f BIG y7.1 y7.2 x4 x5)) with | none => none | some y8 => (if (!y8.1) then (match (idx x3 x1) with | none => none | some y9 => (match (idx x3 x1) with | none => none | some y10 => A5 (Go.IntKind.wrap .i64 (x1 + (1 : Int))) (Go.IntKind.wrap .i64 (x2 + (1 : Int))) (List.set x3 (Int.toNat x1) (y7.1, y7.2)) y8.2.1 y8.2.2)) else A5 x1 (Go.IntKind.wrap .i64 (x2 + (1 : Int))) x3 y8.2.1 y8.2.2)))) else (if (((0 : Int) ≤ x1) ∧ (x1 ≤ ((((List.length x3)) : Nat) : Int))) then (if (((Int.toNat x1) ≤ (List.length x3)) ∧ ((List.length x3) ≤ (List.length x3))) then (if (((0 : Int) ≤ x1) ∧ (x1 ≤ ((((List.length (((List.take (Int.toNat x1) x3) ++ (List.replicate ((List.length x3) - (Int.toNat x1)) (zeroI (Go.Den.Ty.pair (Go.Den.Ty.int .i64) (Go.Den.Ty.int .i64))))) ++ (List.drop (List.length x3) x3)))) : Nat) : Int))) then (if (((0 : Nat) = (0 : Nat)) ∧ ((Int.toNat x1) ≤ (List.length (((List.take (Int.toNat x1) x3) ++ (List.replicate ((List.length x3) - (Int.toNat x1)) (zeroI (Go.Den.Ty.pair (Go.Den.Ty.int .i64) (Go.Den.Ty.int .i64))))) ++ (List.drop (List.length x3) x3))))) then some (x4, x5, (List.take (Int.toNat x1) (((List.take (Int.toNat x1) x3) ++ (List.replicate ((List.length x3) - (Int.toNat x1)) (zeroI (Go.Den.Ty.pair (Go.Den.Ty.int .i64) (Go.Den.Ty.int .i64))))) ++ (List.drop (List.length x3) x3)))) else none) else none) else none) else none))
noncomputable def slices_DeleteFunc_queue_Item_queue_Item_take.l5 (fuel : Nat) (s : List (Int × Int)) (out : List Int) (b0 : Int) : Nat → Int → Int → (List (Int × Int)) → (List Int) → Int → Option ((List Int) × Int × (List (Int × Int)))
  | 0, _, _, _, _, _ => none
  | k + 1, x1, x2, x3, x4, x5 => slices_DeleteFunc_queue_Item_queue_Item_take.b5 s out b0 (slices_DeleteFunc_queue_Item_queue_Item_take.l5 fuel s out b0 k) x1 x2 x3 x4 x5
noncomputable def slices_DeleteFunc_queue_Item_queue_Item_take.b (s : List (Int × Int)) (out : List Int) (b0 : Int) (E5 : Int → Int → (List (Int × Int)) → (List Int) → Int → Option ((List Int) × Int × (List (Int × Int)))) : Option ((List Int) × Int × (List (Int × Int))) :=
  (match (veil (slices_IndexFunc_queue_Item_queue_Item_take.f BIG s out b0)) with | none => none | some y0 => (if (y0.1 == (-(1 : Int))) then some (y0.2.2.1, y0.2.2.2, y0.2.1) else E5 y0.1 (Go.IntKind.wrap .i64 (y0.1 + (1 : Int))) y0.2.1 y0.2.2.1 y0.2.2.2))
noncomputable def slices_DeleteFunc_queue_Item_queue_Item_take.f (fuel : Nat) (s : List (Int × Int)) (out : List Int) (b0 : Int) : Option ((List Int) × Int × (List (Int × Int))) := slices_DeleteFunc_queue_Item_queue_Item_take.b s out b0 (slices_DeleteFunc_queue_Item_queue_Item_take.l5 fuel s out b0 fuel)
theorem slices_DeleteFunc_queue_Item_queue_Item_take.l5_eq (fuel : Nat) (s : List (Int × Int)) (out : List Int) (b0 : Int) : ∀ (k : Nat) (x1 : Int) (x2 : Int) (x3 : (List (Int × Int))) (x4 : (List Int)) (x5 : Int), lp slices_DeleteFunc_queue_Item_queue_Item_take_E fuel Try.f42 [.mv 47 (.pair (.int .i64) (.int .i64))] 4 slices_DeleteFunc_queue_Item_queue_Item_take.k 5 [] k (slices_DeleteFunc_queue_Item_queue_Item_take.s5 s out b0 x1 x2 x3 x4 x5) = slices_DeleteFunc_queue_Item_queue_Item_take.l5 fuel s out b0 k x1 x2 x3 x4 x5 := by
  intro k
  induction k with
  | zero => intro x1 x2 x3 x4 x5; rfl
  | succ k ih =>
    intro x1 x2 x3 x4 x5
    have h : lp slices_DeleteFunc_queue_Item_queue_Item_take_E fuel Try.f42 [.mv 47 (.pair (.int .i64) (.int .i64))] 4 slices_DeleteFunc_queue_Item_queue_Item_take.k 5 [] (k + 1) (slices_DeleteFunc_queue_Item_queue_Item_take.s5 s out b0 x1 x2 x3 x4 x5) = slices_DeleteFunc_queue_Item_queue_Item_take.b5 s out b0 (fun x1 x2 x3 x4 x5 => lp slices_DeleteFunc_queue_Item_queue_Item_take_E fuel Try.f42 [.mv 47 (.pair (.int .i64) (.int .i64))] 4 slices_DeleteFunc_queue_Item_queue_Item_take.k 5 [] k (slices_DeleteFunc_queue_Item_queue_Item_take.s5 s out b0 x1 x2 x3 x4 x5)) x1 x2 x3 x4 x5 := by kernel_rfl
    rw [h]
    have e5 : (fun x1 x2 x3 x4 x5 => lp slices_DeleteFunc_queue_Item_queue_Item_take_E fuel Try.f42 [.mv 47 (.pair (.int .i64) (.int .i64))] 4 slices_DeleteFunc_queue_Item_queue_Item_take.k 5 [] k (slices_DeleteFunc_queue_Item_queue_Item_take.s5 s out b0 x1 x2 x3 x4 x5)) = slices_DeleteFunc_queue_Item_queue_Item_take.l5 fuel s out b0 k := (funext fun x1 => (funext fun x2 => (funext fun x3 => (funext fun x4 => (funext fun x5 => ih x1 x2 x3 x4 x5)))))
    rw [e5]
    rfl
theorem slices_DeleteFunc_queue_Item_queue_Item_take.eq (fuel : Nat) (s : List (Int × Int)) (out : List Int) (b0 : Int) : (denF slices_DeleteFunc_queue_Item_queue_Item_take_E loopN fuel Try.f42 [.mv 47 (.pair (.int .i64) (.int .i64))] [.row 0, .fn (.func 46) [] [.ptr 1 0, .ptr 3 0]] [.row 47 (.pair (.int .i64) (.int .i64)) s false, .box [.row 2], .row 3 (.int .i64) out false, .box [.d (.int .i64) b0]] slices_DeleteFunc_queue_Item_queue_Item_take.k) = slices_DeleteFunc_queue_Item_queue_Item_take.f fuel s out b0 := by
  have h : (denF slices_DeleteFunc_queue_Item_queue_Item_take_E loopN fuel Try.f42 [.mv 47 (.pair (.int .i64) (.int .i64))] [.row 0, .fn (.func 46) [] [.ptr 1 0, .ptr 3 0]] [.row 47 (.pair (.int .i64) (.int .i64)) s false, .box [.row 2], .row 3 (.int .i64) out false, .box [.d (.int .i64) b0]] slices_DeleteFunc_queue_Item_queue_Item_take.k) = slices_DeleteFunc_queue_Item_queue_Item_take.b s out b0 (fun x1 x2 x3 x4 x5 => lp slices_DeleteFunc_queue_Item_queue_Item_take_E fuel Try.f42 [.mv 47 (.pair (.int .i64) (.int .i64))] 4 slices_DeleteFunc_queue_Item_queue_Item_take.k 5 [] fuel (slices_DeleteFunc_queue_Item_queue_Item_take.s5 s out b0 x1 x2 x3 x4 x5)) := by kernel_rfl
  rw [h]
  have e5 : (fun x1 x2 x3 x4 x5 => lp slices_DeleteFunc_queue_Item_queue_Item_take_E fuel Try.f42 [.mv 47 (.pair (.int .i64) (.int .i64))] 4 slices_DeleteFunc_queue_Item_queue_Item_take.k 5 [] fuel (slices_DeleteFunc_queue_Item_queue_Item_take.s5 s out b0 x1 x2 x3 x4 x5)) = slices_DeleteFunc_queue_Item_queue_Item_take.l5 fuel s out b0 fuel := (funext fun x1 => (funext fun x2 => (funext fun x3 => (funext fun x4 => (funext fun x5 => slices_DeleteFunc_queue_Item_queue_Item_take.l5_eq fuel s out b0 fuel x1 x2 x3 x4 x5)))))
  rw [e5]
  rfl
theorem slices_DeleteFunc_queue_Item_queue_Item_take.l5_at (fuel nN kK : Nat) (hN : nN = kK + 1) (s : List (Int × Int)) (out : List Int) (b0 : Int) (x1 : Int) (x2 : Int) (x3 : (List (Int × Int))) (x4 : (List Int)) (x5 : Int) : slices_DeleteFunc_queue_Item_queue_Item_take.l5 fuel s out b0 nN x1 x2 x3 x4 x5 = slices_DeleteFunc_queue_Item_queue_Item_take.b5 s out b0 (slices_DeleteFunc_queue_Item_queue_Item_take.l5 fuel s out b0 kK) x1 x2 x3 x4 x5 := by
  subst hN
  rfl
noncomputable def s_slices_DeleteFunc_queue_Item_queue_Item_take : Den.Sum := ⟨[.own 47 (.pair (.int .i64) (.int .i64)), .raw], fun args objs κ => match args, objs with
  | [.row 0, .fn (.func 46) [] [.ptr 1 0, .ptr 3 0]], [.row 47 (.pair (.int .i64) (.int .i64)) s false, .box [.row 2], .row 3 (.int .i64) out false, .box [.d (.int .i64) b0]] => (match veil (slices_DeleteFunc_queue_Item_queue_Item_take.f BIG s out b0) with | none => none | some y => κ [.row 4] [.gone, .box [.row 2], .row 3 (.int .i64) y.1 false, .box [.d (.int .i64) y.2.1], .row 47 (.pair (.int .i64) (.int .i64)) y.2.2 false])
  | _, _ => none⟩
theorem s_slices_DeleteFunc_queue_Item_queue_Item_take_det : SumDet s_slices_DeleteFunc_queue_Item_queue_Item_take := fun avs objs R κ => by
  show s_slices_DeleteFunc_queue_Item_queue_Item_take.run avs objs (two κ) = (s_slices_DeleteFunc_queue_Item_queue_Item_take.run avs objs (two some)).bind κ
  unfold s_slices_DeleteFunc_queue_Item_queue_Item_take
  simp only [veil_eq]
  split
  · split <;> rfl
  · rfl
theorem s_slices_DeleteFunc_queue_Item_queue_Item_take_ok : SumOk Try.prog 42 s_slices_DeleteFunc_queue_Item_queue_Item_take := by
  have hE : EnvOk Try.prog slices_DeleteFunc_queue_Item_queue_Item_take_E := env_ok (l := [(46, s_queue_Queue_Take_c1), (60, s_slices_IndexFunc_queue_Item_queue_Item)]) th_ok any_ok ⟨⟨s_queue_Queue_Take_c1_ok, s_queue_Queue_Take_c1_det⟩, ⟨s_slices_IndexFunc_queue_Item_queue_Item_ok, s_slices_IndexFunc_queue_Item_queue_Item_det⟩, trivial⟩ _
  refine sum_ok hE Try.func42 rfl (by kernel_rfl) s_slices_DeleteFunc_queue_Item_queue_Item_take [.mv 47 (.pair (.int .i64) (.int .i64))] slices_DeleteFunc_queue_Item_queue_Item_take.k ?_
  intro R avs objs κ r h
  unfold s_slices_DeleteFunc_queue_Item_queue_Item_take at h
  simp only [veil_eq] at h
  split at h
  · rename_i s out b0
    split at h
    · cases h
    · rename_i y hy
      refine ⟨BIG, _, _, _, (slices_DeleteFunc_queue_Item_queue_Item_take.eq BIG s out b0).trans hy, ?_, h⟩
      intro rs ros hk
      unfold slices_DeleteFunc_queue_Item_queue_Item_take.k at hk
      split at hk
      · first | (cases hk; exact ⟨rfl, rfl⟩) | (have e := Option.some.inj hk; rw [← e]; exact ⟨rfl, rfl⟩)
      · cases hk
  · cases h
noncomputable def s_slices_DeleteFunc_queue_Item_queue_Item : Den.Sum := ⟨[.own 47 (.pair (.int .i64) (.int .i64)), .raw], fun args objs κ => match args, objs with
  | [.row 0, .fn (.func 43) [] [.ptr 1 0]], [.row 47 (.pair (.int .i64) (.int .i64)) s false, .box [.d (.int .i64) id0]] => s_slices_DeleteFunc_queue_Item_queue_Item_drop.run [.row 0, .fn (.func 43) [] [.ptr 1 0]] [.row 47 (.pair (.int .i64) (.int .i64)) s false, .box [.d (.int .i64) id0]] κ
  | [.row 0, .fn (.func 46) [] [.ptr 1 0, .ptr 3 0]], [.row 47 (.pair (.int .i64) (.int .i64)) s false, .box [.row 2], .row 3 (.int .i64) out false, .box [.d (.int .i64) b0]] => s_slices_DeleteFunc_queue_Item_queue_Item_take.run [.row 0, .fn (.func 46) [] [.ptr 1 0, .ptr 3 0]] [.row 47 (.pair (.int .i64) (.int .i64)) s false, .box [.row 2], .row 3 (.int .i64) out false, .box [.d (.int .i64) b0]] κ
  | _, _ => none⟩
theorem s_slices_DeleteFunc_queue_Item_queue_Item_det : SumDet s_slices_DeleteFunc_queue_Item_queue_Item := fun avs objs R κ => by
  show s_slices_DeleteFunc_queue_Item_queue_Item.run avs objs (two κ) = (s_slices_DeleteFunc_queue_Item_queue_Item.run avs objs (two some)).bind κ
  unfold s_slices_DeleteFunc_queue_Item_queue_Item
  simp only
  split
  · exact s_slices_DeleteFunc_queue_Item_queue_Item_drop_det _ _ R κ
  · exact s_slices_DeleteFunc_queue_Item_queue_Item_take_det _ _ R κ
  · rfl
theorem s_slices_DeleteFunc_queue_Item_queue_Item_ok : SumOk Try.prog 42 s_slices_DeleteFunc_queue_Item_queue_Item := by
  refine ⟨s_slices_DeleteFunc_queue_Item_queue_Item_drop_ok.1, ?_⟩
  intro R avs objs κ r h
  unfold s_slices_DeleteFunc_queue_Item_queue_Item at h
  simp only at h
  split at h
  · exact s_slices_DeleteFunc_queue_Item_queue_Item_drop_ok.2 _ _ κ r h
  · exact s_slices_DeleteFunc_queue_Item_queue_Item_take_ok.2 _ _ κ r h
  · cases h
noncomputable def slices_SortStableFunc_queue_Item_queue_Item_E : Env := ⟨th, gam [(50, s_queue_Queue_All_c1), (62, s_slices_stableCmpFunc_queue_Item)], fun i => ⟨[], [], []⟩⟩
noncomputable def slices_SortStableFunc_queue_Item_queue_Item.k (rs : List AV) (os : List Den.Obj) : Option (List (Int × Int)) :=
  match rs, os with
  | [], [.row 47 (.pair (.int .i64) (.int .i64)) r0 false] => some r0
  | _, _ => none
noncomputable def slices_SortStableFunc_queue_Item_queue_Item.b (l : List (Int × Int)) : Option (List (Int × Int)) :=
  (match (veil (slices_stableCmpFunc_queue_Item.f BIG l ((((List.length l)) : Nat) : Int))) with | none => none | some y0 => some (y0))
noncomputable def slices_SortStableFunc_queue_Item_queue_Item.f (fuel : Nat) (l : List (Int × Int)) : Option (List (Int × Int)) := slices_SortStableFunc_queue_Item_queue_Item.b l
theorem slices_SortStableFunc_queue_Item_queue_Item.eq (fuel : Nat) (l : List (Int × Int)) : (denF slices_SortStableFunc_queue_Item_queue_Item_E loopN fuel Try.f49 [] [.row 0, .fn (.func 50) [] []] [.row 47 (.pair (.int .i64) (.int .i64)) l false] slices_SortStableFunc_queue_Item_queue_Item.k) = slices_SortStableFunc_queue_Item_queue_Item.f fuel l := by
  kernel_rfl
noncomputable def s_slices_SortStableFunc_queue_Item_queue_Item : Den.Sum := ⟨[.own 47 (.pair (.int .i64) (.int .i64)), .raw], fun args objs κ => match args, objs with
  | [.row 0, .fn (.func 50) [] []], [.row 47 (.pair (.int .i64) (.int .i64)) l false] => (match veil (slices_SortStableFunc_queue_Item_queue_Item.f BIG l) with | none => none | some y => κ [] [.row 47 (.pair (.int .i64) (.int .i64)) y false])
  | _, _ => none⟩
theorem s_slices_SortStableFunc_queue_Item_queue_Item_det : SumDet s_slices_SortStableFunc_queue_Item_queue_Item := fun avs objs R κ => by
  show s_slices_SortStableFunc_queue_Item_queue_Item.run avs objs (two κ) = (s_slices_SortStableFunc_queue_Item_queue_Item.run avs objs (two some)).bind κ
  unfold s_slices_SortStableFunc_queue_Item_queue_Item
  simp only [veil_eq]
  split
  · split <;> rfl
  · rfl
theorem s_slices_SortStableFunc_queue_Item_queue_Item_ok : SumOk Try.prog 49 s_slices_SortStableFunc_queue_Item_queue_Item := by
  have hE : EnvOk Try.prog slices_SortStableFunc_queue_Item_queue_Item_E := env_ok (l := [(50, s_queue_Queue_All_c1), (62, s_slices_stableCmpFunc_queue_Item)]) th_ok any_ok ⟨⟨s_queue_Queue_All_c1_ok, s_queue_Queue_All_c1_det⟩, ⟨s_slices_stableCmpFunc_queue_Item_ok, s_slices_stableCmpFunc_queue_Item_det⟩, trivial⟩ _
  refine sum_ok hE Try.func49 rfl (by kernel_rfl) s_slices_SortStableFunc_queue_Item_queue_Item [] slices_SortStableFunc_queue_Item_queue_Item.k ?_
  intro R avs objs κ r h
  unfold s_slices_SortStableFunc_queue_Item_queue_Item at h
  simp only [veil_eq] at h
  split at h
  · rename_i l
    split at h
    · cases h
    · rename_i y hy
      refine ⟨BIG, _, _, _, (slices_SortStableFunc_queue_Item_queue_Item.eq BIG l).trans hy, ?_, h⟩
      intro rs ros hk
      unfold slices_SortStableFunc_queue_Item_queue_Item.k at hk
      split at hk
      · first | (cases hk; exact ⟨rfl, rfl⟩) | (have e := Option.some.inj hk; rw [← e]; exact ⟨rfl, rfl⟩)
      · cases hk
  · cases h
theorem lenw (n : Nat) (h : n ≤ 1000000) : Go.IntKind.wrap .i64 ((n : Int) + 1) = ((n + 1 : Nat) : Int) := by rw [wrap_small _ (by omega) (by omega)]; simp
def hasI (s : List Int) (v : Int) : Bool := s.any fun y => v == y
theorem fidx_any {α : Type} (p : α → Bool) (s : List α) : decide (fidx p s 0 ≥ 0) = s.any p := by
  rcases fidx_cutk p s 0 with ⟨h, _, h2⟩ | ⟨a, v, b, rfl, _, _, hv, hi⟩
  · rw [h]
    have : s.any p = false := by
      rw [List.any_eq_false]
      intro x hx
      rw [h2 x hx]; simp
    rw [this]; rfl
  · rw [hi]
    have : (a ++ v :: b).any p = true := List.any_eq_true.2 ⟨v, by simp, hv⟩
    rw [this]
    simp <;> omega
theorem slices_Index_int_int_row.loop (v : Int) : ∀ (suf pre : List Int) (n : Nat), suf.length < n → (pre ++ suf).length ≤ 1000000 →
    slices_Index_int_int_row.l2 BIG (pre ++ suf) v n (((pre ++ suf).length : Nat) : Int) ((pre.length : Nat) : Int) = some (fidx (fun y => v == y) suf pre.length, pre ++ suf)
  | suf, pre, 0, h, hl => absurd h (by omega)
  | [], pre, n + 1, h, hl => by
    rw [slices_Index_int_int_row.l2_at BIG (n + 1) n rfl]
    unfold slices_Index_int_int_row.b2
    rw [if_neg (by simp)]
    rfl
  | x :: suf, pre, n + 1, h, hl => by
    have h' : suf.length < n := by simp at h; omega
    have hl' : pre.length + (suf.length + 1) ≤ 1000000 := by simp at hl; omega
    rw [slices_Index_int_int_row.l2_at BIG (n + 1) n rfl]
    unfold slices_Index_int_int_row.b2
    rw [if_pos (by simp; omega), idx_mid]
    dsimp only
    rw [fidx]
    cases hp : v == x with
    | true => rw [if_pos rfl, if_pos rfl]
    | false =>
      rw [if_neg (by simp), if_neg (by simp), lenw _ (by omega)]
      have e := slices_Index_int_int_row.loop v suf (pre ++ [x]) n h' (by simp; omega)
      rw [List.append_assoc, List.singleton_append, show (pre ++ [x]).length = pre.length + 1 by simp] at e
      exact e
theorem slices_Contains_int_int_row.pure (s : List Int) (v : Int) (hs : s.length ≤ 1000000) : slices_Contains_int_int_row.f BIG s v = some (hasI s v, s) := by
  unfold slices_Contains_int_int_row.f slices_Contains_int_int_row.b
  have e : slices_Index_int_int_row.f BIG s v = some (fidx (fun y => v == y) s 0, s) := by
    unfold slices_Index_int_int_row.f slices_Index_int_int_row.b
    exact slices_Index_int_int_row.loop v s [] BIG (by rw [BIG_eq]; omega) hs
  rw [e]
  simp only [veil_eq]
  rw [fidx_any]
  rfl
theorem slices_Index_int_int_dat.loop (v : Int) : ∀ (suf pre : List Int) (n : Nat), suf.length < n → (pre ++ suf).length ≤ 1000000 →
    slices_Index_int_int_dat.l2 BIG (pre ++ suf) v n (((pre ++ suf).length : Nat) : Int) ((pre.length : Nat) : Int) = some (fidx (fun y => v == y) suf pre.length)
  | suf, pre, 0, h, hl => absurd h (by omega)
  | [], pre, n + 1, h, hl => by
    rw [slices_Index_int_int_dat.l2_at BIG (n + 1) n rfl]
    unfold slices_Index_int_int_dat.b2
    rw [if_neg (by simp)]
    rfl
  | x :: suf, pre, n + 1, h, hl => by
    have h' : suf.length < n := by simp at h; omega
    have hl' : pre.length + (suf.length + 1) ≤ 1000000 := by simp at hl; omega
    rw [slices_Index_int_int_dat.l2_at BIG (n + 1) n rfl]
    unfold slices_Index_int_int_dat.b2
    rw [if_pos (by simp; omega), idx_mid]
    dsimp only
    rw [fidx]
    cases hp : v == x with
    | true => rw [if_pos rfl, if_pos rfl]
    | false =>
      rw [if_neg (by simp), if_neg (by simp), lenw _ (by omega)]
      have e := slices_Index_int_int_dat.loop v suf (pre ++ [x]) n h' (by simp; omega)
      rw [List.append_assoc, List.singleton_append, show (pre ++ [x]).length = pre.length + 1 by simp] at e
      exact e
theorem slices_Contains_int_int_dat.pure (s : List Int) (v : Int) (hs : s.length ≤ 1000000) : slices_Contains_int_int_dat.f BIG s v = some (hasI s v) := by
  unfold slices_Contains_int_int_dat.f slices_Contains_int_int_dat.b
  have e : slices_Index_int_int_dat.f BIG s v = some (fidx (fun y => v == y) s 0) := by
    unfold slices_Index_int_int_dat.f slices_Index_int_int_dat.b
    exact slices_Index_int_int_dat.loop v s [] BIG (by rw [BIG_eq]; omega) hs
  rw [e]
  simp only [veil_eq]
  rw [fidx_any]
  rfl
def pDrop (id0 : Int) (v : Int × Int) : Bool := v.1 == id0
def pOut (out : List Int) (b0 : Int) (v : Int × Int) : Bool := hasI out v.1 && decide (v.2 ≥ b0)
theorem queue_Queue_Drop_c1.pure (v : (Int × Int)) (id0 : Int) : queue_Queue_Drop_c1.f BIG v.1 v.2 id0 = some ((pDrop id0) v, id0) := by
  unfold queue_Queue_Drop_c1.f queue_Queue_Drop_c1.b
  first
  | rfl
  | (unfold pDrop; split <;> simp_all)
theorem slices_IndexFunc_queue_Item_queue_Item_drop.loop (fuel : Nat) (id0 : Int) : ∀ (suf pre : List (Int × Int)) (n : Nat), suf.length < n → (pre ++ suf).length ≤ 1000000 →
    slices_IndexFunc_queue_Item_queue_Item_drop.l2 fuel (pre ++ suf) id0 n (((pre ++ suf).length : Nat) : Int) ((pre.length : Nat) : Int) id0 = some (fidx (pDrop id0) suf pre.length, pre ++ suf, id0)
  | suf, pre, 0, h, hl => absurd h (by omega)
  | [], pre, n + 1, h, hl => by
    rw [slices_IndexFunc_queue_Item_queue_Item_drop.l2_at fuel (n + 1) n rfl]
    unfold slices_IndexFunc_queue_Item_queue_Item_drop.b2
    rw [if_neg (by simp)]
    rfl
  | v :: suf, pre, n + 1, h, hl => by
    have h' : suf.length < n := by simp at h; omega
    have hl' : pre.length + (suf.length + 1) ≤ 1000000 := by simp at hl; omega
    rw [slices_IndexFunc_queue_Item_queue_Item_drop.l2_at fuel (n + 1) n rfl]
    unfold slices_IndexFunc_queue_Item_queue_Item_drop.b2
    rw [if_pos (by simp <;> omega), idx_mid]
    dsimp only
    rw [queue_Queue_Drop_c1.pure v id0]
    simp only [veil_eq]
    rw [fidx]
    cases hp : (pDrop id0) v with
    | true => rw [if_pos rfl, if_pos rfl]
    | false =>
      rw [if_neg (by simp), if_neg (by simp), wrap_small _ (by omega) (by omega)]
      have e := slices_IndexFunc_queue_Item_queue_Item_drop.loop fuel id0 suf (pre ++ [v]) n h' (by simp <;> omega)
      rw [List.append_assoc, List.singleton_append] at e
      have e2 : (((pre ++ [v]).length : Nat) : Int) = (pre.length : Int) + 1 := by simp
      rw [e2] at e
      have e3 : (pre ++ [v]).length = pre.length + 1 := by simp
      rw [e3] at e
      exact e
theorem slices_IndexFunc_queue_Item_queue_Item_drop.pure (s : List (Int × Int)) (id0 : Int) (hs : s.length ≤ 1000000) : slices_IndexFunc_queue_Item_queue_Item_drop.f BIG s id0 = some (fidx (pDrop id0) s 0, s, id0) := by
  unfold slices_IndexFunc_queue_Item_queue_Item_drop.f slices_IndexFunc_queue_Item_queue_Item_drop.b
  exact slices_IndexFunc_queue_Item_queue_Item_drop.loop BIG id0 s [] BIG (by rw [BIG_eq]; omega) hs
theorem slices_DeleteFunc_queue_Item_queue_Item_drop.loop (fuel : Nat) (s : List (Int × Int)) (id0 : Int) : ∀ (rest kept junk : List (Int × Int)) (n : Nat), rest.length < n → (kept ++ junk ++ rest).length ≤ 1000000 → junk ≠ [] →
    slices_DeleteFunc_queue_Item_queue_Item_drop.l5 fuel s id0 n ((kept.length : Nat) : Int) (((kept ++ junk).length : Nat) : Int) (kept ++ junk ++ rest) id0 = some (id0, kept ++ rest.filter (fun v => !((pDrop id0) v)))
  | rest, kept, junk, 0, h, hl, hj => absurd h (by omega)
  | [], kept, junk, n + 1, h, hl, hj => by
    rw [slices_DeleteFunc_queue_Item_queue_Item_drop.l5_at fuel (n + 1) n rfl]
    unfold slices_DeleteFunc_queue_Item_queue_Item_drop.b5
    rw [if_neg (by simp), if_pos (by simp <;> omega), if_pos (by simp <;> omega), if_pos (by simp <;> omega), if_pos (by simp <;> omega)]
    simp
  | v :: rest, kept, j :: junk, n + 1, h, hl, hj => by
    have h' : rest.length < n := by simp at h; omega
    have hl' : kept.length + (junk.length + 1) + (rest.length + 1) ≤ 1000000 := by simp at hl; omega
    have ej : ((((kept ++ j :: junk).length : Nat)) : Int) = (kept.length : Int) + junk.length + 1 := by simp <;> omega
    rw [slices_DeleteFunc_queue_Item_queue_Item_drop.l5_at fuel (n + 1) n rfl]
    unfold slices_DeleteFunc_queue_Item_queue_Item_drop.b5
    rw [if_pos (by simp <;> omega), idx_mid]
    dsimp only
    rw [queue_Queue_Drop_c1.pure v id0]
    simp only [veil_eq]
    have ew : Go.IntKind.wrap .i64 ((((kept ++ j :: junk).length : Nat) : Int) + 1) = (((kept ++ j :: (junk ++ [v])).length : Nat) : Int) := by
      rw [wrap_small _ (by omega) (by omega)]; simp <;> omega
    cases hp : (pDrop id0) v with
    | true =>
      rw [if_neg (by simp), ew]
      have e := slices_DeleteFunc_queue_Item_queue_Item_drop.loop fuel s id0 rest kept (j :: (junk ++ [v])) n h' (by simp <;> omega) (by simp)
      have e1 : kept ++ j :: (junk ++ [v]) ++ rest = kept ++ j :: junk ++ v :: rest := by simp
      rw [e1] at e
      rw [e]
      simp [hp]
    | false =>
      have ei : idx (kept ++ j :: junk ++ v :: rest) ((kept.length : Nat) : Int) = some j := by
        have e := idx_mid kept j (junk ++ v :: rest)
        have e1 : kept ++ j :: (junk ++ v :: rest) = kept ++ j :: junk ++ v :: rest := by simp
        rw [e1] at e
        exact e
      rw [if_pos (by simp), ei]
      simp only []
      rw [ew, wrap_small _ (by omega) (by omega)]
      have e := slices_DeleteFunc_queue_Item_queue_Item_drop.loop fuel s id0 rest (kept ++ [v]) (junk ++ [v]) n h' (by simp <;> omega) (by simp)
      have e1 : kept ++ [v] ++ (junk ++ [v]) ++ rest = List.set (kept ++ j :: junk ++ v :: rest) (Int.toNat ((kept.length : Nat) : Int)) v := by
        rw [Int.toNat_natCast]
        simp [List.set_append]
      have e2 : (((kept ++ [v]).length : Nat) : Int) = (kept.length : Int) + 1 := by simp
      have e3 : (((kept ++ [v] ++ (junk ++ [v])).length : Nat) : Int) = (((kept ++ j :: (junk ++ [v])).length : Nat) : Int) := by simp <;> omega
      rw [e1, e2, e3] at e
      refine Eq.trans e ?_
      simp [hp]
theorem slices_DeleteFunc_queue_Item_queue_Item_drop.pure (s : List (Int × Int)) (id0 : Int) (hs : s.length ≤ 1000000) : slices_DeleteFunc_queue_Item_queue_Item_drop.f BIG s id0 = some (id0, s.filter (fun v => !((pDrop id0) v))) := by
  unfold slices_DeleteFunc_queue_Item_queue_Item_drop.f slices_DeleteFunc_queue_Item_queue_Item_drop.b
  rw [slices_IndexFunc_queue_Item_queue_Item_drop.pure s id0 hs]
  simp only [veil_eq]
  rcases fidx_cut (pDrop id0) s with ⟨h, hf⟩ | ⟨a, v, b, rfl, ha, hv, hi⟩
  · rw [h, if_pos (by rfl), hf]
  · rw [hi, if_neg (by simp <;> omega)]
    have e := slices_DeleteFunc_queue_Item_queue_Item_drop.loop BIG (a ++ v :: b) id0 b a [v] BIG (by rw [BIG_eq]; simp at hs; omega) (by simpa using hs) (by simp)
    have e1 : a ++ [v] ++ b = a ++ v :: b := by simp
    have e2 : (((a ++ [v]).length : Nat) : Int) = Go.IntKind.wrap .i64 ((a.length : Int) + 1) := by
      simp at hs; rw [wrap_small _ (by omega) (by omega)]; simp
    rw [e1, e2] at e
    refine Eq.trans e ?_
    simp [hv, ha]
theorem queue_Queue_Take_c1.pure (v : Int × Int) (out : List Int) (b0 : Int) (hc : out.length ≤ 1000000) : queue_Queue_Take_c1.f BIG v.1 v.2 out b0 = some (pOut out b0 v, out, b0) := by
  unfold queue_Queue_Take_c1.f queue_Queue_Take_c1.b
  rw [slices_Contains_int_int_row.pure out v.1 hc]
  simp only [veil_eq]
  unfold pOut
  cases hasI out v.1 <;> simp
theorem slices_IndexFunc_queue_Item_queue_Item_take.loop (fuel : Nat) (out : List Int) (b0 : Int) (hc : out.length ≤ 1000000) : ∀ (suf pre : List (Int × Int)) (n : Nat), suf.length < n → (pre ++ suf).length ≤ 1000000 →
    slices_IndexFunc_queue_Item_queue_Item_take.l2 fuel (pre ++ suf) out b0 n (((pre ++ suf).length : Nat) : Int) ((pre.length : Nat) : Int) out b0 = some (fidx (pOut out b0) suf pre.length, pre ++ suf, out, b0)
  | suf, pre, 0, h, hl => absurd h (by omega)
  | [], pre, n + 1, h, hl => by
    rw [slices_IndexFunc_queue_Item_queue_Item_take.l2_at fuel (n + 1) n rfl]
    unfold slices_IndexFunc_queue_Item_queue_Item_take.b2
    rw [if_neg (by simp)]
    rfl
  | v :: suf, pre, n + 1, h, hl => by
    have h' : suf.length < n := by simp at h; omega
    have hl' : pre.length + (suf.length + 1) ≤ 1000000 := by simp at hl; omega
    rw [slices_IndexFunc_queue_Item_queue_Item_take.l2_at fuel (n + 1) n rfl]
    unfold slices_IndexFunc_queue_Item_queue_Item_take.b2
    rw [if_pos (by simp <;> omega), idx_mid]
    dsimp only
    rw [queue_Queue_Take_c1.pure v out b0 hc]
    simp only [veil_eq]
    rw [fidx]
    cases hp : (pOut out b0) v with
    | true => rw [if_pos rfl, if_pos rfl]
    | false =>
      rw [if_neg (by simp), if_neg (by simp), wrap_small _ (by omega) (by omega)]
      have e := slices_IndexFunc_queue_Item_queue_Item_take.loop fuel out b0 hc suf (pre ++ [v]) n h' (by simp <;> omega)
      rw [List.append_assoc, List.singleton_append] at e
      have e2 : (((pre ++ [v]).length : Nat) : Int) = (pre.length : Int) + 1 := by simp
      rw [e2] at e
      have e3 : (pre ++ [v]).length = pre.length + 1 := by simp
      rw [e3] at e
      exact e
theorem slices_IndexFunc_queue_Item_queue_Item_take.pure (s : List (Int × Int)) (out : List Int) (b0 : Int) (hc : out.length ≤ 1000000) (hs : s.length ≤ 1000000) : slices_IndexFunc_queue_Item_queue_Item_take.f BIG s out b0 = some (fidx (pOut out b0) s 0, s, out, b0) := by
  unfold slices_IndexFunc_queue_Item_queue_Item_take.f slices_IndexFunc_queue_Item_queue_Item_take.b
  exact slices_IndexFunc_queue_Item_queue_Item_take.loop BIG out b0 hc s [] BIG (by rw [BIG_eq]; omega) hs
theorem slices_DeleteFunc_queue_Item_queue_Item_take.loop (fuel : Nat) (s : List (Int × Int)) (out : List Int) (b0 : Int) (hc : out.length ≤ 1000000) : ∀ (rest kept junk : List (Int × Int)) (n : Nat), rest.length < n → (kept ++ junk ++ rest).length ≤ 1000000 → junk ≠ [] →
    slices_DeleteFunc_queue_Item_queue_Item_take.l5 fuel s out b0 n ((kept.length : Nat) : Int) (((kept ++ junk).length : Nat) : Int) (kept ++ junk ++ rest) out b0 = some (out, b0, kept ++ rest.filter (fun v => !((pOut out b0) v)))
  | rest, kept, junk, 0, h, hl, hj => absurd h (by omega)
  | [], kept, junk, n + 1, h, hl, hj => by
    rw [slices_DeleteFunc_queue_Item_queue_Item_take.l5_at fuel (n + 1) n rfl]
    unfold slices_DeleteFunc_queue_Item_queue_Item_take.b5
    rw [if_neg (by simp), if_pos (by simp <;> omega), if_pos (by simp <;> omega), if_pos (by simp <;> omega), if_pos (by simp <;> omega)]
    simp
  | v :: rest, kept, j :: junk, n + 1, h, hl, hj => by
    have h' : rest.length < n := by simp at h; omega
    have hl' : kept.length + (junk.length + 1) + (rest.length + 1) ≤ 1000000 := by simp at hl; omega
    have ej : ((((kept ++ j :: junk).length : Nat)) : Int) = (kept.length : Int) + junk.length + 1 := by simp <;> omega
    rw [slices_DeleteFunc_queue_Item_queue_Item_take.l5_at fuel (n + 1) n rfl]
    unfold slices_DeleteFunc_queue_Item_queue_Item_take.b5
    rw [if_pos (by simp <;> omega), idx_mid]
    dsimp only
    rw [queue_Queue_Take_c1.pure v out b0 hc]
    simp only [veil_eq]
    have ew : Go.IntKind.wrap .i64 ((((kept ++ j :: junk).length : Nat) : Int) + 1) = (((kept ++ j :: (junk ++ [v])).length : Nat) : Int) := by
      rw [wrap_small _ (by omega) (by omega)]; simp <;> omega
    cases hp : (pOut out b0) v with
    | true =>
      rw [if_neg (by simp), ew]
      have e := slices_DeleteFunc_queue_Item_queue_Item_take.loop fuel s out b0 hc rest kept (j :: (junk ++ [v])) n h' (by simp <;> omega) (by simp)
      have e1 : kept ++ j :: (junk ++ [v]) ++ rest = kept ++ j :: junk ++ v :: rest := by simp
      rw [e1] at e
      rw [e]
      simp [hp]
    | false =>
      have ei : idx (kept ++ j :: junk ++ v :: rest) ((kept.length : Nat) : Int) = some j := by
        have e := idx_mid kept j (junk ++ v :: rest)
        have e1 : kept ++ j :: (junk ++ v :: rest) = kept ++ j :: junk ++ v :: rest := by simp
        rw [e1] at e
        exact e
      rw [if_pos (by simp), ei]
      simp only []
      rw [ew, wrap_small _ (by omega) (by omega)]
      have e := slices_DeleteFunc_queue_Item_queue_Item_take.loop fuel s out b0 hc rest (kept ++ [v]) (junk ++ [v]) n h' (by simp <;> omega) (by simp)
      have e1 : kept ++ [v] ++ (junk ++ [v]) ++ rest = List.set (kept ++ j :: junk ++ v :: rest) (Int.toNat ((kept.length : Nat) : Int)) v := by
        rw [Int.toNat_natCast]
        simp [List.set_append]
      have e2 : (((kept ++ [v]).length : Nat) : Int) = (kept.length : Int) + 1 := by simp
      have e3 : (((kept ++ [v] ++ (junk ++ [v])).length : Nat) : Int) = (((kept ++ j :: (junk ++ [v])).length : Nat) : Int) := by simp <;> omega
      rw [e1, e2, e3] at e
      refine Eq.trans e ?_
      simp [hp]
theorem slices_DeleteFunc_queue_Item_queue_Item_take.pure (s : List (Int × Int)) (out : List Int) (b0 : Int) (hc : out.length ≤ 1000000) (hs : s.length ≤ 1000000) : slices_DeleteFunc_queue_Item_queue_Item_take.f BIG s out b0 = some (out, b0, s.filter (fun v => !((pOut out b0) v))) := by
  unfold slices_DeleteFunc_queue_Item_queue_Item_take.f slices_DeleteFunc_queue_Item_queue_Item_take.b
  rw [slices_IndexFunc_queue_Item_queue_Item_take.pure s out b0 hc hs]
  simp only [veil_eq]
  rcases fidx_cut (pOut out b0) s with ⟨h, hf⟩ | ⟨a, v, b, rfl, ha, hv, hi⟩
  · rw [h, if_pos (by rfl), hf]
  · rw [hi, if_neg (by simp <;> omega)]
    have e := slices_DeleteFunc_queue_Item_queue_Item_take.loop BIG (a ++ v :: b) out b0 hc b a [v] BIG (by rw [BIG_eq]; simp at hs; omega) (by simpa using hs) (by simp)
    have e1 : a ++ [v] ++ b = a ++ v :: b := by simp
    have e2 : (((a ++ [v]).length : Nat) : Int) = Go.IntKind.wrap .i64 ((a.length : Int) + 1) := by
      simp at hs; rw [wrap_small _ (by omega) (by omega)]; simp
    rw [e1, e2] at e
    refine Eq.trans e ?_
    simp [hv, ha]
abbrev QT := Int × Int
theorem rev_loop (l : List QT) : ∀ (k : Nat) (mid P S : List QT) (n : Nat), mid.length ≤ k → mid.length < n → P.length + mid.length + S.length ≤ 1000000 →
    slices_Reverse_queue_Item_queue_Item.l1 BIG l n ((P.length : Nat) : Int) ((P.length : Int) + mid.length - 1) (P ++ mid ++ S) = some (P ++ mid.reverse ++ S)
  | k, mid, P, S, 0, _, h, _ => absurd h (by omega)
  | k, [], P, S, n + 1, _, h, hb => by
    rw [slices_Reverse_queue_Item_queue_Item.l1_at BIG (n + 1) n rfl]
    unfold slices_Reverse_queue_Item_queue_Item.b1
    rw [if_neg (by simp <;> omega)]
    rfl
  | k, [x], P, S, n + 1, _, h, hb => by
    rw [slices_Reverse_queue_Item_queue_Item.l1_at BIG (n + 1) n rfl]
    unfold slices_Reverse_queue_Item_queue_Item.b1
    rw [if_neg (by simp <;> omega)]
    rfl
  | 0, x :: y :: m, P, S, n + 1, hk, h, hb => by simp at hk
  | k + 1, x :: y :: m, P, S, n + 1, hk, h, hb => by
    obtain ⟨mid, z, hm⟩ : ∃ mid z, y :: m = mid ++ [z] := ⟨(y :: m).dropLast, (y :: m).getLast (by simp), (List.dropLast_concat_getLast (by simp)).symm⟩
    rw [hm] at hk h hb ⊢
    simp at hk h hb
    have e1 : P ++ x :: (mid ++ [z]) ++ S = P ++ x :: (mid ++ z :: S) := by simp
    have e2 : P ++ x :: (mid ++ z :: S) = (P ++ x :: mid) ++ z :: S := by simp
    have ej : (P.length : Int) + ((x :: (mid ++ [z])).length : Nat) - 1 = (((P ++ x :: mid).length : Nat) : Int) := by simp; omega
    rw [slices_Reverse_queue_Item_queue_Item.l1_at BIG (n + 1) n rfl]
    unfold slices_Reverse_queue_Item_queue_Item.b1
    rw [if_pos (by simp; omega), ej, e1]
    have i1 : idx (P ++ x :: (mid ++ z :: S)) (((P ++ x :: mid).length : Nat) : Int) = some z := by rw [e2]; exact idx_mid _ z S
    have i2 : idx (P ++ x :: (mid ++ z :: S)) ((P.length : Nat) : Int) = some x := idx_mid _ x _
    have s1 : List.set (P ++ x :: (mid ++ z :: S)) (Int.toNat ((P.length : Nat) : Int)) z = (P ++ z :: mid) ++ z :: S := by
      rw [Int.toNat_natCast]; simp [List.set_append]
    have i3 : idx ((P ++ z :: mid) ++ z :: S) (((P ++ x :: mid).length : Nat) : Int) = some z := by
      have : (P ++ x :: mid).length = (P ++ z :: mid).length := by simp
      rw [this]; exact idx_mid _ z S
    have s2 : List.set ((P ++ z :: mid) ++ z :: S) (Int.toNat (((P ++ x :: mid).length : Nat) : Int)) x = P ++ z :: mid ++ x :: S := by
      have : (P ++ x :: mid).length = (P ++ z :: mid).length := by simp
      rw [this, Int.toNat_natCast, List.set_append_right _ _ (Nat.le_refl _)]
      simp
    rw [i1]; dsimp only
    rw [i2]; dsimp only
    rw [show (z.1, z.2) = z from rfl, show (x.1, x.2) = x from rfl, s1, i3]
    dsimp only
    rw [s2]
    have ih := rev_loop l k mid (P ++ [z]) (x :: S) n (by omega) (by omega) (by simp; omega)
    have f1 : Go.IntKind.wrap .i64 (((P.length : Nat) : Int) + 1) = (((P ++ [z]).length : Nat) : Int) := by rw [wrap_small _ (by omega) (by omega)]; simp
    have f2 : Go.IntKind.wrap .i64 ((((P ++ x :: mid).length : Nat) : Int) - 1) = (((P ++ [z]).length : Nat) : Int) + mid.length - 1 := by rw [wrap_small _ (by simp; omega) (by simp; omega)]; simp; omega
    rw [f1, f2]
    have f3 : P ++ z :: mid ++ x :: S = P ++ [z] ++ mid ++ x :: S := by simp
    rw [f3, ih]
    simp
theorem slices_Reverse_queue_Item_queue_Item.pure (l : List QT) (hl : l.length ≤ 1000000) : slices_Reverse_queue_Item_queue_Item.f BIG l = some l.reverse := by
  unfold slices_Reverse_queue_Item_queue_Item.f slices_Reverse_queue_Item_queue_Item.b
  have e := rev_loop l l.length l [] [] BIG (Nat.le_refl _) (by rw [BIG_eq]; omega) (by simpa using hl)
  have f : Go.IntKind.wrap .i64 (((l.length : Nat) : Int) - 1) = (([] : List QT).length : Int) + l.length - 1 := by rw [wrap_small _ (by omega) (by omega)]; simp
  rw [f]
  simpa using e
theorem queue_Queue_All_c1.pure (a b : QT) : ∃ c, queue_Queue_All_c1.f BIG a.1 a.2 b.1 b.2 = some c ∧ decide (c < 0) = decide (a.2 < b.2) := by
  unfold queue_Queue_All_c1.f queue_Queue_All_c1.b
  by_cases h : a.2 < b.2
  · rw [if_pos (by simp [h])]
    exact ⟨_, rfl, by simp [h]⟩
  · rw [if_neg (by simp [h])]
    by_cases h2 : a.2 > b.2
    · rw [if_pos (by simp [h2])]
      exact ⟨_, rfl, by simp [h]⟩
    · rw [if_neg (by simp [h2])]
      exact ⟨_, rfl, by simp [h]⟩
/-- a sorted row, from its end -/
def insR (v : QT) : List QT → List QT
  | [] => [v]
  | x :: R => if v.2 < x.2 then x :: insR v R else v :: x :: R
def isr (R : List QT) : List QT → List QT
  | [] => R
  | v :: l => isr (insR v R) l
def isort (l : List QT) : List QT := (isr [] l).reverse
theorem insR_len (v : QT) : ∀ R : List QT, (insR v R).length = R.length + 1
  | [] => rfl
  | x :: R => by rw [insR]; split <;> simp [insR_len v R]
theorem isr_len : ∀ (l R : List QT), (isr R l).length = R.length + l.length
  | [], R => rfl
  | v :: l, R => by rw [isr, isr_len l, insR_len]; simp; omega
theorem isort_len (l : List QT) : (isort l).length = l.length := by unfold isort; rw [List.length_reverse, isr_len]; simp
theorem insR_mem (v x : QT) : ∀ R : List QT, x ∈ insR v R ↔ x = v ∨ x ∈ R
  | [] => by simp [insR]
  | y :: R => by
    rw [insR]
    split
    · simp only [List.mem_cons, insR_mem v x R]
      constructor
      · rintro (h | h | h) <;> simp [h]
      · rintro (h | h | h) <;> simp [h]
    · simp
end Go.Proofs.Ytkfiohbhihmcnaa
