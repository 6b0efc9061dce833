/- QueueOften: whatever ids and numbers are given, the law returns true, and the input reads as it did. There is no condition. -/
import Derived.Test.YtkfiohbhihmcnaaEv3
import Derived.Test.YtkfiohbhihmcnaaRows
import Derived.Test.YtkfiohbhihmcnaaTh
import Derived.KernelRfl
import Derived.Laws.BitsLemmas
import Derived.Test.YtkfiohbhihmcnaaJ0
set_option linter.unusedVariables false
set_option linter.unusedSimpArgs false
set_option maxRecDepth 100000
namespace Go.Proofs.Ytkfiohbhihmcnaa
open Go.Den
theorem Try.own : ownKnob Try.prog.godebug = none := by kernel_rfl
theorem Try.laidOut : laidOutB Try.prog = true := by kernel_rfl
theorem Try.mapsRow : mapsRowed Try.prog = true := by kernel_rfl
theorem Try.slicesSize : slicesSized Try.prog = true := by kernel_rfl
noncomputable def BIG : Nat := veil 1099511627776
theorem BIG_eq : BIG = 1099511627776 := veil_eq _
theorem big_eq : BIG = (BIG - 1) + 1 := by rw [BIG_eq]
theorem any_ok : Try.prog.follows .mixedOrders = true := by kernel_rfl
theorem wrap_small (n : Int) (h0 : -9223372036854775808 ≤ n) (h1 : n < 9223372036854775808) : Go.IntKind.wrap .i64 n = n := by
  rw [Go.IntKind.wrap_i64]; omega
theorem idx_at {α : Type} (l : List α) (i : Nat) : idx l (i : Int) = l[i]? := by
  unfold idx
  rw [if_pos (by omega)]
  simp
def fidx {α : Type} (p : α → Bool) : List α → Nat → Int
  | [], _ => -1
  | x :: xs, k => if p x = true then (k : Int) else fidx p xs (k + 1)
theorem idx_mid {α : Type} (a : List α) (v : α) (b : List α) : idx (a ++ v :: b) ((a.length : Nat) : Int) = some v := by
  rw [idx_at]; simp
theorem fidx_cutk {α : Type} (p : α → Bool) : ∀ (s : List α) (k : Nat), (fidx p s k = -1 ∧ s.filter (fun v => !(p v)) = s ∧ ∀ x ∈ s, p x = false) ∨ ∃ a v b, s = a ++ v :: b ∧ (a.filter (fun v => !(p v)) = a) ∧ (∀ x ∈ a, p x = false) ∧ p v = true ∧ fidx p s k = (k : Int) + a.length
  | [], k => Or.inl ⟨rfl, rfl, by simp⟩
  | x :: s, k => by
    rw [fidx]
    cases hp : p x with
    | true => exact Or.inr ⟨[], x, s, rfl, rfl, by simp, hp, by simp⟩
    | false =>
      rw [if_neg (by simp)]
      rcases fidx_cutk p s (k + 1) with ⟨h, hf, ha⟩ | ⟨a, v, b, e, ha, ha2, hv, hi⟩
      · exact Or.inl ⟨h, by simp [hp, hf], by simp [hp]; exact ha⟩
      · exact Or.inr ⟨x :: a, v, b, by rw [e]; rfl, by simp [hp, ha], by simp [hp]; exact ha2, hv, by rw [hi]; simp <;> omega⟩
theorem fidx_cut {α : Type} (p : α → Bool) (s : List α) : (fidx p s 0 = -1 ∧ s.filter (fun v => !(p v)) = s) ∨ ∃ a v b, s = a ++ v :: b ∧ (a.filter (fun v => !(p v)) = a) ∧ p v = true ∧ fidx p s 0 = (a.length : Int) := by
  rcases fidx_cutk p s 0 with ⟨h, hf, _⟩ | ⟨a, v, b, e, ha, _, hv, hi⟩
  · exact Or.inl ⟨h, hf⟩
  · exact Or.inr ⟨a, v, b, e, ha, hv, by rw [hi]; simp⟩
def renC1 : Go.Shelf.Ren where
  f := fun x => match x with
    | 41 => 47
    | n => n
  t := fun x => match x with
    | 4 => 4
    | 22 => 41
    | 23 => 47
    | n => n
  g := fun x => x
theorem laysC1 : Go.Proofs.SlLaysE0.n41 Try.prog renC1 where
  mixed := by kernel_rfl
  f41 := ⟨_, by kernel_rfl, Try.func47⟩
  t4 := Try.underlying4
  a4 := Try.isAgg4
  z4 := Try.sizeOf4
  v4 := Try.zeroValue4
  t22 := Try.underlying41
  a22 := Try.isAgg41
  z22 := Try.sizeOf41
  v22 := Try.zeroValue41
noncomputable def s_clone47 : Den.Sum := s_clone 47 (.pair (.int .i64) (.int .i64)) 16
theorem s_clone47_det : SumDet s_clone47 := s_clone_det _ _ _
theorem isInfo47 : (Try.prog.info? 47).isSome = true := by kernel_rfl
theorem s_clone47_ok : SumOk Try.prog 47 s_clone47 :=
  s_clone_ok laysC1 ((Try.prog.info? 47).get isInfo47) (.agg #[.int .i64 0, .int .i64 0]) (.pair (.int .i64) (.int .i64)) 16 (Option.some_get isInfo47).symm (by kernel_rfl) (by kernel_rfl) (by kernel_rfl) (by rfl) (by decide) Try.sizeOf47 Try.func47 rfl (by kernel_rfl)
noncomputable def s_symNone : Den.Sum := ⟨[.own 47 (.pair (.int .i64) (.int .i64)), .raw, .raw, .raw, .raw], fun _ _ _ => none⟩
theorem s_symNone_det : SumDet s_symNone := fun avs objs R κ => rfl
theorem s_symNone_ok : SumOk Try.prog 68 s_symNone := ⟨⟨_, _, Try.func68, rfl, by kernel_rfl⟩, fun avs objs κ r h => by cases h⟩
noncomputable def queue_New_E : Env := ⟨th, gam [], fun i => ⟨[], [], []⟩⟩
noncomputable def queue_New.k (rs : List AV) (os : List Den.Obj) : Option Unit :=
  match rs, os with
  | [.ptr 0 0], [.box [.nilsl]] => some ()
  | _, _ => none
noncomputable def queue_New.b (u : Unit) : Option Unit :=
  some ()
noncomputable def queue_New.f (fuel : Nat) (u : Unit) : Option Unit := queue_New.b u
theorem queue_New.eq (fuel : Nat) (u : Unit) : (denF queue_New_E loopN fuel Try.f16 [.raw] [] [] queue_New.k) = queue_New.f fuel u := by
  kernel_rfl
noncomputable def s_queue_New : Den.Sum := ⟨[], fun args objs κ => match args, objs with
  | [], [] => (match veil (queue_New.f BIG ()) with | none => none | some y => κ [.ptr 0 0] [.box [.nilsl]])
  | _, _ => none⟩
theorem s_queue_New_det : SumDet s_queue_New := fun avs objs R κ => by
  show s_queue_New.run avs objs (two κ) = (s_queue_New.run avs objs (two some)).bind κ
  unfold s_queue_New
  simp only [veil_eq]
  split
  · split <;> rfl
  · rfl
theorem s_queue_New_ok : SumOk Try.prog 16 s_queue_New := by
  have hE : EnvOk Try.prog queue_New_E := env_ok (l := []) th_ok any_ok trivial _
  refine sum_ok hE Try.func16 rfl (by kernel_rfl) s_queue_New [.raw] queue_New.k ?_
  intro R avs objs κ r h
  unfold s_queue_New at h
  simp only [veil_eq] at h
  split at h
  · skip
    split at h
    · cases h
    · rename_i y hy
      refine ⟨BIG, _, _, _, (queue_New.eq BIG ()).trans hy, ?_, h⟩
      intro rs ros hk
      unfold queue_New.k at hk
      split at hk
      · first | (cases hk; exact ⟨rfl, rfl⟩) | (have e := Option.some.inj hk; rw [← e]; exact ⟨rfl, rfl⟩)
      · cases hk
  · cases h
noncomputable def queue_Budget_E : Env := ⟨th, gam [], fun i => if i = 5 then ⟨[0, 1, 5], [], []⟩ else ⟨[], [], []⟩⟩
noncomputable def queue_Budget.k (rs : List AV) (os : List Den.Obj) : Option Int :=
  match rs, os with
  | [.d (.int .i64) r0], [] => some r0
  | _, _ => none
noncomputable def queue_Budget.s5 (members : Int) (mult : Int) (x0 : Int) : St := ⟨[.d (.int .i64) ((minI members (4096 : Int))), .d (.int .i64) ((minI mult (64 : Int))), .dead, .dead, .dead, .d (.int .i64) x0, .dead, .dead, .dead, .dead, .dead, .dead, .dead, .dead, .dead, .dead, .dead, .dead, .dead, .dead, .dead, .dead, .dead, .dead, .dead], ofL [], 0⟩
noncomputable def queue_Budget.b5 (members : Int) (mult : Int) (A5 : Int → Option Int) (x0 : Int) : Option Int :=
  (if (x0 < (0 : Int)) then none else (if (decide ((Go.IntKind.wrap .i64 ((1 : Int) * ((2 : Int) ^ (Min.min (Int.toNat x0) (Go.IntKind.bits .i64))))) ≤ (minI members (4096 : Int)))) then A5 (Go.IntKind.wrap .i64 (x0 + (1 : Int))) else some ((Go.IntKind.wrap .i64 ((minI mult (64 : Int)) * x0)))))
noncomputable def queue_Budget.l5 (fuel : Nat) (members : Int) (mult : Int) : Nat → Int → Option Int
  | 0, _ => none
  | k + 1, x0 => queue_Budget.b5 members mult (queue_Budget.l5 fuel members mult k) x0
noncomputable def queue_Budget.b (members : Int) (mult : Int) (E5 : Int → Option Int) : Option Int :=
  (if (decide (members < (0 : Int))) then some ((0 : Int)) else (if (decide (mult < (1 : Int))) then some ((0 : Int)) else E5 (0 : Int)))
noncomputable def queue_Budget.f (fuel : Nat) (members : Int) (mult : Int) : Option Int := queue_Budget.b members mult (queue_Budget.l5 fuel members mult fuel)
theorem queue_Budget.l5_eq (fuel : Nat) (members : Int) (mult : Int) : ∀ (k : Nat) (x0 : Int), lp queue_Budget_E fuel Try.f23 [.raw] 0 queue_Budget.k 5 [] k (queue_Budget.s5 members mult x0) = queue_Budget.l5 fuel members mult k x0 := by
  intro k
  induction k with
  | zero => intro x0; rfl
  | succ k ih =>
    intro x0
    have h : lp queue_Budget_E fuel Try.f23 [.raw] 0 queue_Budget.k 5 [] (k + 1) (queue_Budget.s5 members mult x0) = queue_Budget.b5 members mult (fun x0 => lp queue_Budget_E fuel Try.f23 [.raw] 0 queue_Budget.k 5 [] k (queue_Budget.s5 members mult x0)) x0 := by kernel_rfl
    rw [h]
    have e5 : (fun x0 => lp queue_Budget_E fuel Try.f23 [.raw] 0 queue_Budget.k 5 [] k (queue_Budget.s5 members mult x0)) = queue_Budget.l5 fuel members mult k := (funext fun x0 => ih x0)
    rw [e5]
    rfl
theorem queue_Budget.eq (fuel : Nat) (members : Int) (mult : Int) : (denF queue_Budget_E loopN fuel Try.f23 [.raw] [.d (.int .i64) members, .d (.int .i64) mult] [] queue_Budget.k) = queue_Budget.f fuel members mult := by
  have h : (denF queue_Budget_E loopN fuel Try.f23 [.raw] [.d (.int .i64) members, .d (.int .i64) mult] [] queue_Budget.k) = queue_Budget.b members mult (fun x0 => lp queue_Budget_E fuel Try.f23 [.raw] 0 queue_Budget.k 5 [] fuel (queue_Budget.s5 members mult x0)) := by kernel_rfl
  rw [h]
  have e5 : (fun x0 => lp queue_Budget_E fuel Try.f23 [.raw] 0 queue_Budget.k 5 [] fuel (queue_Budget.s5 members mult x0)) = queue_Budget.l5 fuel members mult fuel := (funext fun x0 => queue_Budget.l5_eq fuel members mult fuel x0)
  rw [e5]
  rfl
theorem queue_Budget.l5_at (fuel nN kK : Nat) (hN : nN = kK + 1) (members : Int) (mult : Int) (x0 : Int) : queue_Budget.l5 fuel members mult nN x0 = queue_Budget.b5 members mult (queue_Budget.l5 fuel members mult kK) x0 := by
  subst hN
  rfl
noncomputable def s_queue_Budget : Den.Sum := ⟨[.raw, .raw], fun args objs κ => match args, objs with
  | [.d (.int .i64) members, .d (.int .i64) mult], [] => (match veil (queue_Budget.f BIG members mult) with | none => none | some y => κ [.d (.int .i64) y] [])
  | _, _ => none⟩
theorem s_queue_Budget_det : SumDet s_queue_Budget := fun avs objs R κ => by
  show s_queue_Budget.run avs objs (two κ) = (s_queue_Budget.run avs objs (two some)).bind κ
  unfold s_queue_Budget
  simp only [veil_eq]
  split
  · split <;> rfl
  · rfl
theorem s_queue_Budget_ok : SumOk Try.prog 23 s_queue_Budget := by
  have hE : EnvOk Try.prog queue_Budget_E := env_ok (l := []) th_ok any_ok trivial _
  refine sum_ok hE Try.func23 rfl (by kernel_rfl) s_queue_Budget [.raw] queue_Budget.k ?_
  intro R avs objs κ r h
  unfold s_queue_Budget at h
  simp only [veil_eq] at h
  split at h
  · rename_i members mult
    split at h
    · cases h
    · rename_i y hy
      refine ⟨BIG, _, _, _, (queue_Budget.eq BIG members mult).trans hy, ?_, h⟩
      intro rs ros hk
      unfold queue_Budget.k at hk
      split at hk
      · first | (cases hk; exact ⟨rfl, rfl⟩) | (have e := Option.some.inj hk; rw [← e]; exact ⟨rfl, rfl⟩)
      · cases hk
  · cases h
noncomputable def queue_Queue_Drop_c1_E : Env := ⟨th, gam [], fun i => ⟨[], [], []⟩⟩
noncomputable def queue_Queue_Drop_c1.k (rs : List AV) (os : List Den.Obj) : Option (Bool × Int) :=
  match rs, os with
  | [.d .bool r0], [.box [.d (.int .i64) r1]] => some (r0, r1)
  | _, _ => none
noncomputable def queue_Queue_Drop_c1.b (itID : Int) (itSent : Int) (id0 : Int) : Option (Bool × Int) :=
  some ((itID == id0), id0)
noncomputable def queue_Queue_Drop_c1.f (fuel : Nat) (itID : Int) (itSent : Int) (id0 : Int) : Option (Bool × Int) := queue_Queue_Drop_c1.b itID itSent id0
theorem queue_Queue_Drop_c1.eq (fuel : Nat) (itID : Int) (itSent : Int) (id0 : Int) : (denF queue_Queue_Drop_c1_E loopN fuel Try.f43 [.raw] [.agg [.d (.int .i64) itID, .d (.int .i64) itSent], .ptr 0 0] [.box [.d (.int .i64) id0]] queue_Queue_Drop_c1.k) = queue_Queue_Drop_c1.f fuel itID itSent id0 := by
  kernel_rfl
noncomputable def s_queue_Queue_Drop_c1 : Den.Sum := ⟨[.dat (.pair (.int .i64) (.int .i64)) true, .raw], fun args objs κ => match args, objs with
  | [.agg [.d (.int .i64) itID, .d (.int .i64) itSent], .ptr 0 0], [.box [.d (.int .i64) id0]] => (match veil (queue_Queue_Drop_c1.f BIG itID itSent id0) with | none => none | some y => κ [.d .bool y.1] [.box [.d (.int .i64) y.2]])
  | _, _ => none⟩
theorem s_queue_Queue_Drop_c1_det : SumDet s_queue_Queue_Drop_c1 := fun avs objs R κ => by
  show s_queue_Queue_Drop_c1.run avs objs (two κ) = (s_queue_Queue_Drop_c1.run avs objs (two some)).bind κ
  unfold s_queue_Queue_Drop_c1
  simp only [veil_eq]
  split
  · split <;> rfl
  · rfl
theorem s_queue_Queue_Drop_c1_ok : SumOk Try.prog 43 s_queue_Queue_Drop_c1 := by
  have hE : EnvOk Try.prog queue_Queue_Drop_c1_E := env_ok (l := []) th_ok any_ok trivial _
  refine sum_ok hE Try.func43 rfl (by kernel_rfl) s_queue_Queue_Drop_c1 [.raw] queue_Queue_Drop_c1.k ?_
  intro R avs objs κ r h
  unfold s_queue_Queue_Drop_c1 at h
  simp only [veil_eq] at h
  split at h
  · rename_i itID itSent id0
    split at h
    · cases h
    · rename_i y hy
      refine ⟨BIG, _, _, _, (queue_Queue_Drop_c1.eq BIG itID itSent id0).trans hy, ?_, h⟩
      intro rs ros hk
      unfold queue_Queue_Drop_c1.k at hk
      split at hk
      · first | (cases hk; exact ⟨rfl, rfl⟩) | (have e := Option.some.inj hk; rw [← e]; exact ⟨rfl, rfl⟩)
      · cases hk
  · cases h
noncomputable def slices_Reverse_queue_Item_queue_Item_E : Env := ⟨th, gam [], fun i => if i = 1 then ⟨[0, 2, 3], [], []⟩ else ⟨[], [], []⟩⟩
noncomputable def slices_Reverse_queue_Item_queue_Item.k (rs : List AV) (os : List Den.Obj) : Option (List (Int × Int)) :=
  match rs, os with
  | [], [.row 47 (.pair (.int .i64) (.int .i64)) r0 false] => some r0
  | _, _ => none
noncomputable def slices_Reverse_queue_Item_queue_Item.s1 (s : List (Int × Int)) (x0 : Int) (x1 : Int) (x2 : (List (Int × Int))) : St := ⟨[.row 0, .dead, .d (.int .i64) x0, .d (.int .i64) x1, .dead, .dead, .dead, .dead, .dead, .dead, .dead, .dead, .dead, .dead, .dead, .dead, .dead, .dead, .dead, .dead, .dead, .dead, .dead, .dead, .dead, .dead, .dead, .dead], ofL [(0, .row 47 (.pair (.int .i64) (.int .i64)) x2 false)], 1⟩
noncomputable def slices_Reverse_queue_Item_queue_Item.b1 (s : List (Int × Int)) (A1 : Int → Int → (List (Int × Int)) → Option (List (Int × Int))) (x0 : Int) (x1 : Int) (x2 : (List (Int × Int))) : Option (List (Int × Int)) :=
  (if (decide (x0 < x1)) then (match (idx x2 x1) with | none => none | some y3 => (match (idx x2 x1) with | none => none | some y4 => (match (idx x2 x0) with | none => none | some y5 => (match (idx x2 x0) with | none => none | some y6 => (match (idx x2 x0) with | none => none | some y7 => (match (idx x2 x0) with | none => none | some y8 => (match (idx (List.set x2 (Int.toNat x0) (y4.1, y4.2)) x1) with | none => none | some y9 => (match (idx (List.set x2 (Int.toNat x0) (y4.1, y4.2)) x1) with | none => none | some y10 => A1 (Go.IntKind.wrap .i64 (x0 + (1 : Int))) (Go.IntKind.wrap .i64 (x1 - (1 : Int))) (List.set (List.set x2 (Int.toNat x0) (y4.1, y4.2)) (Int.toNat x1) (y6.1, y6.2)))))))))) else some (x2))
noncomputable def slices_Reverse_queue_Item_queue_Item.l1 (fuel : Nat) (s : List (Int × Int)) : Nat → Int → Int → (List (Int × Int)) → Option (List (Int × Int))
  | 0, _, _, _ => none
  | k + 1, x0, x1, x2 => slices_Reverse_queue_Item_queue_Item.b1 s (slices_Reverse_queue_Item_queue_Item.l1 fuel s k) x0 x1 x2
noncomputable def slices_Reverse_queue_Item_queue_Item.b (s : List (Int × Int)) (E1 : Int → Int → (List (Int × Int)) → Option (List (Int × Int))) : Option (List (Int × Int)) :=
  E1 (0 : Int) (Go.IntKind.wrap .i64 (((((List.length s)) : Nat) : Int) - (1 : Int))) s
noncomputable def slices_Reverse_queue_Item_queue_Item.f (fuel : Nat) (s : List (Int × Int)) : Option (List (Int × Int)) := slices_Reverse_queue_Item_queue_Item.b s (slices_Reverse_queue_Item_queue_Item.l1 fuel s fuel)
theorem slices_Reverse_queue_Item_queue_Item.l1_eq (fuel : Nat) (s : List (Int × Int)) : ∀ (k : Nat) (x0 : Int) (x1 : Int) (x2 : (List (Int × Int))), lp slices_Reverse_queue_Item_queue_Item_E fuel Try.f48 [] 1 slices_Reverse_queue_Item_queue_Item.k 1 [] k (slices_Reverse_queue_Item_queue_Item.s1 s x0 x1 x2) = slices_Reverse_queue_Item_queue_Item.l1 fuel s k x0 x1 x2 := by
  intro k
  induction k with
  | zero => intro x0 x1 x2; rfl
  | succ k ih =>
    intro x0 x1 x2
    have h : lp slices_Reverse_queue_Item_queue_Item_E fuel Try.f48 [] 1 slices_Reverse_queue_Item_queue_Item.k 1 [] (k + 1) (slices_Reverse_queue_Item_queue_Item.s1 s x0 x1 x2) = slices_Reverse_queue_Item_queue_Item.b1 s (fun x0 x1 x2 => lp slices_Reverse_queue_Item_queue_Item_E fuel Try.f48 [] 1 slices_Reverse_queue_Item_queue_Item.k 1 [] k (slices_Reverse_queue_Item_queue_Item.s1 s x0 x1 x2)) x0 x1 x2 := by kernel_rfl
    rw [h]
    have e1 : (fun x0 x1 x2 => lp slices_Reverse_queue_Item_queue_Item_E fuel Try.f48 [] 1 slices_Reverse_queue_Item_queue_Item.k 1 [] k (slices_Reverse_queue_Item_queue_Item.s1 s x0 x1 x2)) = slices_Reverse_queue_Item_queue_Item.l1 fuel s k := (funext fun x0 => (funext fun x1 => (funext fun x2 => ih x0 x1 x2)))
    rw [e1]
    rfl
theorem slices_Reverse_queue_Item_queue_Item.eq (fuel : Nat) (s : List (Int × Int)) : (denF slices_Reverse_queue_Item_queue_Item_E loopN fuel Try.f48 [] [.row 0] [.row 47 (.pair (.int .i64) (.int .i64)) s false] slices_Reverse_queue_Item_queue_Item.k) = slices_Reverse_queue_Item_queue_Item.f fuel s := by
  have h : (denF slices_Reverse_queue_Item_queue_Item_E loopN fuel Try.f48 [] [.row 0] [.row 47 (.pair (.int .i64) (.int .i64)) s false] slices_Reverse_queue_Item_queue_Item.k) = slices_Reverse_queue_Item_queue_Item.b s (fun x0 x1 x2 => lp slices_Reverse_queue_Item_queue_Item_E fuel Try.f48 [] 1 slices_Reverse_queue_Item_queue_Item.k 1 [] fuel (slices_Reverse_queue_Item_queue_Item.s1 s x0 x1 x2)) := by kernel_rfl
  rw [h]
  have e1 : (fun x0 x1 x2 => lp slices_Reverse_queue_Item_queue_Item_E fuel Try.f48 [] 1 slices_Reverse_queue_Item_queue_Item.k 1 [] fuel (slices_Reverse_queue_Item_queue_Item.s1 s x0 x1 x2)) = slices_Reverse_queue_Item_queue_Item.l1 fuel s fuel := (funext fun x0 => (funext fun x1 => (funext fun x2 => slices_Reverse_queue_Item_queue_Item.l1_eq fuel s fuel x0 x1 x2)))
  rw [e1]
  rfl
theorem slices_Reverse_queue_Item_queue_Item.l1_at (fuel nN kK : Nat) (hN : nN = kK + 1) (s : List (Int × Int)) (x0 : Int) (x1 : Int) (x2 : (List (Int × Int))) : slices_Reverse_queue_Item_queue_Item.l1 fuel s nN x0 x1 x2 = slices_Reverse_queue_Item_queue_Item.b1 s (slices_Reverse_queue_Item_queue_Item.l1 fuel s kK) x0 x1 x2 := by
  subst hN
  rfl
noncomputable def s_slices_Reverse_queue_Item_queue_Item : Den.Sum := ⟨[.own 47 (.pair (.int .i64) (.int .i64))], fun args objs κ => match args, objs with
  | [.row 0], [.row 47 (.pair (.int .i64) (.int .i64)) s false] => (match veil (slices_Reverse_queue_Item_queue_Item.f BIG s) with | none => none | some y => κ [] [.row 47 (.pair (.int .i64) (.int .i64)) y false])
  | _, _ => none⟩
theorem s_slices_Reverse_queue_Item_queue_Item_det : SumDet s_slices_Reverse_queue_Item_queue_Item := fun avs objs R κ => by
  show s_slices_Reverse_queue_Item_queue_Item.run avs objs (two κ) = (s_slices_Reverse_queue_Item_queue_Item.run avs objs (two some)).bind κ
  unfold s_slices_Reverse_queue_Item_queue_Item
  simp only [veil_eq]
  split
  · split <;> rfl
  · rfl
theorem s_slices_Reverse_queue_Item_queue_Item_ok : SumOk Try.prog 48 s_slices_Reverse_queue_Item_queue_Item := by
  have hE : EnvOk Try.prog slices_Reverse_queue_Item_queue_Item_E := env_ok (l := []) th_ok any_ok trivial _
  refine sum_ok hE Try.func48 rfl (by kernel_rfl) s_slices_Reverse_queue_Item_queue_Item [] slices_Reverse_queue_Item_queue_Item.k ?_
  intro R avs objs κ r h
  unfold s_slices_Reverse_queue_Item_queue_Item at h
  simp only [veil_eq] at h
  split at h
  · rename_i s
    split at h
    · cases h
    · rename_i y hy
      refine ⟨BIG, _, _, _, (slices_Reverse_queue_Item_queue_Item.eq BIG s).trans hy, ?_, h⟩
      intro rs ros hk
      unfold slices_Reverse_queue_Item_queue_Item.k at hk
      split at hk
      · first | (cases hk; exact ⟨rfl, rfl⟩) | (have e := Option.some.inj hk; rw [← e]; exact ⟨rfl, rfl⟩)
      · cases hk
  · cases h
noncomputable def queue_Queue_All_c1_E : Env := ⟨th, gam [], fun i => ⟨[], [], []⟩⟩
noncomputable def queue_Queue_All_c1.k (rs : List AV) (os : List Den.Obj) : Option Int :=
  match rs, os with
  | [.d (.int .i64) r0], [] => some r0
  | _, _ => none
noncomputable def queue_Queue_All_c1.b (aID : Int) (aSent : Int) (bID : Int) (bSent : Int) : Option Int :=
  (if (decide (aSent < bSent)) then some ((-(1 : Int))) else (if (decide (aSent > bSent)) then some ((1 : Int)) else some ((0 : Int))))
noncomputable def queue_Queue_All_c1.f (fuel : Nat) (aID : Int) (aSent : Int) (bID : Int) (bSent : Int) : Option Int := queue_Queue_All_c1.b aID aSent bID bSent
theorem queue_Queue_All_c1.eq (fuel : Nat) (aID : Int) (aSent : Int) (bID : Int) (bSent : Int) : (denF queue_Queue_All_c1_E loopN fuel Try.f50 [.raw] [.agg [.d (.int .i64) aID, .d (.int .i64) aSent], .agg [.d (.int .i64) bID, .d (.int .i64) bSent]] [] queue_Queue_All_c1.k) = queue_Queue_All_c1.f fuel aID aSent bID bSent := by
  kernel_rfl
noncomputable def s_queue_Queue_All_c1 : Den.Sum := ⟨[.dat (.pair (.int .i64) (.int .i64)) true, .dat (.pair (.int .i64) (.int .i64)) true], fun args objs κ => match args, objs with
  | [.agg [.d (.int .i64) aID, .d (.int .i64) aSent], .agg [.d (.int .i64) bID, .d (.int .i64) bSent]], [] => (match veil (queue_Queue_All_c1.f BIG aID aSent bID bSent) with | none => none | some y => κ [.d (.int .i64) y] [])
  | _, _ => none⟩
theorem s_queue_Queue_All_c1_det : SumDet s_queue_Queue_All_c1 := fun avs objs R κ => by
  show s_queue_Queue_All_c1.run avs objs (two κ) = (s_queue_Queue_All_c1.run avs objs (two some)).bind κ
  unfold s_queue_Queue_All_c1
  simp only [veil_eq]
  split
  · split <;> rfl
  · rfl
theorem s_queue_Queue_All_c1_ok : SumOk Try.prog 50 s_queue_Queue_All_c1 := by
  have hE : EnvOk Try.prog queue_Queue_All_c1_E := env_ok (l := []) th_ok any_ok trivial _
  refine sum_ok hE Try.func50 rfl (by kernel_rfl) s_queue_Queue_All_c1 [.raw] queue_Queue_All_c1.k ?_
  intro R avs objs κ r h
  unfold s_queue_Queue_All_c1 at h
  simp only [veil_eq] at h
  split at h
  · rename_i aID aSent bID bSent
    split at h
    · cases h
    · rename_i y hy
      refine ⟨BIG, _, _, _, (queue_Queue_All_c1.eq BIG aID aSent bID bSent).trans hy, ?_, h⟩
      intro rs ros hk
      unfold queue_Queue_All_c1.k at hk
      split at hk
      · first | (cases hk; exact ⟨rfl, rfl⟩) | (have e := Option.some.inj hk; rw [← e]; exact ⟨rfl, rfl⟩)
      · cases hk
  · cases h
noncomputable def slices_Index_int_int_row_E : Env := ⟨th, gam [], fun i => if i = 2 then ⟨[0, 1, 7, 8], [], []⟩ else ⟨[], [], []⟩⟩
noncomputable def slices_Index_int_int_row.k (rs : List AV) (os : List Den.Obj) : Option (Int × (List Int)) :=
  match rs, os with
  | [.d (.int .i64) r0], [.row 3 (.int .i64) r1 false] => some (r0, r1)
  | _, _ => none
noncomputable def slices_Index_int_int_row.s2 (s : List Int) (v : Int) (x0 : Int) (x1 : Int) : St := ⟨[.row 0, .d (.int .i64) (v), .dead, .dead, .dead, .dead, .dead, .d (.int .i64) x0, .d (.int .i64) x1, .dead, .dead, .dead, .dead, .dead, .dead, .dead, .dead, .dead, .dead], ofL [(0, .row 3 (.int .i64) (s) false)], 1⟩
noncomputable def slices_Index_int_int_row.b2 (s : List Int) (v : Int) (A2 : Int → Int → Option (Int × (List Int))) (x0 : Int) (x1 : Int) : Option (Int × (List Int)) :=
  (if (decide (x1 < x0)) then (match (idx s x1) with | none => none | some y2 => (match (idx s x1) with | none => none | some y3 => (if (v == y3) then some (x1, s) else A2 x0 (Go.IntKind.wrap .i64 (x1 + (1 : Int)))))) else some ((-(1 : Int)), s))
noncomputable def slices_Index_int_int_row.l2 (fuel : Nat) (s : List Int) (v : Int) : Nat → Int → Int → Option (Int × (List Int))
  | 0, _, _ => none
  | k + 1, x0, x1 => slices_Index_int_int_row.b2 s v (slices_Index_int_int_row.l2 fuel s v k) x0 x1
noncomputable def slices_Index_int_int_row.b (s : List Int) (v : Int) (E2 : Int → Int → Option (Int × (List Int))) : Option (Int × (List Int)) :=
  E2 ((((List.length s)) : Nat) : Int) (0 : Int)
noncomputable def slices_Index_int_int_row.f (fuel : Nat) (s : List Int) (v : Int) : Option (Int × (List Int)) := slices_Index_int_int_row.b s v (slices_Index_int_int_row.l2 fuel s v fuel)
theorem slices_Index_int_int_row.l2_eq (fuel : Nat) (s : List Int) (v : Int) : ∀ (k : Nat) (x0 : Int) (x1 : Int), lp slices_Index_int_int_row_E fuel Try.f61 [.raw] 1 slices_Index_int_int_row.k 2 [] k (slices_Index_int_int_row.s2 s v x0 x1) = slices_Index_int_int_row.l2 fuel s v k x0 x1 := by
  intro k
  induction k with
  | zero => intro x0 x1; rfl
  | succ k ih =>
    intro x0 x1
    have h : lp slices_Index_int_int_row_E fuel Try.f61 [.raw] 1 slices_Index_int_int_row.k 2 [] (k + 1) (slices_Index_int_int_row.s2 s v x0 x1) = slices_Index_int_int_row.b2 s v (fun x0 x1 => lp slices_Index_int_int_row_E fuel Try.f61 [.raw] 1 slices_Index_int_int_row.k 2 [] k (slices_Index_int_int_row.s2 s v x0 x1)) x0 x1 := by kernel_rfl
    rw [h]
    have e2 : (fun x0 x1 => lp slices_Index_int_int_row_E fuel Try.f61 [.raw] 1 slices_Index_int_int_row.k 2 [] k (slices_Index_int_int_row.s2 s v x0 x1)) = slices_Index_int_int_row.l2 fuel s v k := (funext fun x0 => (funext fun x1 => ih x0 x1))
    rw [e2]
    rfl
theorem slices_Index_int_int_row.eq (fuel : Nat) (s : List Int) (v : Int) : (denF slices_Index_int_int_row_E loopN fuel Try.f61 [.raw] [.row 0, .d (.int .i64) v] [.row 3 (.int .i64) s false] slices_Index_int_int_row.k) = slices_Index_int_int_row.f fuel s v := by
  have h : (denF slices_Index_int_int_row_E loopN fuel Try.f61 [.raw] [.row 0, .d (.int .i64) v] [.row 3 (.int .i64) s false] slices_Index_int_int_row.k) = slices_Index_int_int_row.b s v (fun x0 x1 => lp slices_Index_int_int_row_E fuel Try.f61 [.raw] 1 slices_Index_int_int_row.k 2 [] fuel (slices_Index_int_int_row.s2 s v x0 x1)) := by kernel_rfl
  rw [h]
  have e2 : (fun x0 x1 => lp slices_Index_int_int_row_E fuel Try.f61 [.raw] 1 slices_Index_int_int_row.k 2 [] fuel (slices_Index_int_int_row.s2 s v x0 x1)) = slices_Index_int_int_row.l2 fuel s v fuel := (funext fun x0 => (funext fun x1 => slices_Index_int_int_row.l2_eq fuel s v fuel x0 x1))
  rw [e2]
  rfl
theorem slices_Index_int_int_row.l2_at (fuel nN kK : Nat) (hN : nN = kK + 1) (s : List Int) (v : Int) (x0 : Int) (x1 : Int) : slices_Index_int_int_row.l2 fuel s v nN x0 x1 = slices_Index_int_int_row.b2 s v (slices_Index_int_int_row.l2 fuel s v kK) x0 x1 := by
  subst hN
  rfl
noncomputable def s_slices_Index_int_int_row : Den.Sum := ⟨[.own 3 (.int .i64), .raw], fun args objs κ => match args, objs with
  | [.row 0, .d (.int .i64) v], [.row 3 (.int .i64) s false] => (match veil (slices_Index_int_int_row.f BIG s v) with | none => none | some y => κ [.d (.int .i64) y.1] [.row 3 (.int .i64) y.2 false])
  | _, _ => none⟩
theorem s_slices_Index_int_int_row_det : SumDet s_slices_Index_int_int_row := fun avs objs R κ => by
  show s_slices_Index_int_int_row.run avs objs (two κ) = (s_slices_Index_int_int_row.run avs objs (two some)).bind κ
  unfold s_slices_Index_int_int_row
  simp only [veil_eq]
  split
  · split <;> rfl
  · rfl
theorem s_slices_Index_int_int_row_ok : SumOk Try.prog 61 s_slices_Index_int_int_row := by
  have hE : EnvOk Try.prog slices_Index_int_int_row_E := env_ok (l := []) th_ok any_ok trivial _
  refine sum_ok hE Try.func61 rfl (by kernel_rfl) s_slices_Index_int_int_row [.raw] slices_Index_int_int_row.k ?_
  intro R avs objs κ r h
  unfold s_slices_Index_int_int_row at h
  simp only [veil_eq] at h
  split at h
  · rename_i v s
    split at h
    · cases h
    · rename_i y hy
      refine ⟨BIG, _, _, _, (slices_Index_int_int_row.eq BIG s v).trans hy, ?_, h⟩
      intro rs ros hk
      unfold slices_Index_int_int_row.k at hk
      split at hk
      · first | (cases hk; exact ⟨rfl, rfl⟩) | (have e := Option.some.inj hk; rw [← e]; exact ⟨rfl, rfl⟩)
      · cases hk
  · cases h
noncomputable def slices_Index_int_int_dat_E : Env := ⟨th, gam [], fun i => if i = 2 then ⟨[0, 1, 7, 8], [], []⟩ else ⟨[], [], []⟩⟩
noncomputable def slices_Index_int_int_dat.k (rs : List AV) (os : List Den.Obj) : Option Int :=
  match rs, os with
  | [.d (.int .i64) r0], [] => some r0
  | _, _ => none
noncomputable def slices_Index_int_int_dat.s2 (s : List Int) (v : Int) (x0 : Int) (x1 : Int) : St := ⟨[.d (.sl (.int .i64)) (s), .d (.int .i64) (v), .dead, .dead, .dead, .dead, .dead, .d (.int .i64) x0, .d (.int .i64) x1, .dead, .dead, .dead, .dead, .dead, .dead, .dead, .dead, .dead, .dead], ofL [], 0⟩
noncomputable def slices_Index_int_int_dat.b2 (s : List Int) (v : Int) (A2 : Int → Int → Option Int) (x0 : Int) (x1 : Int) : Option Int :=
  (if (decide (x1 < x0)) then (match (idx s x1) with | none => none | some y2 => (if (v == y2) then some (x1) else A2 x0 (Go.IntKind.wrap .i64 (x1 + (1 : Int))))) else some ((-(1 : Int))))
noncomputable def slices_Index_int_int_dat.l2 (fuel : Nat) (s : List Int) (v : Int) : Nat → Int → Int → Option Int
  | 0, _, _ => none
  | k + 1, x0, x1 => slices_Index_int_int_dat.b2 s v (slices_Index_int_int_dat.l2 fuel s v k) x0 x1
noncomputable def slices_Index_int_int_dat.b (s : List Int) (v : Int) (E2 : Int → Int → Option Int) : Option Int :=
  E2 ((((List.length s)) : Nat) : Int) (0 : Int)
noncomputable def slices_Index_int_int_dat.f (fuel : Nat) (s : List Int) (v : Int) : Option Int := slices_Index_int_int_dat.b s v (slices_Index_int_int_dat.l2 fuel s v fuel)
theorem slices_Index_int_int_dat.l2_eq (fuel : Nat) (s : List Int) (v : Int) : ∀ (k : Nat) (x0 : Int) (x1 : Int), lp slices_Index_int_int_dat_E fuel Try.f61 [.raw] 0 slices_Index_int_int_dat.k 2 [] k (slices_Index_int_int_dat.s2 s v x0 x1) = slices_Index_int_int_dat.l2 fuel s v k x0 x1 := by
  intro k
  induction k with
  | zero => intro x0 x1; rfl
  | succ k ih =>
    intro x0 x1
    have h : lp slices_Index_int_int_dat_E fuel Try.f61 [.raw] 0 slices_Index_int_int_dat.k 2 [] (k + 1) (slices_Index_int_int_dat.s2 s v x0 x1) = slices_Index_int_int_dat.b2 s v (fun x0 x1 => lp slices_Index_int_int_dat_E fuel Try.f61 [.raw] 0 slices_Index_int_int_dat.k 2 [] k (slices_Index_int_int_dat.s2 s v x0 x1)) x0 x1 := by kernel_rfl
    rw [h]
    have e2 : (fun x0 x1 => lp slices_Index_int_int_dat_E fuel Try.f61 [.raw] 0 slices_Index_int_int_dat.k 2 [] k (slices_Index_int_int_dat.s2 s v x0 x1)) = slices_Index_int_int_dat.l2 fuel s v k := (funext fun x0 => (funext fun x1 => ih x0 x1))
    rw [e2]
    rfl
theorem slices_Index_int_int_dat.eq (fuel : Nat) (s : List Int) (v : Int) : (denF slices_Index_int_int_dat_E loopN fuel Try.f61 [.raw] [.d (.sl (.int .i64)) s, .d (.int .i64) v] [] slices_Index_int_int_dat.k) = slices_Index_int_int_dat.f fuel s v := by
  have h : (denF slices_Index_int_int_dat_E loopN fuel Try.f61 [.raw] [.d (.sl (.int .i64)) s, .d (.int .i64) v] [] slices_Index_int_int_dat.k) = slices_Index_int_int_dat.b s v (fun x0 x1 => lp slices_Index_int_int_dat_E fuel Try.f61 [.raw] 0 slices_Index_int_int_dat.k 2 [] fuel (slices_Index_int_int_dat.s2 s v x0 x1)) := by kernel_rfl
  rw [h]
  have e2 : (fun x0 x1 => lp slices_Index_int_int_dat_E fuel Try.f61 [.raw] 0 slices_Index_int_int_dat.k 2 [] fuel (slices_Index_int_int_dat.s2 s v x0 x1)) = slices_Index_int_int_dat.l2 fuel s v fuel := (funext fun x0 => (funext fun x1 => slices_Index_int_int_dat.l2_eq fuel s v fuel x0 x1))
  rw [e2]
  rfl
theorem slices_Index_int_int_dat.l2_at (fuel nN kK : Nat) (hN : nN = kK + 1) (s : List Int) (v : Int) (x0 : Int) (x1 : Int) : slices_Index_int_int_dat.l2 fuel s v nN x0 x1 = slices_Index_int_int_dat.b2 s v (slices_Index_int_int_dat.l2 fuel s v kK) x0 x1 := by
  subst hN
  rfl
noncomputable def s_slices_Index_int_int_dat : Den.Sum := ⟨[.own 3 (.int .i64), .raw], fun args objs κ => match args, objs with
  | [.d (.sl (.int .i64)) s, .d (.int .i64) v], [] => (match veil (slices_Index_int_int_dat.f BIG s v) with | none => none | some y => κ [.d (.int .i64) y] [])
  | _, _ => none⟩
theorem s_slices_Index_int_int_dat_det : SumDet s_slices_Index_int_int_dat := fun avs objs R κ => by
  show s_slices_Index_int_int_dat.run avs objs (two κ) = (s_slices_Index_int_int_dat.run avs objs (two some)).bind κ
  unfold s_slices_Index_int_int_dat
  simp only [veil_eq]
  split
  · split <;> rfl
  · rfl
theorem s_slices_Index_int_int_dat_ok : SumOk Try.prog 61 s_slices_Index_int_int_dat := by
  have hE : EnvOk Try.prog slices_Index_int_int_dat_E := env_ok (l := []) th_ok any_ok trivial _
  refine sum_ok hE Try.func61 rfl (by kernel_rfl) s_slices_Index_int_int_dat [.raw] slices_Index_int_int_dat.k ?_
  intro R avs objs κ r h
  unfold s_slices_Index_int_int_dat at h
  simp only [veil_eq] at h
  split at h
  · rename_i s v
    split at h
    · cases h
    · rename_i y hy
      refine ⟨BIG, _, _, _, (slices_Index_int_int_dat.eq BIG s v).trans hy, ?_, h⟩
      intro rs ros hk
      unfold slices_Index_int_int_dat.k at hk
      split at hk
      · first | (cases hk; exact ⟨rfl, rfl⟩) | (have e := Option.some.inj hk; rw [← e]; exact ⟨rfl, rfl⟩)
      · cases hk
  · cases h
noncomputable def s_slices_Index_int_int : Den.Sum := ⟨[.own 3 (.int .i64), .raw], fun args objs κ => match args, objs with
  | [.row 0, .d (.int .i64) v], [.row 3 (.int .i64) s false] => s_slices_Index_int_int_row.run [.row 0, .d (.int .i64) v] [.row 3 (.int .i64) s false] κ
  | [.d (.sl (.int .i64)) s, .d (.int .i64) v], [] => s_slices_Index_int_int_dat.run [.d (.sl (.int .i64)) s, .d (.int .i64) v] [] κ
  | _, _ => none⟩
theorem s_slices_Index_int_int_det : SumDet s_slices_Index_int_int := fun avs objs R κ => by
  show s_slices_Index_int_int.run avs objs (two κ) = (s_slices_Index_int_int.run avs objs (two some)).bind κ
  unfold s_slices_Index_int_int
  simp only
  split
  · exact s_slices_Index_int_int_row_det _ _ R κ
  · exact s_slices_Index_int_int_dat_det _ _ R κ
  · rfl
theorem s_slices_Index_int_int_ok : SumOk Try.prog 61 s_slices_Index_int_int := by
  refine ⟨s_slices_Index_int_int_row_ok.1, ?_⟩
  intro R avs objs κ r h
  unfold s_slices_Index_int_int at h
  simp only at h
  split at h
  · exact s_slices_Index_int_int_row_ok.2 _ _ κ r h
  · exact s_slices_Index_int_int_dat_ok.2 _ _ κ r h
  · cases h
noncomputable def slices_Contains_int_int_row_E : Env := ⟨th, gam [(61, s_slices_Index_int_int)], fun i => ⟨[], [], []⟩⟩
noncomputable def slices_Contains_int_int_row.k (rs : List AV) (os : List Den.Obj) : Option (Bool × (List Int)) :=
  match rs, os with
  | [.d .bool r0], [.row 3 (.int .i64) r1 false] => some (r0, r1)
  | _, _ => none
noncomputable def slices_Contains_int_int_row.b (s : List Int) (v : Int) : Option (Bool × (List Int)) :=
  (match (veil (slices_Index_int_int_row.f BIG s v)) with | none => none | some y0 => some ((decide (y0.1 ≥ (0 : Int))), y0.2))
noncomputable def slices_Contains_int_int_row.f (fuel : Nat) (s : List Int) (v : Int) : Option (Bool × (List Int)) := slices_Contains_int_int_row.b s v
theorem slices_Contains_int_int_row.eq (fuel : Nat) (s : List Int) (v : Int) : (denF slices_Contains_int_int_row_E loopN fuel Try.f45 [.raw] [.row 0, .d (.int .i64) v] [.row 3 (.int .i64) s false] slices_Contains_int_int_row.k) = slices_Contains_int_int_row.f fuel s v := by
  kernel_rfl
noncomputable def s_slices_Contains_int_int_row : Den.Sum := ⟨[.own 3 (.int .i64), .raw], fun args objs κ => match args, objs with
  | [.row 0, .d (.int .i64) v], [.row 3 (.int .i64) s false] => (match veil (slices_Contains_int_int_row.f BIG s v) with | none => none | some y => κ [.d .bool y.1] [.row 3 (.int .i64) y.2 false])
  | _, _ => none⟩
theorem s_slices_Contains_int_int_row_det : SumDet s_slices_Contains_int_int_row := fun avs objs R κ => by
  show s_slices_Contains_int_int_row.run avs objs (two κ) = (s_slices_Contains_int_int_row.run avs objs (two some)).bind κ
  unfold s_slices_Contains_int_int_row
  simp only [veil_eq]
  split
  · split <;> rfl
  · rfl
theorem s_slices_Contains_int_int_row_ok : SumOk Try.prog 45 s_slices_Contains_int_int_row := by
  have hE : EnvOk Try.prog slices_Contains_int_int_row_E := env_ok (l := [(61, s_slices_Index_int_int)]) th_ok any_ok ⟨⟨s_slices_Index_int_int_ok, s_slices_Index_int_int_det⟩, trivial⟩ _
  refine sum_ok hE Try.func45 rfl (by kernel_rfl) s_slices_Contains_int_int_row [.raw] slices_Contains_int_int_row.k ?_
  intro R avs objs κ r h
  unfold s_slices_Contains_int_int_row at h
  simp only [veil_eq] at h
  split at h
  · rename_i v s
    split at h
    · cases h
    · rename_i y hy
      refine ⟨BIG, _, _, _, (slices_Contains_int_int_row.eq BIG s v).trans hy, ?_, h⟩
      intro rs ros hk
      unfold slices_Contains_int_int_row.k at hk
      split at hk
      · first | (cases hk; exact ⟨rfl, rfl⟩) | (have e := Option.some.inj hk; rw [← e]; exact ⟨rfl, rfl⟩)
      · cases hk
  · cases h
noncomputable def slices_Contains_int_int_dat_E : Env := ⟨th, gam [(61, s_slices_Index_int_int)], fun i => ⟨[], [], []⟩⟩
noncomputable def slices_Contains_int_int_dat.k (rs : List AV) (os : List Den.Obj) : Option Bool :=
  match rs, os with
  | [.d .bool r0], [] => some r0
  | _, _ => none
noncomputable def slices_Contains_int_int_dat.b (s : List Int) (v : Int) : Option Bool :=
  (match (veil (slices_Index_int_int_dat.f BIG s v)) with | none => none | some y0 => some ((decide (y0 ≥ (0 : Int)))))
noncomputable def slices_Contains_int_int_dat.f (fuel : Nat) (s : List Int) (v : Int) : Option Bool := slices_Contains_int_int_dat.b s v
theorem slices_Contains_int_int_dat.eq (fuel : Nat) (s : List Int) (v : Int) : (denF slices_Contains_int_int_dat_E loopN fuel Try.f45 [.raw] [.d (.sl (.int .i64)) s, .d (.int .i64) v] [] slices_Contains_int_int_dat.k) = slices_Contains_int_int_dat.f fuel s v := by
  kernel_rfl
noncomputable def s_slices_Contains_int_int_dat : Den.Sum := ⟨[.own 3 (.int .i64), .raw], fun args objs κ => match args, objs with
  | [.d (.sl (.int .i64)) s, .d (.int .i64) v], [] => (match veil (slices_Contains_int_int_dat.f BIG s v) with | none => none | some y => κ [.d .bool y] [])
  | _, _ => none⟩
theorem s_slices_Contains_int_int_dat_det : SumDet s_slices_Contains_int_int_dat := fun avs objs R κ => by
  show s_slices_Contains_int_int_dat.run avs objs (two κ) = (s_slices_Contains_int_int_dat.run avs objs (two some)).bind κ
  unfold s_slices_Contains_int_int_dat
  simp only [veil_eq]
  split
  · split <;> rfl
  · rfl
theorem s_slices_Contains_int_int_dat_ok : SumOk Try.prog 45 s_slices_Contains_int_int_dat := by
  have hE : EnvOk Try.prog slices_Contains_int_int_dat_E := env_ok (l := [(61, s_slices_Index_int_int)]) th_ok any_ok ⟨⟨s_slices_Index_int_int_ok, s_slices_Index_int_int_det⟩, trivial⟩ _
  refine sum_ok hE Try.func45 rfl (by kernel_rfl) s_slices_Contains_int_int_dat [.raw] slices_Contains_int_int_dat.k ?_
  intro R avs objs κ r h
  unfold s_slices_Contains_int_int_dat at h
  simp only [veil_eq] at h
  split at h
  · rename_i s v
    split at h
    · cases h
    · rename_i y hy
      refine ⟨BIG, _, _, _, (slices_Contains_int_int_dat.eq BIG s v).trans hy, ?_, h⟩
      intro rs ros hk
      unfold slices_Contains_int_int_dat.k at hk
      split at hk
      · first | (cases hk; exact ⟨rfl, rfl⟩) | (have e := Option.some.inj hk; rw [← e]; exact ⟨rfl, rfl⟩)
      · cases hk
  · cases h
noncomputable def s_slices_Contains_int_int : Den.Sum := ⟨[.own 3 (.int .i64), .raw], fun args objs κ => match args, objs with
  | [.row 0, .d (.int .i64) v], [.row 3 (.int .i64) s false] => s_slices_Contains_int_int_row.run [.row 0, .d (.int .i64) v] [.row 3 (.int .i64) s false] κ
  | [.d (.sl (.int .i64)) s, .d (.int .i64) v], [] => s_slices_Contains_int_int_dat.run [.d (.sl (.int .i64)) s, .d (.int .i64) v] [] κ
  | _, _ => none⟩
theorem s_slices_Contains_int_int_det : SumDet s_slices_Contains_int_int := fun avs objs R κ => by
  show s_slices_Contains_int_int.run avs objs (two κ) = (s_slices_Contains_int_int.run avs objs (two some)).bind κ
  unfold s_slices_Contains_int_int
  simp only
  split
  · exact s_slices_Contains_int_int_row_det _ _ R κ
  · exact s_slices_Contains_int_int_dat_det _ _ R κ
  · rfl
theorem s_slices_Contains_int_int_ok : SumOk Try.prog 45 s_slices_Contains_int_int := by
  refine ⟨s_slices_Contains_int_int_row_ok.1, ?_⟩
  intro R avs objs κ r h
  unfold s_slices_Contains_int_int at h
  simp only at h
  split at h
  · exact s_slices_Contains_int_int_row_ok.2 _ _ κ r h
  · exact s_slices_Contains_int_int_dat_ok.2 _ _ κ r h
  · cases h
noncomputable def slices_insertionSortCmpFunc_queue_Item_E : Env := ⟨th, gam [(50, s_queue_Queue_All_c1)], fun i => if i = 1 then ⟨[0, 1, 2, 3, 8], [], []⟩ else if i = 4 then ⟨[0, 1, 2, 3, 8, 9], [], []⟩ else ⟨[], [], []⟩⟩
noncomputable def slices_insertionSortCmpFunc_queue_Item.k (rs : List AV) (os : List Den.Obj) : Option (List (Int × Int)) :=
  match rs, os with
  | [], [.row 47 (.pair (.int .i64) (.int .i64)) r0 false] => some r0
  | _, _ => none
noncomputable def slices_insertionSortCmpFunc_queue_Item.s4 (l : List (Int × Int)) (a : Int) (b : Int) (x2 : Int) (x3 : Int) (x4 : (List (Int × Int))) : St := ⟨[.row 0, .d (.int .i64) (a), .d (.int .i64) (b), .fn (.func 50) [] [], .dead, .dead, .dead, .dead, .d (.int .i64) x2, .d (.int .i64) x3, .dead, .dead, .dead, .dead, .dead, .dead, .dead, .dead, .dead, .dead, .dead, .dead, .dead, .dead, .dead, .dead, .dead, .dead, .dead, .dead, .dead, .dead, .dead, .dead, .dead, .dead, .dead, .dead, .dead, .dead, .dead, .dead, .dead, .dead, .dead, .dead, .dead, .dead, .dead, .dead, .dead, .dead, .dead], ofL [(0, .row 47 (.pair (.int .i64) (.int .i64)) x4 false)], 1⟩
noncomputable def slices_insertionSortCmpFunc_queue_Item.b4 (l : List (Int × Int)) (a : Int) (b : Int) (A1 : Int → (List (Int × Int)) → Option (List (Int × Int))) (A4 : Int → Int → (List (Int × Int)) → Option (List (Int × Int))) (x2 : Int) (x3 : Int) (x4 : (List (Int × Int))) : Option (List (Int × Int)) :=
  (if (decide (x3 > a)) then (match (idx x4 x3) with | none => none | some y5 => (match (idx x4 x3) with | none => none | some y6 => (match (idx x4 (Go.IntKind.wrap .i64 (x3 - (1 : Int)))) with | none => none | some y7 => (match (idx x4 (Go.IntKind.wrap .i64 (x3 - (1 : Int)))) with | none => none | some y8 => (match (veil (queue_Queue_All_c1.f BIG y6.1 y6.2 y8.1 y8.2)) with | none => none | some y9 => (if (decide (y9 < (0 : Int))) then (match (idx x4 (Go.IntKind.wrap .i64 (x3 - (1 : Int)))) with | none => none | some y10 => (match (idx x4 (Go.IntKind.wrap .i64 (x3 - (1 : Int)))) with | none => none | some y11 => (match (idx x4 x3) with | none => none | some y12 => (match (idx x4 x3) with | none => none | some y13 => (match (idx x4 x3) with | none => none | some y14 => (match (idx x4 x3) with | none => none | some y15 => (match (idx (List.set x4 (Int.toNat x3) (y11.1, y11.2)) (Go.IntKind.wrap .i64 (x3 - (1 : Int)))) with | none => none | some y16 => (match (idx (List.set x4 (Int.toNat x3) (y11.1, y11.2)) (Go.IntKind.wrap .i64 (x3 - (1 : Int)))) with | none => none | some y17 => A4 x2 (Go.IntKind.wrap .i64 (x3 - (1 : Int))) (List.set (List.set x4 (Int.toNat x3) (y11.1, y11.2)) (Int.toNat (Go.IntKind.wrap .i64 (x3 - (1 : Int)))) (y13.1, y13.2)))))))))) else A1 (Go.IntKind.wrap .i64 (x2 + (1 : Int))) x4)))))) else A1 (Go.IntKind.wrap .i64 (x2 + (1 : Int))) x4)
noncomputable def slices_insertionSortCmpFunc_queue_Item.l4 (fuel : Nat) (l : List (Int × Int)) (a : Int) (b : Int) (A1 : Int → (List (Int × Int)) → Option (List (Int × Int))) : Nat → Int → Int → (List (Int × Int)) → Option (List (Int × Int))
  | 0, _, _, _ => none
  | k + 1, x2, x3, x4 => slices_insertionSortCmpFunc_queue_Item.b4 l a b A1 (slices_insertionSortCmpFunc_queue_Item.l4 fuel l a b A1 k) x2 x3 x4
noncomputable def slices_insertionSortCmpFunc_queue_Item.s1 (l : List (Int × Int)) (a : Int) (b : Int) (x0 : Int) (x1 : (List (Int × Int))) : St := ⟨[.row 0, .d (.int .i64) (a), .d (.int .i64) (b), .fn (.func 50) [] [], .dead, .dead, .dead, .dead, .d (.int .i64) x0, .dead, .dead, .dead, .dead, .dead, .dead, .dead, .dead, .dead, .dead, .dead, .dead, .dead, .dead, .dead, .dead, .dead, .dead, .dead, .dead, .dead, .dead, .dead, .dead, .dead, .dead, .dead, .dead, .dead, .dead, .dead, .dead, .dead, .dead, .dead, .dead, .dead, .dead, .dead, .dead, .dead, .dead, .dead, .dead], ofL [(0, .row 47 (.pair (.int .i64) (.int .i64)) x1 false)], 1⟩
noncomputable def slices_insertionSortCmpFunc_queue_Item.b1 (l : List (Int × Int)) (a : Int) (b : Int) (A1 : Int → (List (Int × Int)) → Option (List (Int × Int))) (E4 : Int → Int → (List (Int × Int)) → Option (List (Int × Int))) (x0 : Int) (x1 : (List (Int × Int))) : Option (List (Int × Int)) :=
  (if (decide (x0 < b)) then E4 x0 x0 x1 else some (x1))
noncomputable def slices_insertionSortCmpFunc_queue_Item.l1 (fuel : Nat) (l : List (Int × Int)) (a : Int) (b : Int) : Nat → Int → (List (Int × Int)) → Option (List (Int × Int))
  | 0, _, _ => none
  | k + 1, x0, x1 => slices_insertionSortCmpFunc_queue_Item.b1 l a b (slices_insertionSortCmpFunc_queue_Item.l1 fuel l a b k) (slices_insertionSortCmpFunc_queue_Item.l4 fuel l a b (slices_insertionSortCmpFunc_queue_Item.l1 fuel l a b k) fuel) x0 x1
noncomputable def slices_insertionSortCmpFunc_queue_Item.b (l : List (Int × Int)) (a : Int) (b : Int) (E1 : Int → (List (Int × Int)) → Option (List (Int × Int))) : Option (List (Int × Int)) :=
  E1 (Go.IntKind.wrap .i64 (a + (1 : Int))) l
noncomputable def slices_insertionSortCmpFunc_queue_Item.f (fuel : Nat) (l : List (Int × Int)) (a : Int) (b : Int) : Option (List (Int × Int)) := slices_insertionSortCmpFunc_queue_Item.b l a b (slices_insertionSortCmpFunc_queue_Item.l1 fuel l a b fuel)
theorem slices_insertionSortCmpFunc_queue_Item.l4_eq (fuel : Nat) (l : List (Int × Int)) (a : Int) (b : Int) (k1 : Nat) : ∀ (k : Nat) (x2 : Int) (x3 : Int) (x4 : (List (Int × Int))), lp slices_insertionSortCmpFunc_queue_Item_E fuel Try.f67 [] 1 slices_insertionSortCmpFunc_queue_Item.k 4 [k1] k (slices_insertionSortCmpFunc_queue_Item.s4 l a b x2 x3 x4) = slices_insertionSortCmpFunc_queue_Item.l4 fuel l a b (fun x0 x1 => lp slices_insertionSortCmpFunc_queue_Item_E fuel Try.f67 [] 1 slices_insertionSortCmpFunc_queue_Item.k 1 [] k1 (slices_insertionSortCmpFunc_queue_Item.s1 l a b x0 x1)) k x2 x3 x4 := by
  intro k
  induction k with
  | zero => intro x2 x3 x4; rfl
  | succ k ih =>
    intro x2 x3 x4
    have h : lp slices_insertionSortCmpFunc_queue_Item_E fuel Try.f67 [] 1 slices_insertionSortCmpFunc_queue_Item.k 4 [k1] (k + 1) (slices_insertionSortCmpFunc_queue_Item.s4 l a b x2 x3 x4) = slices_insertionSortCmpFunc_queue_Item.b4 l a b (fun x0 x1 => lp slices_insertionSortCmpFunc_queue_Item_E fuel Try.f67 [] 1 slices_insertionSortCmpFunc_queue_Item.k 1 [] k1 (slices_insertionSortCmpFunc_queue_Item.s1 l a b x0 x1)) (fun x2 x3 x4 => lp slices_insertionSortCmpFunc_queue_Item_E fuel Try.f67 [] 1 slices_insertionSortCmpFunc_queue_Item.k 4 [k1] k (slices_insertionSortCmpFunc_queue_Item.s4 l a b x2 x3 x4)) x2 x3 x4 := by kernel_rfl
    rw [h]
    have e4 : (fun x2 x3 x4 => lp slices_insertionSortCmpFunc_queue_Item_E fuel Try.f67 [] 1 slices_insertionSortCmpFunc_queue_Item.k 4 [k1] k (slices_insertionSortCmpFunc_queue_Item.s4 l a b x2 x3 x4)) = slices_insertionSortCmpFunc_queue_Item.l4 fuel l a b (fun x0 x1 => lp slices_insertionSortCmpFunc_queue_Item_E fuel Try.f67 [] 1 slices_insertionSortCmpFunc_queue_Item.k 1 [] k1 (slices_insertionSortCmpFunc_queue_Item.s1 l a b x0 x1)) k := (funext fun x2 => (funext fun x3 => (funext fun x4 => ih x2 x3 x4)))
    rw [e4]
    rfl
theorem slices_insertionSortCmpFunc_queue_Item.l1_eq (fuel : Nat) (l : List (Int × Int)) (a : Int) (b : Int) : ∀ (k : Nat) (x0 : Int) (x1 : (List (Int × Int))), lp slices_insertionSortCmpFunc_queue_Item_E fuel Try.f67 [] 1 slices_insertionSortCmpFunc_queue_Item.k 1 [] k (slices_insertionSortCmpFunc_queue_Item.s1 l a b x0 x1) = slices_insertionSortCmpFunc_queue_Item.l1 fuel l a b k x0 x1 := by
  intro k
  induction k with
  | zero => intro x0 x1; rfl
  | succ k ih =>
    intro x0 x1
    have h : lp slices_insertionSortCmpFunc_queue_Item_E fuel Try.f67 [] 1 slices_insertionSortCmpFunc_queue_Item.k 1 [] (k + 1) (slices_insertionSortCmpFunc_queue_Item.s1 l a b x0 x1) = slices_insertionSortCmpFunc_queue_Item.b1 l a b (fun x0 x1 => lp slices_insertionSortCmpFunc_queue_Item_E fuel Try.f67 [] 1 slices_insertionSortCmpFunc_queue_Item.k 1 [] k (slices_insertionSortCmpFunc_queue_Item.s1 l a b x0 x1)) (fun x2 x3 x4 => lp slices_insertionSortCmpFunc_queue_Item_E fuel Try.f67 [] 1 slices_insertionSortCmpFunc_queue_Item.k 4 [k] fuel (slices_insertionSortCmpFunc_queue_Item.s4 l a b x2 x3 x4)) x0 x1 := by kernel_rfl
    rw [h]
    have e1 : (fun x0 x1 => lp slices_insertionSortCmpFunc_queue_Item_E fuel Try.f67 [] 1 slices_insertionSortCmpFunc_queue_Item.k 1 [] k (slices_insertionSortCmpFunc_queue_Item.s1 l a b x0 x1)) = slices_insertionSortCmpFunc_queue_Item.l1 fuel l a b k := (funext fun x0 => (funext fun x1 => ih x0 x1))
    rw [e1]
    have e4 : (fun x2 x3 x4 => lp slices_insertionSortCmpFunc_queue_Item_E fuel Try.f67 [] 1 slices_insertionSortCmpFunc_queue_Item.k 4 [k] fuel (slices_insertionSortCmpFunc_queue_Item.s4 l a b x2 x3 x4)) = slices_insertionSortCmpFunc_queue_Item.l4 fuel l a b (fun x0 x1 => lp slices_insertionSortCmpFunc_queue_Item_E fuel Try.f67 [] 1 slices_insertionSortCmpFunc_queue_Item.k 1 [] k (slices_insertionSortCmpFunc_queue_Item.s1 l a b x0 x1)) fuel := (funext fun x2 => (funext fun x3 => (funext fun x4 => slices_insertionSortCmpFunc_queue_Item.l4_eq fuel l a b k fuel x2 x3 x4)))
    rw [e4]
    rw [e1]
    rfl
theorem slices_insertionSortCmpFunc_queue_Item.eq (fuel : Nat) (l : List (Int × Int)) (a : Int) (b : Int) : (denF slices_insertionSortCmpFunc_queue_Item_E loopN fuel Try.f67 [] [.row 0, .d (.int .i64) a, .d (.int .i64) b, .fn (.func 50) [] []] [.row 47 (.pair (.int .i64) (.int .i64)) l false] slices_insertionSortCmpFunc_queue_Item.k) = slices_insertionSortCmpFunc_queue_Item.f fuel l a b := by
  have h : (denF slices_insertionSortCmpFunc_queue_Item_E loopN fuel Try.f67 [] [.row 0, .d (.int .i64) a, .d (.int .i64) b, .fn (.func 50) [] []] [.row 47 (.pair (.int .i64) (.int .i64)) l false] slices_insertionSortCmpFunc_queue_Item.k) = slices_insertionSortCmpFunc_queue_Item.b l a b (fun x0 x1 => lp slices_insertionSortCmpFunc_queue_Item_E fuel Try.f67 [] 1 slices_insertionSortCmpFunc_queue_Item.k 1 [] fuel (slices_insertionSortCmpFunc_queue_Item.s1 l a b x0 x1)) := by kernel_rfl
  rw [h]
  have e1 : (fun x0 x1 => lp slices_insertionSortCmpFunc_queue_Item_E fuel Try.f67 [] 1 slices_insertionSortCmpFunc_queue_Item.k 1 [] fuel (slices_insertionSortCmpFunc_queue_Item.s1 l a b x0 x1)) = slices_insertionSortCmpFunc_queue_Item.l1 fuel l a b fuel := (funext fun x0 => (funext fun x1 => slices_insertionSortCmpFunc_queue_Item.l1_eq fuel l a b fuel x0 x1))
  rw [e1]
  rfl
theorem slices_insertionSortCmpFunc_queue_Item.l4_at (fuel nN kK : Nat) (hN : nN = kK + 1) (l : List (Int × Int)) (a : Int) (b : Int) (A1 : Int → (List (Int × Int)) → Option (List (Int × Int))) (x2 : Int) (x3 : Int) (x4 : (List (Int × Int))) : slices_insertionSortCmpFunc_queue_Item.l4 fuel l a b A1 nN x2 x3 x4 = slices_insertionSortCmpFunc_queue_Item.b4 l a b A1 (slices_insertionSortCmpFunc_queue_Item.l4 fuel l a b A1 kK) x2 x3 x4 := by
  subst hN
  rfl
theorem slices_insertionSortCmpFunc_queue_Item.l1_at (fuel nN kK : Nat) (hN : nN = kK + 1) (l : List (Int × Int)) (a : Int) (b : Int) (x0 : Int) (x1 : (List (Int × Int))) : slices_insertionSortCmpFunc_queue_Item.l1 fuel l a b nN x0 x1 = slices_insertionSortCmpFunc_queue_Item.b1 l a b (slices_insertionSortCmpFunc_queue_Item.l1 fuel l a b kK) (slices_insertionSortCmpFunc_queue_Item.l4 fuel l a b (slices_insertionSortCmpFunc_queue_Item.l1 fuel l a b kK) fuel) x0 x1 := by
  subst hN
  rfl
noncomputable def s_slices_insertionSortCmpFunc_queue_Item : Den.Sum := ⟨[.own 47 (.pair (.int .i64) (.int .i64)), .raw, .raw, .raw], fun args objs κ => match args, objs with
  | [.row 0, .d (.int .i64) a, .d (.int .i64) b, .fn (.func 50) [] []], [.row 47 (.pair (.int .i64) (.int .i64)) l false] => (match veil (slices_insertionSortCmpFunc_queue_Item.f BIG l a b) with | none => none | some y => κ [] [.row 47 (.pair (.int .i64) (.int .i64)) y false])
  | _, _ => none⟩
theorem s_slices_insertionSortCmpFunc_queue_Item_det : SumDet s_slices_insertionSortCmpFunc_queue_Item := fun avs objs R κ => by
  show s_slices_insertionSortCmpFunc_queue_Item.run avs objs (two κ) = (s_slices_insertionSortCmpFunc_queue_Item.run avs objs (two some)).bind κ
  unfold s_slices_insertionSortCmpFunc_queue_Item
  simp only [veil_eq]
  split
  · split <;> rfl
  · rfl
theorem s_slices_insertionSortCmpFunc_queue_Item_ok : SumOk Try.prog 67 s_slices_insertionSortCmpFunc_queue_Item := by
  have hE : EnvOk Try.prog slices_insertionSortCmpFunc_queue_Item_E := env_ok (l := [(50, s_queue_Queue_All_c1)]) th_ok any_ok ⟨⟨s_queue_Queue_All_c1_ok, s_queue_Queue_All_c1_det⟩, trivial⟩ _
  refine sum_ok hE Try.func67 rfl (by kernel_rfl) s_slices_insertionSortCmpFunc_queue_Item [] slices_insertionSortCmpFunc_queue_Item.k ?_
  intro R avs objs κ r h
  unfold s_slices_insertionSortCmpFunc_queue_Item at h
  simp only [veil_eq] at h
  split at h
  · rename_i a b l
    split at h
    · cases h
    · rename_i y hy
      refine ⟨BIG, _, _, _, (slices_insertionSortCmpFunc_queue_Item.eq BIG l a b).trans hy, ?_, h⟩
      intro rs ros hk
      unfold slices_insertionSortCmpFunc_queue_Item.k at hk
      split at hk
      · first | (cases hk; exact ⟨rfl, rfl⟩) | (have e := Option.some.inj hk; rw [← e]; exact ⟨rfl, rfl⟩)
      · cases hk
  · cases h
noncomputable def queue_Queue_Take_c1_E : Env := ⟨th, gam [(45, s_slices_Contains_int_int)], fun i => ⟨[], [], []⟩⟩
noncomputable def queue_Queue_Take_c1.k (rs : List AV) (os : List Den.Obj) : Option (Bool × (List Int) × Int) :=
  match rs, os with
  | [.d .bool r0], [.box [.row 1], .row 3 (.int .i64) r1 false, .box [.d (.int .i64) r2]] => some (r0, r1, r2)
  | _, _ => none
noncomputable def queue_Queue_Take_c1.b (itID : Int) (itSent : Int) (out : List Int) (b0 : Int) : Option (Bool × (List Int) × Int) :=
  (match (veil (slices_Contains_int_int_row.f BIG out itID)) with | none => none | some y0 => (if y0.1 then some ((decide (itSent ≥ b0)), y0.2, b0) else some (false, y0.2, b0)))
noncomputable def queue_Queue_Take_c1.f (fuel : Nat) (itID : Int) (itSent : Int) (out : List Int) (b0 : Int) : Option (Bool × (List Int) × Int) := queue_Queue_Take_c1.b itID itSent out b0
theorem queue_Queue_Take_c1.eq (fuel : Nat) (itID : Int) (itSent : Int) (out : List Int) (b0 : Int) : (denF queue_Queue_Take_c1_E loopN fuel Try.f46 [.raw] [.agg [.d (.int .i64) itID, .d (.int .i64) itSent], .ptr 0 0, .ptr 2 0] [.box [.row 1], .row 3 (.int .i64) out false, .box [.d (.int .i64) b0]] queue_Queue_Take_c1.k) = queue_Queue_Take_c1.f fuel itID itSent out b0 := by
  kernel_rfl
noncomputable def s_queue_Queue_Take_c1 : Den.Sum := ⟨[.dat (.pair (.int .i64) (.int .i64)) true, .pb [.own none [] 0 3 (.int .i64) false], .raw], fun args objs κ => match args, objs with
  | [.agg [.d (.int .i64) itID, .d (.int .i64) itSent], .ptr 0 0, .ptr 2 0], [.box [.row 1], .row 3 (.int .i64) out false, .box [.d (.int .i64) b0]] => (match veil (queue_Queue_Take_c1.f BIG itID itSent out b0) with | none => none | some y => κ [.d .bool y.1] [.box [.row 1], .row 3 (.int .i64) y.2.1 false, .box [.d (.int .i64) y.2.2]])
  | _, _ => none⟩
theorem s_queue_Queue_Take_c1_det : SumDet s_queue_Queue_Take_c1 := fun avs objs R κ => by
  show s_queue_Queue_Take_c1.run avs objs (two κ) = (s_queue_Queue_Take_c1.run avs objs (two some)).bind κ
  unfold s_queue_Queue_Take_c1
  simp only [veil_eq]
  split
  · split <;> rfl
  · rfl
theorem s_queue_Queue_Take_c1_ok : SumOk Try.prog 46 s_queue_Queue_Take_c1 := by
  have hE : EnvOk Try.prog queue_Queue_Take_c1_E := env_ok (l := [(45, s_slices_Contains_int_int)]) th_ok any_ok ⟨⟨s_slices_Contains_int_int_ok, s_slices_Contains_int_int_det⟩, trivial⟩ _
  refine sum_ok hE Try.func46 rfl (by kernel_rfl) s_queue_Queue_Take_c1 [.raw] queue_Queue_Take_c1.k ?_
  intro R avs objs κ r h
  unfold s_queue_Queue_Take_c1 at h
  simp only [veil_eq] at h
  split at h
  · rename_i itID itSent out b0
    split at h
    · cases h
    · rename_i y hy
      refine ⟨BIG, _, _, _, (queue_Queue_Take_c1.eq BIG itID itSent out b0).trans hy, ?_, h⟩
      intro rs ros hk
      unfold queue_Queue_Take_c1.k at hk
      split at hk
      · first | (cases hk; exact ⟨rfl, rfl⟩) | (have e := Option.some.inj hk; rw [← e]; exact ⟨rfl, rfl⟩)
      · cases hk
  · cases h
noncomputable def slices_stableCmpFunc_queue_Item_E : Env := ⟨th, gam [(50, s_queue_Queue_All_c1), (67, s_slices_insertionSortCmpFunc_queue_Item), (68, s_symNone)], fun i => if i = 2 then ⟨[0, 1, 2, 6, 7, 8], [], []⟩ else if i = 7 then ⟨[0, 1, 2, 6], [], []⟩ else if i = 9 then ⟨[0, 1, 2, 6, 7, 8], [], []⟩ else ⟨[], [], []⟩⟩
noncomputable def slices_stableCmpFunc_queue_Item.k (rs : List AV) (os : List Den.Obj) : Option (List (Int × Int)) :=
  match rs, os with
  | [], [.row 47 (.pair (.int .i64) (.int .i64)) r0 false] => some r0
  | _, _ => none
noncomputable def slices_stableCmpFunc_queue_Item.s9 (l : List (Int × Int)) (n0 : Int) (x7 : Int) (x8 : Int) (x9 : (List (Int × Int))) : St := ⟨[.row 0, .d (.int .i64) (n0), .fn (.func 50) [] [], .dead, .dead, .dead, .d (.int .i64) x7, .d (.int .i64) ((0 : Int)), .d (.int .i64) x8, .dead, .dead, .dead, .dead, .dead, .dead, .dead, .dead, .dead, .dead, .dead, .dead, .dead, .dead, .dead, .dead, .dead, .dead, .dead, .dead, .dead, .dead, .dead, .dead, .dead, .dead, .dead, .dead, .dead, .dead, .dead, .dead, .dead, .dead, .dead, .dead, .dead, .dead, .dead, .dead, .dead, .dead, .dead, .dead, .dead, .dead, .dead, .dead, .dead, .dead, .dead, .dead, .dead, .dead], ofL [(0, .row 47 (.pair (.int .i64) (.int .i64)) x9 false)], 1⟩
noncomputable def slices_stableCmpFunc_queue_Item.b9 (l : List (Int × Int)) (n0 : Int) (A7 : Int → (List (Int × Int)) → Option (List (Int × Int))) (A9 : Int → Int → (List (Int × Int)) → Option (List (Int × Int))) (x7 : Int) (x8 : Int) (x9 : (List (Int × Int))) : Option (List (Int × Int)) :=
  (if (decide (x8 ≤ n0)) then none else (if (decide ((Go.IntKind.wrap .i64 ((0 : Int) + x7)) < n0)) then none else A7 (Go.IntKind.wrap .i64 (x7 * (2 : Int))) x9))
noncomputable def slices_stableCmpFunc_queue_Item.l9 (fuel : Nat) (l : List (Int × Int)) (n0 : Int) (A7 : Int → (List (Int × Int)) → Option (List (Int × Int))) : Nat → Int → Int → (List (Int × Int)) → Option (List (Int × Int))
  | 0, _, _, _ => none
  | k + 1, x7, x8, x9 => slices_stableCmpFunc_queue_Item.b9 l n0 A7 (slices_stableCmpFunc_queue_Item.l9 fuel l n0 A7 k) x7 x8 x9
noncomputable def slices_stableCmpFunc_queue_Item.s7 (l : List (Int × Int)) (n0 : Int) (x5 : Int) (x6 : (List (Int × Int))) : St := ⟨[.row 0, .d (.int .i64) (n0), .fn (.func 50) [] [], .dead, .dead, .dead, .d (.int .i64) x5, .dead, .dead, .dead, .dead, .dead, .dead, .dead, .dead, .dead, .dead, .dead, .dead, .dead, .dead, .dead, .dead, .dead, .dead, .dead, .dead, .dead, .dead, .dead, .dead, .dead, .dead, .dead, .dead, .dead, .dead, .dead, .dead, .dead, .dead, .dead, .dead, .dead, .dead, .dead, .dead, .dead, .dead, .dead, .dead, .dead, .dead, .dead, .dead, .dead, .dead, .dead, .dead, .dead, .dead, .dead, .dead], ofL [(0, .row 47 (.pair (.int .i64) (.int .i64)) x6 false)], 1⟩
noncomputable def slices_stableCmpFunc_queue_Item.b7 (l : List (Int × Int)) (n0 : Int) (A7 : Int → (List (Int × Int)) → Option (List (Int × Int))) (E9 : Int → Int → (List (Int × Int)) → Option (List (Int × Int))) (x5 : Int) (x6 : (List (Int × Int))) : Option (List (Int × Int)) :=
  (if (decide (x5 < n0)) then E9 x5 (Go.IntKind.wrap .i64 ((2 : Int) * x5)) x6 else some (x6))
noncomputable def slices_stableCmpFunc_queue_Item.l7 (fuel : Nat) (l : List (Int × Int)) (n0 : Int) : Nat → Int → (List (Int × Int)) → Option (List (Int × Int))
  | 0, _, _ => none
  | k + 1, x5, x6 => slices_stableCmpFunc_queue_Item.b7 l n0 (slices_stableCmpFunc_queue_Item.l7 fuel l n0 k) (slices_stableCmpFunc_queue_Item.l9 fuel l n0 (slices_stableCmpFunc_queue_Item.l7 fuel l n0 k) fuel) x5 x6
noncomputable def slices_stableCmpFunc_queue_Item.s2 (l : List (Int × Int)) (n0 : Int) (x0 : Int) (x1 : Int) (x2 : (List (Int × Int))) : St := ⟨[.row 0, .d (.int .i64) (n0), .fn (.func 50) [] [], .dead, .dead, .dead, .d (.int .i64) ((20 : Int)), .d (.int .i64) x0, .d (.int .i64) x1, .dead, .dead, .dead, .dead, .dead, .dead, .dead, .dead, .dead, .dead, .dead, .dead, .dead, .dead, .dead, .dead, .dead, .dead, .dead, .dead, .dead, .dead, .dead, .dead, .dead, .dead, .dead, .dead, .dead, .dead, .dead, .dead, .dead, .dead, .dead, .dead, .dead, .dead, .dead, .dead, .dead, .dead, .dead, .dead, .dead, .dead, .dead, .dead, .dead, .dead, .dead, .dead, .dead, .dead], ofL [(0, .row 47 (.pair (.int .i64) (.int .i64)) x2 false)], 1⟩
noncomputable def slices_stableCmpFunc_queue_Item.b2 (l : List (Int × Int)) (n0 : Int) (A2 : Int → Int → (List (Int × Int)) → Option (List (Int × Int))) (E7 : Int → (List (Int × Int)) → Option (List (Int × Int))) (x0 : Int) (x1 : Int) (x2 : (List (Int × Int))) : Option (List (Int × Int)) :=
  (if (decide (x1 ≤ n0)) then (match (veil (slices_insertionSortCmpFunc_queue_Item.f BIG x2 x0 x1)) with | none => none | some y3 => A2 x1 (Go.IntKind.wrap .i64 (x1 + (20 : Int))) y3) else (match (veil (slices_insertionSortCmpFunc_queue_Item.f BIG x2 x0 n0)) with | none => none | some y4 => E7 (20 : Int) y4))
noncomputable def slices_stableCmpFunc_queue_Item.l2 (fuel : Nat) (l : List (Int × Int)) (n0 : Int) : Nat → Int → Int → (List (Int × Int)) → Option (List (Int × Int))
  | 0, _, _, _ => none
  | k + 1, x0, x1, x2 => slices_stableCmpFunc_queue_Item.b2 l n0 (slices_stableCmpFunc_queue_Item.l2 fuel l n0 k) (slices_stableCmpFunc_queue_Item.l7 fuel l n0 fuel) x0 x1 x2
noncomputable def slices_stableCmpFunc_queue_Item.b (l : List (Int × Int)) (n0 : Int) (E2 : Int → Int → (List (Int × Int)) → Option (List (Int × Int))) : Option (List (Int × Int)) :=
  E2 (0 : Int) (20 : Int) l
noncomputable def slices_stableCmpFunc_queue_Item.f (fuel : Nat) (l : List (Int × Int)) (n0 : Int) : Option (List (Int × Int)) := slices_stableCmpFunc_queue_Item.b l n0 (slices_stableCmpFunc_queue_Item.l2 fuel l n0 fuel)
theorem slices_stableCmpFunc_queue_Item.l9_eq (fuel : Nat) (l : List (Int × Int)) (n0 : Int) (k7 : Nat) : ∀ (k : Nat) (x7 : Int) (x8 : Int) (x9 : (List (Int × Int))), lp slices_stableCmpFunc_queue_Item_E fuel Try.f62 [] 1 slices_stableCmpFunc_queue_Item.k 9 [k7] k (slices_stableCmpFunc_queue_Item.s9 l n0 x7 x8 x9) = slices_stableCmpFunc_queue_Item.l9 fuel l n0 (fun x5 x6 => lp slices_stableCmpFunc_queue_Item_E fuel Try.f62 [] 1 slices_stableCmpFunc_queue_Item.k 7 [] k7 (slices_stableCmpFunc_queue_Item.s7 l n0 x5 x6)) k x7 x8 x9 := by
  intro k
  induction k with
  | zero => intro x7 x8 x9; rfl
  | succ k ih =>
    intro x7 x8 x9
    have h : lp slices_stableCmpFunc_queue_Item_E fuel Try.f62 [] 1 slices_stableCmpFunc_queue_Item.k 9 [k7] (k + 1) (slices_stableCmpFunc_queue_Item.s9 l n0 x7 x8 x9) = slices_stableCmpFunc_queue_Item.b9 l n0 (fun x5 x6 => lp slices_stableCmpFunc_queue_Item_E fuel Try.f62 [] 1 slices_stableCmpFunc_queue_Item.k 7 [] k7 (slices_stableCmpFunc_queue_Item.s7 l n0 x5 x6)) (fun x7 x8 x9 => lp slices_stableCmpFunc_queue_Item_E fuel Try.f62 [] 1 slices_stableCmpFunc_queue_Item.k 9 [k7] k (slices_stableCmpFunc_queue_Item.s9 l n0 x7 x8 x9)) x7 x8 x9 := by kernel_rfl
    rw [h]
    have e9 : (fun x7 x8 x9 => lp slices_stableCmpFunc_queue_Item_E fuel Try.f62 [] 1 slices_stableCmpFunc_queue_Item.k 9 [k7] k (slices_stableCmpFunc_queue_Item.s9 l n0 x7 x8 x9)) = slices_stableCmpFunc_queue_Item.l9 fuel l n0 (fun x5 x6 => lp slices_stableCmpFunc_queue_Item_E fuel Try.f62 [] 1 slices_stableCmpFunc_queue_Item.k 7 [] k7 (slices_stableCmpFunc_queue_Item.s7 l n0 x5 x6)) k := (funext fun x7 => (funext fun x8 => (funext fun x9 => ih x7 x8 x9)))
    rw [e9]
    rfl
theorem slices_stableCmpFunc_queue_Item.l7_eq (fuel : Nat) (l : List (Int × Int)) (n0 : Int) : ∀ (k : Nat) (x5 : Int) (x6 : (List (Int × Int))), lp slices_stableCmpFunc_queue_Item_E fuel Try.f62 [] 1 slices_stableCmpFunc_queue_Item.k 7 [] k (slices_stableCmpFunc_queue_Item.s7 l n0 x5 x6) = slices_stableCmpFunc_queue_Item.l7 fuel l n0 k x5 x6 := by
  intro k
  induction k with
  | zero => intro x5 x6; rfl
  | succ k ih =>
    intro x5 x6
    have h : lp slices_stableCmpFunc_queue_Item_E fuel Try.f62 [] 1 slices_stableCmpFunc_queue_Item.k 7 [] (k + 1) (slices_stableCmpFunc_queue_Item.s7 l n0 x5 x6) = slices_stableCmpFunc_queue_Item.b7 l n0 (fun x5 x6 => lp slices_stableCmpFunc_queue_Item_E fuel Try.f62 [] 1 slices_stableCmpFunc_queue_Item.k 7 [] k (slices_stableCmpFunc_queue_Item.s7 l n0 x5 x6)) (fun x7 x8 x9 => lp slices_stableCmpFunc_queue_Item_E fuel Try.f62 [] 1 slices_stableCmpFunc_queue_Item.k 9 [k] fuel (slices_stableCmpFunc_queue_Item.s9 l n0 x7 x8 x9)) x5 x6 := by kernel_rfl
    rw [h]
    have e7 : (fun x5 x6 => lp slices_stableCmpFunc_queue_Item_E fuel Try.f62 [] 1 slices_stableCmpFunc_queue_Item.k 7 [] k (slices_stableCmpFunc_queue_Item.s7 l n0 x5 x6)) = slices_stableCmpFunc_queue_Item.l7 fuel l n0 k := (funext fun x5 => (funext fun x6 => ih x5 x6))
    rw [e7]
    have e9 : (fun x7 x8 x9 => lp slices_stableCmpFunc_queue_Item_E fuel Try.f62 [] 1 slices_stableCmpFunc_queue_Item.k 9 [k] fuel (slices_stableCmpFunc_queue_Item.s9 l n0 x7 x8 x9)) = slices_stableCmpFunc_queue_Item.l9 fuel l n0 (fun x5 x6 => lp slices_stableCmpFunc_queue_Item_E fuel Try.f62 [] 1 slices_stableCmpFunc_queue_Item.k 7 [] k (slices_stableCmpFunc_queue_Item.s7 l n0 x5 x6)) fuel := (funext fun x7 => (funext fun x8 => (funext fun x9 => slices_stableCmpFunc_queue_Item.l9_eq fuel l n0 k fuel x7 x8 x9)))
    rw [e9]
    rw [e7]
    rfl
theorem slices_stableCmpFunc_queue_Item.l2_eq (fuel : Nat) (l : List (Int × Int)) (n0 : Int) : ∀ (k : Nat) (x0 : Int) (x1 : Int) (x2 : (List (Int × Int))), lp slices_stableCmpFunc_queue_Item_E fuel Try.f62 [] 1 slices_stableCmpFunc_queue_Item.k 2 [] k (slices_stableCmpFunc_queue_Item.s2 l n0 x0 x1 x2) = slices_stableCmpFunc_queue_Item.l2 fuel l n0 k x0 x1 x2 := by
  intro k
  induction k with
  | zero => intro x0 x1 x2; rfl
  | succ k ih =>
    intro x0 x1 x2
    have h : lp slices_stableCmpFunc_queue_Item_E fuel Try.f62 [] 1 slices_stableCmpFunc_queue_Item.k 2 [] (k + 1) (slices_stableCmpFunc_queue_Item.s2 l n0 x0 x1 x2) = slices_stableCmpFunc_queue_Item.b2 l n0 (fun x0 x1 x2 => lp slices_stableCmpFunc_queue_Item_E fuel Try.f62 [] 1 slices_stableCmpFunc_queue_Item.k 2 [] k (slices_stableCmpFunc_queue_Item.s2 l n0 x0 x1 x2)) (fun x5 x6 => lp slices_stableCmpFunc_queue_Item_E fuel Try.f62 [] 1 slices_stableCmpFunc_queue_Item.k 7 [] fuel (slices_stableCmpFunc_queue_Item.s7 l n0 x5 x6)) x0 x1 x2 := by kernel_rfl
    rw [h]
    have e2 : (fun x0 x1 x2 => lp slices_stableCmpFunc_queue_Item_E fuel Try.f62 [] 1 slices_stableCmpFunc_queue_Item.k 2 [] k (slices_stableCmpFunc_queue_Item.s2 l n0 x0 x1 x2)) = slices_stableCmpFunc_queue_Item.l2 fuel l n0 k := (funext fun x0 => (funext fun x1 => (funext fun x2 => ih x0 x1 x2)))
    rw [e2]
    have e7 : (fun x5 x6 => lp slices_stableCmpFunc_queue_Item_E fuel Try.f62 [] 1 slices_stableCmpFunc_queue_Item.k 7 [] fuel (slices_stableCmpFunc_queue_Item.s7 l n0 x5 x6)) = slices_stableCmpFunc_queue_Item.l7 fuel l n0 fuel := (funext fun x5 => (funext fun x6 => slices_stableCmpFunc_queue_Item.l7_eq fuel l n0 fuel x5 x6))
    rw [e7]
    rfl
theorem slices_stableCmpFunc_queue_Item.eq (fuel : Nat) (l : List (Int × Int)) (n0 : Int) : (denF slices_stableCmpFunc_queue_Item_E loopN fuel Try.f62 [] [.row 0, .d (.int .i64) n0, .fn (.func 50) [] []] [.row 47 (.pair (.int .i64) (.int .i64)) l false] slices_stableCmpFunc_queue_Item.k) = slices_stableCmpFunc_queue_Item.f fuel l n0 := by
  have h : (denF slices_stableCmpFunc_queue_Item_E loopN fuel Try.f62 [] [.row 0, .d (.int .i64) n0, .fn (.func 50) [] []] [.row 47 (.pair (.int .i64) (.int .i64)) l false] slices_stableCmpFunc_queue_Item.k) = slices_stableCmpFunc_queue_Item.b l n0 (fun x0 x1 x2 => lp slices_stableCmpFunc_queue_Item_E fuel Try.f62 [] 1 slices_stableCmpFunc_queue_Item.k 2 [] fuel (slices_stableCmpFunc_queue_Item.s2 l n0 x0 x1 x2)) := by kernel_rfl
  rw [h]
  have e2 : (fun x0 x1 x2 => lp slices_stableCmpFunc_queue_Item_E fuel Try.f62 [] 1 slices_stableCmpFunc_queue_Item.k 2 [] fuel (slices_stableCmpFunc_queue_Item.s2 l n0 x0 x1 x2)) = slices_stableCmpFunc_queue_Item.l2 fuel l n0 fuel := (funext fun x0 => (funext fun x1 => (funext fun x2 => slices_stableCmpFunc_queue_Item.l2_eq fuel l n0 fuel x0 x1 x2)))
  rw [e2]
  rfl
theorem slices_stableCmpFunc_queue_Item.l7_at (fuel nN kK : Nat) (hN : nN = kK + 1) (l : List (Int × Int)) (n0 : Int) (x5 : Int) (x6 : (List (Int × Int))) : slices_stableCmpFunc_queue_Item.l7 fuel l n0 nN x5 x6 = slices_stableCmpFunc_queue_Item.b7 l n0 (slices_stableCmpFunc_queue_Item.l7 fuel l n0 kK) (slices_stableCmpFunc_queue_Item.l9 fuel l n0 (slices_stableCmpFunc_queue_Item.l7 fuel l n0 kK) fuel) x5 x6 := by
  subst hN
  rfl
theorem slices_stableCmpFunc_queue_Item.l2_at (fuel nN kK : Nat) (hN : nN = kK + 1) (l : List (Int × Int)) (n0 : Int) (x0 : Int) (x1 : Int) (x2 : (List (Int × Int))) : slices_stableCmpFunc_queue_Item.l2 fuel l n0 nN x0 x1 x2 = slices_stableCmpFunc_queue_Item.b2 l n0 (slices_stableCmpFunc_queue_Item.l2 fuel l n0 kK) (slices_stableCmpFunc_queue_Item.l7 fuel l n0 fuel) x0 x1 x2 := by
  subst hN
  rfl
noncomputable def s_slices_stableCmpFunc_queue_Item : Den.Sum := ⟨[.own 47 (.pair (.int .i64) (.int .i64)), .raw, .raw], fun args objs κ => match args, objs with
  | [.row 0, .d (.int .i64) n0, .fn (.func 50) [] []], [.row 47 (.pair (.int .i64) (.int .i64)) l false] => (match veil (slices_stableCmpFunc_queue_Item.f BIG l n0) with | none => none | some y => κ [] [.row 47 (.pair (.int .i64) (.int .i64)) y false])
  | _, _ => none⟩
theorem s_slices_stableCmpFunc_queue_Item_det : SumDet s_slices_stableCmpFunc_queue_Item := fun avs objs R κ => by
  show s_slices_stableCmpFunc_queue_Item.run avs objs (two κ) = (s_slices_stableCmpFunc_queue_Item.run avs objs (two some)).bind κ
  unfold s_slices_stableCmpFunc_queue_Item
  simp only [veil_eq]
  split
  · split <;> rfl
  · rfl
theorem s_slices_stableCmpFunc_queue_Item_ok : SumOk Try.prog 62 s_slices_stableCmpFunc_queue_Item := by
  have hE : EnvOk Try.prog slices_stableCmpFunc_queue_Item_E := env_ok (l := [(50, s_queue_Queue_All_c1), (67, s_slices_insertionSortCmpFunc_queue_Item), (68, s_symNone)]) th_ok any_ok ⟨⟨s_queue_Queue_All_c1_ok, s_queue_Queue_All_c1_det⟩, ⟨s_slices_insertionSortCmpFunc_queue_Item_ok, s_slices_insertionSortCmpFunc_queue_Item_det⟩, ⟨s_symNone_ok, s_symNone_det⟩, trivial⟩ _
  refine sum_ok hE Try.func62 rfl (by kernel_rfl) s_slices_stableCmpFunc_queue_Item [] slices_stableCmpFunc_queue_Item.k ?_
  intro R avs objs κ r h
  unfold s_slices_stableCmpFunc_queue_Item at h
  simp only [veil_eq] at h
  split at h
  · rename_i n0 l
    split at h
    · cases h
    · rename_i y hy
      refine ⟨BIG, _, _, _, (slices_stableCmpFunc_queue_Item.eq BIG l n0).trans hy, ?_, h⟩
      intro rs ros hk
      unfold slices_stableCmpFunc_queue_Item.k at hk
      split at hk
      · first | (cases hk; exact ⟨rfl, rfl⟩) | (have e := Option.some.inj hk; rw [← e]; exact ⟨rfl, rfl⟩)
      · cases hk
  · cases h
noncomputable def slices_SortStableFunc_queue_Item_queue_Item_E : Env := ⟨th, gam [(50, s_queue_Queue_All_c1), (62, s_slices_stableCmpFunc_queue_Item)], fun i => ⟨[], [], []⟩⟩
noncomputable def slices_SortStableFunc_queue_Item_queue_Item.k (rs : List AV) (os : List Den.Obj) : Option (List (Int × Int)) :=
  match rs, os with
  | [], [.row 47 (.pair (.int .i64) (.int .i64)) r0 false] => some r0
  | _, _ => none
noncomputable def slices_SortStableFunc_queue_Item_queue_Item.b (l : List (Int × Int)) : Option (List (Int × Int)) :=
  (match (veil (slices_stableCmpFunc_queue_Item.f BIG l ((((List.length l)) : Nat) : Int))) with | none => none | some y0 => some (y0))
noncomputable def slices_SortStableFunc_queue_Item_queue_Item.f (fuel : Nat) (l : List (Int × Int)) : Option (List (Int × Int)) := slices_SortStableFunc_queue_Item_queue_Item.b l
theorem slices_SortStableFunc_queue_Item_queue_Item.eq (fuel : Nat) (l : List (Int × Int)) : (denF slices_SortStableFunc_queue_Item_queue_Item_E loopN fuel Try.f49 [] [.row 0, .fn (.func 50) [] []] [.row 47 (.pair (.int .i64) (.int .i64)) l false] slices_SortStableFunc_queue_Item_queue_Item.k) = slices_SortStableFunc_queue_Item_queue_Item.f fuel l := by
  kernel_rfl
noncomputable def s_slices_SortStableFunc_queue_Item_queue_Item : Den.Sum := ⟨[.own 47 (.pair (.int .i64) (.int .i64)), .raw], fun args objs κ => match args, objs with
  | [.row 0, .fn (.func 50) [] []], [.row 47 (.pair (.int .i64) (.int .i64)) l false] => (match veil (slices_SortStableFunc_queue_Item_queue_Item.f BIG l) with | none => none | some y => κ [] [.row 47 (.pair (.int .i64) (.int .i64)) y false])
  | _, _ => none⟩
theorem s_slices_SortStableFunc_queue_Item_queue_Item_det : SumDet s_slices_SortStableFunc_queue_Item_queue_Item := fun avs objs R κ => by
  show s_slices_SortStableFunc_queue_Item_queue_Item.run avs objs (two κ) = (s_slices_SortStableFunc_queue_Item_queue_Item.run avs objs (two some)).bind κ
  unfold s_slices_SortStableFunc_queue_Item_queue_Item
  simp only [veil_eq]
  split
  · split <;> rfl
  · rfl
theorem s_slices_SortStableFunc_queue_Item_queue_Item_ok : SumOk Try.prog 49 s_slices_SortStableFunc_queue_Item_queue_Item := by
  have hE : EnvOk Try.prog slices_SortStableFunc_queue_Item_queue_Item_E := env_ok (l := [(50, s_queue_Queue_All_c1), (62, s_slices_stableCmpFunc_queue_Item)]) th_ok any_ok ⟨⟨s_queue_Queue_All_c1_ok, s_queue_Queue_All_c1_det⟩, ⟨s_slices_stableCmpFunc_queue_Item_ok, s_slices_stableCmpFunc_queue_Item_det⟩, trivial⟩ _
  refine sum_ok hE Try.func49 rfl (by kernel_rfl) s_slices_SortStableFunc_queue_Item_queue_Item [] slices_SortStableFunc_queue_Item_queue_Item.k ?_
  intro R avs objs κ r h
  unfold s_slices_SortStableFunc_queue_Item_queue_Item at h
  simp only [veil_eq] at h
  split at h
  · rename_i l
    split at h
    · cases h
    · rename_i y hy
      refine ⟨BIG, _, _, _, (slices_SortStableFunc_queue_Item_queue_Item.eq BIG l).trans hy, ?_, h⟩
      intro rs ros hk
      unfold slices_SortStableFunc_queue_Item_queue_Item.k at hk
      split at hk
      · first | (cases hk; exact ⟨rfl, rfl⟩) | (have e := Option.some.inj hk; rw [← e]; exact ⟨rfl, rfl⟩)
      · cases hk
  · cases h
noncomputable def slices_IndexFunc_queue_Item_queue_Item_drop_E : Env := ⟨th, gam [(43, s_queue_Queue_Drop_c1)], fun i => if i = 2 then ⟨[0, 1, 7, 8], [], []⟩ else ⟨[], [], []⟩⟩
noncomputable def slices_IndexFunc_queue_Item_queue_Item_drop.k (rs : List AV) (os : List Den.Obj) : Option (Int × (List (Int × Int)) × Int) :=
  match rs, os with
  | [.d (.int .i64) r0], [.row 47 (.pair (.int .i64) (.int .i64)) r1 false, .box [.d (.int .i64) r2]] => some (r0, r1, r2)
  | _, _ => none
noncomputable def slices_IndexFunc_queue_Item_queue_Item_drop.s2 (s : List (Int × Int)) (id0 : Int) (x0 : Int) (x1 : Int) (x2 : Int) : St := ⟨[.row 0, .fn (.func 43) [] [.ptr 1 0], .dead, .dead, .dead, .dead, .dead, .d (.int .i64) x0, .d (.int .i64) x1, .dead, .dead, .dead, .dead, .dead, .dead, .dead, .dead, .dead, .dead], ofL [(0, .row 47 (.pair (.int .i64) (.int .i64)) (s) false), (1, .box [.d (.int .i64) x2])], 2⟩
noncomputable def slices_IndexFunc_queue_Item_queue_Item_drop.b2 (s : List (Int × Int)) (id0 : Int) (A2 : Int → Int → Int → Option (Int × (List (Int × Int)) × Int)) (x0 : Int) (x1 : Int) (x2 : Int) : Option (Int × (List (Int × Int)) × Int) :=
  (if (decide (x1 < x0)) then (match (idx s x1) with | none => none | some y3 => (match (idx s x1) with | none => none | some y4 => (match (veil (queue_Queue_Drop_c1.f BIG y4.1 y4.2 x2)) with | none => none | some y5 => (if y5.1 then some (x1, s, y5.2) else A2 x0 (Go.IntKind.wrap .i64 (x1 + (1 : Int))) y5.2)))) else some ((-(1 : Int)), s, x2))
noncomputable def slices_IndexFunc_queue_Item_queue_Item_drop.l2 (fuel : Nat) (s : List (Int × Int)) (id0 : Int) : Nat → Int → Int → Int → Option (Int × (List (Int × Int)) × Int)
  | 0, _, _, _ => none
  | k + 1, x0, x1, x2 => slices_IndexFunc_queue_Item_queue_Item_drop.b2 s id0 (slices_IndexFunc_queue_Item_queue_Item_drop.l2 fuel s id0 k) x0 x1 x2
noncomputable def slices_IndexFunc_queue_Item_queue_Item_drop.b (s : List (Int × Int)) (id0 : Int) (E2 : Int → Int → Int → Option (Int × (List (Int × Int)) × Int)) : Option (Int × (List (Int × Int)) × Int) :=
  E2 ((((List.length s)) : Nat) : Int) (0 : Int) id0
noncomputable def slices_IndexFunc_queue_Item_queue_Item_drop.f (fuel : Nat) (s : List (Int × Int)) (id0 : Int) : Option (Int × (List (Int × Int)) × Int) := slices_IndexFunc_queue_Item_queue_Item_drop.b s id0 (slices_IndexFunc_queue_Item_queue_Item_drop.l2 fuel s id0 fuel)
theorem slices_IndexFunc_queue_Item_queue_Item_drop.l2_eq (fuel : Nat) (s : List (Int × Int)) (id0 : Int) : ∀ (k : Nat) (x0 : Int) (x1 : Int) (x2 : Int), lp slices_IndexFunc_queue_Item_queue_Item_drop_E fuel Try.f60 [.raw] 2 slices_IndexFunc_queue_Item_queue_Item_drop.k 2 [] k (slices_IndexFunc_queue_Item_queue_Item_drop.s2 s id0 x0 x1 x2) = slices_IndexFunc_queue_Item_queue_Item_drop.l2 fuel s id0 k x0 x1 x2 := by
  intro k
  induction k with
  | zero => intro x0 x1 x2; rfl
  | succ k ih =>
    intro x0 x1 x2
    have h : lp slices_IndexFunc_queue_Item_queue_Item_drop_E fuel Try.f60 [.raw] 2 slices_IndexFunc_queue_Item_queue_Item_drop.k 2 [] (k + 1) (slices_IndexFunc_queue_Item_queue_Item_drop.s2 s id0 x0 x1 x2) = slices_IndexFunc_queue_Item_queue_Item_drop.b2 s id0 (fun x0 x1 x2 => lp slices_IndexFunc_queue_Item_queue_Item_drop_E fuel Try.f60 [.raw] 2 slices_IndexFunc_queue_Item_queue_Item_drop.k 2 [] k (slices_IndexFunc_queue_Item_queue_Item_drop.s2 s id0 x0 x1 x2)) x0 x1 x2 := by kernel_rfl
    rw [h]
    have e2 : (fun x0 x1 x2 => lp slices_IndexFunc_queue_Item_queue_Item_drop_E fuel Try.f60 [.raw] 2 slices_IndexFunc_queue_Item_queue_Item_drop.k 2 [] k (slices_IndexFunc_queue_Item_queue_Item_drop.s2 s id0 x0 x1 x2)) = slices_IndexFunc_queue_Item_queue_Item_drop.l2 fuel s id0 k := (funext fun x0 => (funext fun x1 => (funext fun x2 => ih x0 x1 x2)))
    rw [e2]
    rfl
theorem slices_IndexFunc_queue_Item_queue_Item_drop.eq (fuel : Nat) (s : List (Int × Int)) (id0 : Int) : (denF slices_IndexFunc_queue_Item_queue_Item_drop_E loopN fuel Try.f60 [.raw] [.row 0, .fn (.func 43) [] [.ptr 1 0]] [.row 47 (.pair (.int .i64) (.int .i64)) s false, .box [.d (.int .i64) id0]] slices_IndexFunc_queue_Item_queue_Item_drop.k) = slices_IndexFunc_queue_Item_queue_Item_drop.f fuel s id0 := by
  have h : (denF slices_IndexFunc_queue_Item_queue_Item_drop_E loopN fuel Try.f60 [.raw] [.row 0, .fn (.func 43) [] [.ptr 1 0]] [.row 47 (.pair (.int .i64) (.int .i64)) s false, .box [.d (.int .i64) id0]] slices_IndexFunc_queue_Item_queue_Item_drop.k) = slices_IndexFunc_queue_Item_queue_Item_drop.b s id0 (fun x0 x1 x2 => lp slices_IndexFunc_queue_Item_queue_Item_drop_E fuel Try.f60 [.raw] 2 slices_IndexFunc_queue_Item_queue_Item_drop.k 2 [] fuel (slices_IndexFunc_queue_Item_queue_Item_drop.s2 s id0 x0 x1 x2)) := by kernel_rfl
  rw [h]
  have e2 : (fun x0 x1 x2 => lp slices_IndexFunc_queue_Item_queue_Item_drop_E fuel Try.f60 [.raw] 2 slices_IndexFunc_queue_Item_queue_Item_drop.k 2 [] fuel (slices_IndexFunc_queue_Item_queue_Item_drop.s2 s id0 x0 x1 x2)) = slices_IndexFunc_queue_Item_queue_Item_drop.l2 fuel s id0 fuel := (funext fun x0 => (funext fun x1 => (funext fun x2 => slices_IndexFunc_queue_Item_queue_Item_drop.l2_eq fuel s id0 fuel x0 x1 x2)))
  rw [e2]
  rfl
theorem slices_IndexFunc_queue_Item_queue_Item_drop.l2_at (fuel nN kK : Nat) (hN : nN = kK + 1) (s : List (Int × Int)) (id0 : Int) (x0 : Int) (x1 : Int) (x2 : Int) : slices_IndexFunc_queue_Item_queue_Item_drop.l2 fuel s id0 nN x0 x1 x2 = slices_IndexFunc_queue_Item_queue_Item_drop.b2 s id0 (slices_IndexFunc_queue_Item_queue_Item_drop.l2 fuel s id0 kK) x0 x1 x2 := by
  subst hN
  rfl
noncomputable def s_slices_IndexFunc_queue_Item_queue_Item_drop : Den.Sum := ⟨[.own 47 (.pair (.int .i64) (.int .i64)), .raw], fun args objs κ => match args, objs with
  | [.row 0, .fn (.func 43) [] [.ptr 1 0]], [.row 47 (.pair (.int .i64) (.int .i64)) s false, .box [.d (.int .i64) id0]] => (match veil (slices_IndexFunc_queue_Item_queue_Item_drop.f BIG s id0) with | none => none | some y => κ [.d (.int .i64) y.1] [.row 47 (.pair (.int .i64) (.int .i64)) y.2.1 false, .box [.d (.int .i64) y.2.2]])
  | _, _ => none⟩
theorem s_slices_IndexFunc_queue_Item_queue_Item_drop_det : SumDet s_slices_IndexFunc_queue_Item_queue_Item_drop := fun avs objs R κ => by
  show s_slices_IndexFunc_queue_Item_queue_Item_drop.run avs objs (two κ) = (s_slices_IndexFunc_queue_Item_queue_Item_drop.run avs objs (two some)).bind κ
  unfold s_slices_IndexFunc_queue_Item_queue_Item_drop
  simp only [veil_eq]
  split
  · split <;> rfl
  · rfl
theorem s_slices_IndexFunc_queue_Item_queue_Item_drop_ok : SumOk Try.prog 60 s_slices_IndexFunc_queue_Item_queue_Item_drop := by
  have hE : EnvOk Try.prog slices_IndexFunc_queue_Item_queue_Item_drop_E := env_ok (l := [(43, s_queue_Queue_Drop_c1)]) th_ok any_ok ⟨⟨s_queue_Queue_Drop_c1_ok, s_queue_Queue_Drop_c1_det⟩, trivial⟩ _
  refine sum_ok hE Try.func60 rfl (by kernel_rfl) s_slices_IndexFunc_queue_Item_queue_Item_drop [.raw] slices_IndexFunc_queue_Item_queue_Item_drop.k ?_
  intro R avs objs κ r h
  unfold s_slices_IndexFunc_queue_Item_queue_Item_drop at h
  simp only [veil_eq] at h
  split at h
  · rename_i s id0
    split at h
    · cases h
    · rename_i y hy
      refine ⟨BIG, _, _, _, (slices_IndexFunc_queue_Item_queue_Item_drop.eq BIG s id0).trans hy, ?_, h⟩
      intro rs ros hk
      unfold slices_IndexFunc_queue_Item_queue_Item_drop.k at hk
      split at hk
      · first | (cases hk; exact ⟨rfl, rfl⟩) | (have e := Option.some.inj hk; rw [← e]; exact ⟨rfl, rfl⟩)
      · cases hk
  · cases h
noncomputable def slices_IndexFunc_queue_Item_queue_Item_take_E : Env := ⟨th, gam [(46, s_queue_Queue_Take_c1)], fun i => if i = 2 then ⟨[0, 1, 7, 8], [], []⟩ else ⟨[], [], []⟩⟩
noncomputable def slices_IndexFunc_queue_Item_queue_Item_take.k (rs : List AV) (os : List Den.Obj) : Option (Int × (List (Int × Int)) × (List Int) × Int) :=
  match rs, os with
  | [.d (.int .i64) r0], [.row 47 (.pair (.int .i64) (.int .i64)) r1 false, .box [.row 2], .row 3 (.int .i64) r2 false, .box [.d (.int .i64) r3]] => some (r0, r1, r2, r3)
  | _, _ => none
noncomputable def slices_IndexFunc_queue_Item_queue_Item_take.s2 (s : List (Int × Int)) (out : List Int) (b0 : Int) (x0 : Int) (x1 : Int) (x2 : (List Int)) (x3 : Int) : St := ⟨[.row 0, .fn (.func 46) [] [.ptr 1 0, .ptr 3 0], .dead, .dead, .dead, .dead, .dead, .d (.int .i64) x0, .d (.int .i64) x1, .dead, .dead, .dead, .dead, .dead, .dead, .dead, .dead, .dead, .dead], ofL [(0, .row 47 (.pair (.int .i64) (.int .i64)) (s) false), (1, .box [.row 2]), (2, .row 3 (.int .i64) x2 false), (3, .box [.d (.int .i64) x3])], 4⟩
noncomputable def slices_IndexFunc_queue_Item_queue_Item_take.b2 (s : List (Int × Int)) (out : List Int) (b0 : Int) (A2 : Int → Int → (List Int) → Int → Option (Int × (List (Int × Int)) × (List Int) × Int)) (x0 : Int) (x1 : Int) (x2 : (List Int)) (x3 : Int) : Option (Int × (List (Int × Int)) × (List Int) × Int) :=
  (if (decide (x1 < x0)) then (match (idx s x1) with | none => none | some y4 => (match (idx s x1) with | none => none | some y5 => (match (veil (queue_Queue_Take_c1.f BIG y5.1 y5.2 x2 x3)) with | none => none | some y6 => (if y6.1 then some (x1, s, y6.2.1, y6.2.2) else A2 x0 (Go.IntKind.wrap .i64 (x1 + (1 : Int))) y6.2.1 y6.2.2)))) else some ((-(1 : Int)), s, x2, x3))
noncomputable def slices_IndexFunc_queue_Item_queue_Item_take.l2 (fuel : Nat) (s : List (Int × Int)) (out : List Int) (b0 : Int) : Nat → Int → Int → (List Int) → Int → Option (Int × (List (Int × Int)) × (List Int) × Int)
  | 0, _, _, _, _ => none
  | k + 1, x0, x1, x2, x3 => slices_IndexFunc_queue_Item_queue_Item_take.b2 s out b0 (slices_IndexFunc_queue_Item_queue_Item_take.l2 fuel s out b0 k) x0 x1 x2 x3
noncomputable def slices_IndexFunc_queue_Item_queue_Item_take.b (s : List (Int × Int)) (out : List Int) (b0 : Int) (E2 : Int → Int → (List Int) → Int → Option (Int × (List (Int × Int)) × (List Int) × Int)) : Option (Int × (List (Int × Int)) × (List Int) × Int) :=
  E2 ((((List.length s)) : Nat) : Int) (0 : Int) out b0
noncomputable def slices_IndexFunc_queue_Item_queue_Item_take.f (fuel : Nat) (s : List (Int × Int)) (out : List Int) (b0 : Int) : Option (Int × (List (Int × Int)) × (List Int) × Int) := slices_IndexFunc_queue_Item_queue_Item_take.b s out b0 (slices_IndexFunc_queue_Item_queue_Item_take.l2 fuel s out b0 fuel)
theorem slices_IndexFunc_queue_Item_queue_Item_take.l2_eq (fuel : Nat) (s : List (Int × Int)) (out : List Int) (b0 : Int) : ∀ (k : Nat) (x0 : Int) (x1 : Int) (x2 : (List Int)) (x3 : Int), lp slices_IndexFunc_queue_Item_queue_Item_take_E fuel Try.f60 [.raw] 4 slices_IndexFunc_queue_Item_queue_Item_take.k 2 [] k (slices_IndexFunc_queue_Item_queue_Item_take.s2 s out b0 x0 x1 x2 x3) = slices_IndexFunc_queue_Item_queue_Item_take.l2 fuel s out b0 k x0 x1 x2 x3 := by
  intro k
  induction k with
  | zero => intro x0 x1 x2 x3; rfl
  | succ k ih =>
    intro x0 x1 x2 x3
    have h : lp slices_IndexFunc_queue_Item_queue_Item_take_E fuel Try.f60 [.raw] 4 slices_IndexFunc_queue_Item_queue_Item_take.k 2 [] (k + 1) (slices_IndexFunc_queue_Item_queue_Item_take.s2 s out b0 x0 x1 x2 x3) = slices_IndexFunc_queue_Item_queue_Item_take.b2 s out b0 (fun x0 x1 x2 x3 => lp slices_IndexFunc_queue_Item_queue_Item_take_E fuel Try.f60 [.raw] 4 slices_IndexFunc_queue_Item_queue_Item_take.k 2 [] k (slices_IndexFunc_queue_Item_queue_Item_take.s2 s out b0 x0 x1 x2 x3)) x0 x1 x2 x3 := by kernel_rfl
    rw [h]
    have e2 : (fun x0 x1 x2 x3 => lp slices_IndexFunc_queue_Item_queue_Item_take_E fuel Try.f60 [.raw] 4 slices_IndexFunc_queue_Item_queue_Item_take.k 2 [] k (slices_IndexFunc_queue_Item_queue_Item_take.s2 s out b0 x0 x1 x2 x3)) = slices_IndexFunc_queue_Item_queue_Item_take.l2 fuel s out b0 k := (funext fun x0 => (funext fun x1 => (funext fun x2 => (funext fun x3 => ih x0 x1 x2 x3))))
    rw [e2]
    rfl
theorem slices_IndexFunc_queue_Item_queue_Item_take.eq (fuel : Nat) (s : List (Int × Int)) (out : List Int) (b0 : Int) : (denF slices_IndexFunc_queue_Item_queue_Item_take_E loopN fuel Try.f60 [.raw] [.row 0, .fn (.func 46) [] [.ptr 1 0, .ptr 3 0]] [.row 47 (.pair (.int .i64) (.int .i64)) s false, .box [.row 2], .row 3 (.int .i64) out false, .box [.d (.int .i64) b0]] slices_IndexFunc_queue_Item_queue_Item_take.k) = slices_IndexFunc_queue_Item_queue_Item_take.f fuel s out b0 := by
  have h : (denF slices_IndexFunc_queue_Item_queue_Item_take_E loopN fuel Try.f60 [.raw] [.row 0, .fn (.func 46) [] [.ptr 1 0, .ptr 3 0]] [.row 47 (.pair (.int .i64) (.int .i64)) s false, .box [.row 2], .row 3 (.int .i64) out false, .box [.d (.int .i64) b0]] slices_IndexFunc_queue_Item_queue_Item_take.k) = slices_IndexFunc_queue_Item_queue_Item_take.b s out b0 (fun x0 x1 x2 x3 => lp slices_IndexFunc_queue_Item_queue_Item_take_E fuel Try.f60 [.raw] 4 slices_IndexFunc_queue_Item_queue_Item_take.k 2 [] fuel (slices_IndexFunc_queue_Item_queue_Item_take.s2 s out b0 x0 x1 x2 x3)) := by kernel_rfl
  rw [h]
  have e2 : (fun x0 x1 x2 x3 => lp slices_IndexFunc_queue_Item_queue_Item_take_E fuel Try.f60 [.raw] 4 slices_IndexFunc_queue_Item_queue_Item_take.k 2 [] fuel (slices_IndexFunc_queue_Item_queue_Item_take.s2 s out b0 x0 x1 x2 x3)) = slices_IndexFunc_queue_Item_queue_Item_take.l2 fuel s out b0 fuel := (funext fun x0 => (funext fun x1 => (funext fun x2 => (funext fun x3 => slices_IndexFunc_queue_Item_queue_Item_take.l2_eq fuel s out b0 fuel x0 x1 x2 x3))))
  rw [e2]
  rfl
theorem slices_IndexFunc_queue_Item_queue_Item_take.l2_at (fuel nN kK : Nat) (hN : nN = kK + 1) (s : List (Int × Int)) (out : List Int) (b0 : Int) (x0 : Int) (x1 : Int) (x2 : (List Int)) (x3 : Int) : slices_IndexFunc_queue_Item_queue_Item_take.l2 fuel s out b0 nN x0 x1 x2 x3 = slices_IndexFunc_queue_Item_queue_Item_take.b2 s out b0 (slices_IndexFunc_queue_Item_queue_Item_take.l2 fuel s out b0 kK) x0 x1 x2 x3 := by
  subst hN
  rfl
noncomputable def s_slices_IndexFunc_queue_Item_queue_Item_take : Den.Sum := ⟨[.own 47 (.pair (.int .i64) (.int .i64)), .raw], fun args objs κ => match args, objs with
  | [.row 0, .fn (.func 46) [] [.ptr 1 0, .ptr 3 0]], [.row 47 (.pair (.int .i64) (.int .i64)) s false, .box [.row 2], .row 3 (.int .i64) out false, .box [.d (.int .i64) b0]] => (match veil (slices_IndexFunc_queue_Item_queue_Item_take.f BIG s out b0) with | none => none | some y => κ [.d (.int .i64) y.1] [.row 47 (.pair (.int .i64) (.int .i64)) y.2.1 false, .box [.row 2], .row 3 (.int .i64) y.2.2.1 false, .box [.d (.int .i64) y.2.2.2]])
  | _, _ => none⟩
theorem s_slices_IndexFunc_queue_Item_queue_Item_take_det : SumDet s_slices_IndexFunc_queue_Item_queue_Item_take := fun avs objs R κ => by
  show s_slices_IndexFunc_queue_Item_queue_Item_take.run avs objs (two κ) = (s_slices_IndexFunc_queue_Item_queue_Item_take.run avs objs (two some)).bind κ
  unfold s_slices_IndexFunc_queue_Item_queue_Item_take
  simp only [veil_eq]
  split
  · split <;> rfl
  · rfl
theorem s_slices_IndexFunc_queue_Item_queue_Item_take_ok : SumOk Try.prog 60 s_slices_IndexFunc_queue_Item_queue_Item_take := by
  have hE : EnvOk Try.prog slices_IndexFunc_queue_Item_queue_Item_take_E := env_ok (l := [(46, s_queue_Queue_Take_c1)]) th_ok any_ok ⟨⟨s_queue_Queue_Take_c1_ok, s_queue_Queue_Take_c1_det⟩, trivial⟩ _
  refine sum_ok hE Try.func60 rfl (by kernel_rfl) s_slices_IndexFunc_queue_Item_queue_Item_take [.raw] slices_IndexFunc_queue_Item_queue_Item_take.k ?_
  intro R avs objs κ r h
  unfold s_slices_IndexFunc_queue_Item_queue_Item_take at h
  simp only [veil_eq] at h
  split at h
  · rename_i s out b0
    split at h
    · cases h
    · rename_i y hy
      refine ⟨BIG, _, _, _, (slices_IndexFunc_queue_Item_queue_Item_take.eq BIG s out b0).trans hy, ?_, h⟩
      intro rs ros hk
      unfold slices_IndexFunc_queue_Item_queue_Item_take.k at hk
      split at hk
      · first | (cases hk; exact ⟨rfl, rfl⟩) | (have e := Option.some.inj hk; rw [← e]; exact ⟨rfl, rfl⟩)
      · cases hk
  · cases h
noncomputable def s_slices_IndexFunc_queue_Item_queue_Item : Den.Sum := ⟨[.own 47 (.pair (.int .i64) (.int .i64)), .raw], fun args objs κ => match args, objs with
  | [.row 0, .fn (.func 43) [] [.ptr 1 0]], [.row 47 (.pair (.int .i64) (.int .i64)) s false, .box [.d (.int .i64) id0]] => s_slices_IndexFunc_queue_Item_queue_Item_drop.run [.row 0, .fn (.func 43) [] [.ptr 1 0]] [.row 47 (.pair (.int .i64) (.int .i64)) s false, .box [.d (.int .i64) id0]] κ
  | [.row 0, .fn (.func 46) [] [.ptr 1 0, .ptr 3 0]], [.row 47 (.pair (.int .i64) (.int .i64)) s false, .box [.row 2], .row 3 (.int .i64) out false, .box [.d (.int .i64) b0]] => s_slices_IndexFunc_queue_Item_queue_Item_take.run [.row 0, .fn (.func 46) [] [.ptr 1 0, .ptr 3 0]] [.row 47 (.pair (.int .i64) (.int .i64)) s false, .box [.row 2], .row 3 (.int .i64) out false, .box [.d (.int .i64) b0]] κ
  | _, _ => none⟩
theorem s_slices_IndexFunc_queue_Item_queue_Item_det : SumDet s_slices_IndexFunc_queue_Item_queue_Item := fun avs objs R κ => by
  show s_slices_IndexFunc_queue_Item_queue_Item.run avs objs (two κ) = (s_slices_IndexFunc_queue_Item_queue_Item.run avs objs (two some)).bind κ
  unfold s_slices_IndexFunc_queue_Item_queue_Item
  simp only
  split
  · exact s_slices_IndexFunc_queue_Item_queue_Item_drop_det _ _ R κ
  · exact s_slices_IndexFunc_queue_Item_queue_Item_take_det _ _ R κ
  · rfl
theorem s_slices_IndexFunc_queue_Item_queue_Item_ok : SumOk Try.prog 60 s_slices_IndexFunc_queue_Item_queue_Item := by
  refine ⟨s_slices_IndexFunc_queue_Item_queue_Item_drop_ok.1, ?_⟩
  intro R avs objs κ r h
  unfold s_slices_IndexFunc_queue_Item_queue_Item at h
  simp only at h
  split at h
  · exact s_slices_IndexFunc_queue_Item_queue_Item_drop_ok.2 _ _ κ r h
  · exact s_slices_IndexFunc_queue_Item_queue_Item_take_ok.2 _ _ κ r h
  · cases h
noncomputable def queue_Queue_All_E : Env := ⟨th, gam [(47, s_clone47), (48, s_slices_Reverse_queue_Item_queue_Item), (49, s_slices_SortStableFunc_queue_Item_queue_Item), (50, s_queue_Queue_All_c1)], fun i => ⟨[], [], []⟩⟩
noncomputable def queue_Queue_All.k (rs : List AV) (os : List Den.Obj) : Option ((List (Int × Int)) × (List (Int × Int))) :=
  match rs, os with
  | [.row 3], [.box [.row 2], .gone, .row 47 (.pair (.int .i64) (.int .i64)) r0 false, .row 47 (.pair (.int .i64) (.int .i64)) r1 false] => some (r0, r1)
  | _, _ => none
noncomputable def queue_Queue_All.b (l : List (Int × Int)) : Option ((List (Int × Int)) × (List (Int × Int))) :=
  (if (((47 : Nat) = (47 : Nat)) ∧ (((List.length l) * (16 : Nat)) ≤ (140737488355328 : Nat))) then (match (veil (slices_Reverse_queue_Item_queue_Item.f BIG l)) with | none => none | some y0 => (match (veil (slices_SortStableFunc_queue_Item_queue_Item.f BIG y0)) with | none => none | some y1 => some (l, y1))) else none)
noncomputable def queue_Queue_All.f (fuel : Nat) (l : List (Int × Int)) : Option ((List (Int × Int)) × (List (Int × Int))) := queue_Queue_All.b l
theorem queue_Queue_All.eq (fuel : Nat) (l : List (Int × Int)) : (denF queue_Queue_All_E loopN fuel Try.f22 [.own 47 (.pair (.int .i64) (.int .i64)), .pb [.own (some 0) [] 0 47 (.pair (.int .i64) (.int .i64)) true, .kill 1]] [.ptr 0 0] [.box [.row 1], .row 47 (.pair (.int .i64) (.int .i64)) l false] queue_Queue_All.k) = queue_Queue_All.f fuel l := by
  kernel_rfl
noncomputable def s_queue_Queue_All : Den.Sum := ⟨[.pb [.own none [] 0 47 (.pair (.int .i64) (.int .i64)) false]], fun args objs κ => match args, objs with
  | [.ptr 0 0], [.box [.row 1], .row 47 (.pair (.int .i64) (.int .i64)) l false] => (match veil (queue_Queue_All.f BIG l) with | none => none | some y => κ [.row 3] [.box [.row 2], .gone, .row 47 (.pair (.int .i64) (.int .i64)) y.1 false, .row 47 (.pair (.int .i64) (.int .i64)) y.2 false])
  | _, _ => none⟩
theorem s_queue_Queue_All_det : SumDet s_queue_Queue_All := fun avs objs R κ => by
  show s_queue_Queue_All.run avs objs (two κ) = (s_queue_Queue_All.run avs objs (two some)).bind κ
  unfold s_queue_Queue_All
  simp only [veil_eq]
  split
  · split <;> rfl
  · rfl
theorem s_queue_Queue_All_ok : SumOk Try.prog 22 s_queue_Queue_All := by
  have hE : EnvOk Try.prog queue_Queue_All_E := env_ok (l := [(47, s_clone47), (48, s_slices_Reverse_queue_Item_queue_Item), (49, s_slices_SortStableFunc_queue_Item_queue_Item), (50, s_queue_Queue_All_c1)]) th_ok any_ok ⟨⟨s_clone47_ok, s_clone47_det⟩, ⟨s_slices_Reverse_queue_Item_queue_Item_ok, s_slices_Reverse_queue_Item_queue_Item_det⟩, ⟨s_slices_SortStableFunc_queue_Item_queue_Item_ok, s_slices_SortStableFunc_queue_Item_queue_Item_det⟩, ⟨s_queue_Queue_All_c1_ok, s_queue_Queue_All_c1_det⟩, trivial⟩ _
  refine sum_ok hE Try.func22 rfl (by kernel_rfl) s_queue_Queue_All [.own 47 (.pair (.int .i64) (.int .i64)), .pb [.own (some 0) [] 0 47 (.pair (.int .i64) (.int .i64)) true, .kill 1]] queue_Queue_All.k ?_
  intro R avs objs κ r h
  unfold s_queue_Queue_All at h
  simp only [veil_eq] at h
  split at h
  · rename_i l
    split at h
    · cases h
    · rename_i y hy
      refine ⟨BIG, _, _, _, (queue_Queue_All.eq BIG l).trans hy, ?_, h⟩
      intro rs ros hk
      unfold queue_Queue_All.k at hk
      split at hk
      · first | (cases hk; exact ⟨rfl, rfl⟩) | (have e := Option.some.inj hk; rw [← e]; exact ⟨rfl, rfl⟩)
      · cases hk
  · cases h
noncomputable def slices_DeleteFunc_queue_Item_queue_Item_drop_E : Env := ⟨th, gam [(43, s_queue_Queue_Drop_c1), (60, s_slices_IndexFunc_queue_Item_queue_Item)], fun i => if i = 888888 then ⟨[1], [], []⟩ else if i = 5 then ⟨[0, 1, 5, 6], [], []⟩ else ⟨[], [], []⟩⟩
noncomputable def slices_DeleteFunc_queue_Item_queue_Item_drop.k (rs : List AV) (os : List Den.Obj) : Option (Int × (List (Int × Int))) :=
  match rs, os with
  | [.row 2], [.gone, .box [.d (.int .i64) r0], .row 47 (.pair (.int .i64) (.int .i64)) r1 false] => some (r0, r1)
  | _, _ => none
noncomputable def slices_DeleteFunc_queue_Item_queue_Item_drop.s5 (s : List (Int × Int)) (id0 : Int) (x1 : Int) (x2 : Int) (x3 : (List (Int × Int))) (x4 : Int) : St := ⟨[.row 0, .fn (.func 43) [] [.ptr 1 0], .dead, .dead, .dead, .d (.int .i64) x1, .d (.int .i64) x2, .dead, .dead, .dead, .dead, .dead, .dead, .dead, .dead, .dead, .dead, .dead, .dead, .dead, .dead, .dead, .dead, .dead, .dead, .dead, .dead, .dead, .dead, .dead, .dead, .dead, .dead, .dead, .dead, .dead, .dead, .dead, .dead, .dead, .dead, .dead], ofL [(0, .row 47 (.pair (.int .i64) (.int .i64)) x3 false), (1, .box [.d (.int .i64) x4])], 2⟩
noncomputable def slices_DeleteFunc_queue_Item_queue_Item_drop.b5 (s : List (Int × Int)) (id0 : Int) (A5 : Int → Int → (List (Int × Int)) → Int → Option (Int × (List (Int × Int)))) (x1 : Int) (x2 : Int) (x3 : (List (Int × Int))) (x4 : Int) : Option (Int × (List (Int × Int))) :=
  (if (decide (x2 < ((((List.length x3)) : Nat) : Int))) then (match (idx x3 x2) with | none => none | some y5 => (match (idx x3 x2) with | none => none | some y6 => (match (veil (queue_Queue_Drop_c1.f BIG y6.1 y6.2 x4)) with | none => none | some y7 => (if (!y7.1) then (match (idx x3 x1) with | none => none | some y8 => (match (idx x3 x1) with | none => none | some y9 => A5 (Go.IntKind.wrap .i64 (x1 + (1 : Int))) (Go.IntKind.wrap .i64 (x2 + (1 : Int))) (List.set x3 (Int.toNat x1) (y6.1, y6.2)) y7.2)) else A5 x1 (Go.IntKind.wrap .i64 (x2 + (1 : Int))) x3 y7.2)))) else (if (((0 : Int) ≤ x1) ∧ (x1 ≤ ((((List.length x3)) : Nat) : Int))) then (if (((Int.toNat x1) ≤ (List.length x3)) ∧ ((List.length x3) ≤ (List.length x3))) then (if (((0 : Int) ≤ x1) ∧ (x1 ≤ ((((List.length (((List.take (Int.toNat x1) x3) ++ (List.replicate ((List.length x3) - (Int.toNat x1)) (zeroI (Go.Den.Ty.pair (Go.Den.Ty.int .i64) (Go.Den.Ty.int .i64))))) ++ (List.drop (List.length x3) x3)))) : Nat) : Int))) then (if (((0 : Nat) = (0 : Nat)) ∧ ((Int.toNat x1) ≤ (List.length (((List.take (Int.toNat x1) x3) ++ (List.replicate ((List.length x3) - (Int.toNat x1)) (zeroI (Go.Den.Ty.pair (Go.Den.Ty.int .i64) (Go.Den.Ty.int .i64))))) ++ (List.drop (List.length x3) x3))))) then some (x4, (List.take (Int.toNat x1) (((List.take (Int.toNat x1) x3) ++ (List.replicate ((List.length x3) - (Int.toNat x1)) (zeroI (Go.Den.Ty.pair (Go.Den.Ty.int .i64) (Go.Den.Ty.int .i64))))) ++ (List.drop (List.length x3) x3)))) else none) else none) else none) else none))
noncomputable def slices_DeleteFunc_queue_Item_queue_Item_drop.l5 (fuel : Nat) (s : List (Int × Int)) (id0 : Int) : Nat → Int → Int → (List (Int × Int)) → Int → Option (Int × (List (Int × Int)))
  | 0, _, _, _, _ => none
  | k + 1, x1, x2, x3, x4 => slices_DeleteFunc_queue_Item_queue_Item_drop.b5 s id0 (slices_DeleteFunc_queue_Item_queue_Item_drop.l5 fuel s id0 k) x1 x2 x3 x4
noncomputable def slices_DeleteFunc_queue_Item_queue_Item_drop.b (s : List (Int × Int)) (id0 : Int) (E5 : Int → Int → (List (Int × Int)) → Int → Option (Int × (List (Int × Int)))) : Option (Int × (List (Int × Int))) :=
  (match (veil (slices_IndexFunc_queue_Item_queue_Item_drop.f BIG s id0)) with | none => none | some y0 => (if (y0.1 == (-(1 : Int))) then some (y0.2.2, y0.2.1) else E5 y0.1 (Go.IntKind.wrap .i64 (y0.1 + (1 : Int))) y0.2.1 y0.2.2))
noncomputable def slices_DeleteFunc_queue_Item_queue_Item_drop.f (fuel : Nat) (s : List (Int × Int)) (id0 : Int) : Option (Int × (List (Int × Int))) := slices_DeleteFunc_queue_Item_queue_Item_drop.b s id0 (slices_DeleteFunc_queue_Item_queue_Item_drop.l5 fuel s id0 fuel)
theorem slices_DeleteFunc_queue_Item_queue_Item_drop.l5_eq (fuel : Nat) (s : List (Int × Int)) (id0 : Int) : ∀ (k : Nat) (x1 : Int) (x2 : Int) (x3 : (List (Int × Int))) (x4 : Int), lp slices_DeleteFunc_queue_Item_queue_Item_drop_E fuel Try.f42 [.mv 47 (.pair (.int .i64) (.int .i64))] 2 slices_DeleteFunc_queue_Item_queue_Item_drop.k 5 [] k (slices_DeleteFunc_queue_Item_queue_Item_drop.s5 s id0 x1 x2 x3 x4) = slices_DeleteFunc_queue_Item_queue_Item_drop.l5 fuel s id0 k x1 x2 x3 x4 := by
  intro k
  induction k with
  | zero => intro x1 x2 x3 x4; rfl
  | succ k ih =>
    intro x1 x2 x3 x4
    have h : lp slices_DeleteFunc_queue_Item_queue_Item_drop_E fuel Try.f42 [.mv 47 (.pair (.int .i64) (.int .i64))] 2 slices_DeleteFunc_queue_Item_queue_Item_drop.k 5 [] (k + 1) (slices_DeleteFunc_queue_Item_queue_Item_drop.s5 s id0 x1 x2 x3 x4) = slices_DeleteFunc_queue_Item_queue_Item_drop.b5 s id0 (fun x1 x2 x3 x4 => lp slices_DeleteFunc_queue_Item_queue_Item_drop_E fuel Try.f42 [.mv 47 (.pair (.int .i64) (.int .i64))] 2 slices_DeleteFunc_queue_Item_queue_Item_drop.k 5 [] k (slices_DeleteFunc_queue_Item_queue_Item_drop.s5 s id0 x1 x2 x3 x4)) x1 x2 x3 x4 := by kernel_rfl
    rw [h]
    have e5 : (fun x1 x2 x3 x4 => lp slices_DeleteFunc_queue_Item_queue_Item_drop_E fuel Try.f42 [.mv 47 (.pair (.int .i64) (.int .i64))] 2 slices_DeleteFunc_queue_Item_queue_Item_drop.k 5 [] k (slices_DeleteFunc_queue_Item_queue_Item_drop.s5 s id0 x1 x2 x3 x4)) = slices_DeleteFunc_queue_Item_queue_Item_drop.l5 fuel s id0 k := (funext fun x1 => (funext fun x2 => (funext fun x3 => (funext fun x4 => ih x1 x2 x3 x4))))
    rw [e5]
    rfl
theorem slices_DeleteFunc_queue_Item_queue_Item_drop.eq (fuel : Nat) (s : List (Int × Int)) (id0 : Int) : (denF slices_DeleteFunc_queue_Item_queue_Item_drop_E loopN fuel Try.f42 [.mv 47 (.pair (.int .i64) (.int .i64))] [.row 0, .fn (.func 43) [] [.ptr 1 0]] [.row 47 (.pair (.int .i64) (.int .i64)) s false, .box [.d (.int .i64) id0]] slices_DeleteFunc_queue_Item_queue_Item_drop.k) = slices_DeleteFunc_queue_Item_queue_Item_drop.f fuel s id0 := by
  have h : (denF slices_DeleteFunc_queue_Item_queue_Item_drop_E loopN fuel Try.f42 [.mv 47 (.pair (.int .i64) (.int .i64))] [.row 0, .fn (.func 43) [] [.ptr 1 0]] [.row 47 (.pair (.int .i64) (.int .i64)) s false, .box [.d (.int .i64) id0]] slices_DeleteFunc_queue_Item_queue_Item_drop.k) = slices_DeleteFunc_queue_Item_queue_Item_drop.b s id0 (fun x1 x2 x3 x4 => lp slices_DeleteFunc_queue_Item_queue_Item_drop_E fuel Try.f42 [.mv 47 (.pair (.int .i64) (.int .i64))] 2 slices_DeleteFunc_queue_Item_queue_Item_drop.k 5 [] fuel (slices_DeleteFunc_queue_Item_queue_Item_drop.s5 s id0 x1 x2 x3 x4)) := by kernel_rfl
  rw [h]
  have e5 : (fun x1 x2 x3 x4 => lp slices_DeleteFunc_queue_Item_queue_Item_drop_E fuel Try.f42 [.mv 47 (.pair (.int .i64) (.int .i64))] 2 slices_DeleteFunc_queue_Item_queue_Item_drop.k 5 [] fuel (slices_DeleteFunc_queue_Item_queue_Item_drop.s5 s id0 x1 x2 x3 x4)) = slices_DeleteFunc_queue_Item_queue_Item_drop.l5 fuel s id0 fuel := (funext fun x1 => (funext fun x2 => (funext fun x3 => (funext fun x4 => slices_DeleteFunc_queue_Item_queue_Item_drop.l5_eq fuel s id0 fuel x1 x2 x3 x4))))
  rw [e5]
  rfl
theorem slices_DeleteFunc_queue_Item_queue_Item_drop.l5_at (fuel nN kK : Nat) (hN : nN = kK + 1) (s : List (Int × Int)) (id0 : Int) (x1 : Int) (x2 : Int) (x3 : (List (Int × Int))) (x4 : Int) : slices_DeleteFunc_queue_Item_queue_Item_drop.l5 fuel s id0 nN x1 x2 x3 x4 = slices_DeleteFunc_queue_Item_queue_Item_drop.b5 s id0 (slices_DeleteFunc_queue_Item_queue_Item_drop.l5 fuel s id0 kK) x1 x2 x3 x4 := by
  subst hN
  rfl
noncomputable def s_slices_DeleteFunc_queue_Item_queue_Item_drop : Den.Sum := ⟨[.own 47 (.pair (.int .i64) (.int .i64)), .raw], fun args objs κ => match args, objs with
  | [.row 0, .fn (.func 43) [] [.ptr 1 0]], [.row 47 (.pair (.int .i64) (.int .i64)) s false, .box [.d (.int .i64) id0]] => (match veil (slices_DeleteFunc_queue_Item_queue_Item_drop.f BIG s id0) with | none => none | some y => κ [.row 2] [.gone, .box [.d (.int .i64) y.1], .row 47 (.pair (.int .i64) (.int .i64)) y.2 false])
  | _, _ => none⟩
theorem s_slices_DeleteFunc_queue_Item_queue_Item_drop_det : SumDet s_slices_DeleteFunc_queue_Item_queue_Item_drop := fun avs objs R κ => by
  show s_slices_DeleteFunc_queue_Item_queue_Item_drop.run avs objs (two κ) = (s_slices_DeleteFunc_queue_Item_queue_Item_drop.run avs objs (two some)).bind κ
  unfold s_slices_DeleteFunc_queue_Item_queue_Item_drop
  simp only [veil_eq]
  split
  · split <;> rfl
  · rfl
theorem s_slices_DeleteFunc_queue_Item_queue_Item_drop_ok : SumOk Try.prog 42 s_slices_DeleteFunc_queue_Item_queue_Item_drop := by
  have hE : EnvOk Try.prog slices_DeleteFunc_queue_Item_queue_Item_drop_E := env_ok (l := [(43, s_queue_Queue_Drop_c1), (60, s_slices_IndexFunc_queue_Item_queue_Item)]) th_ok any_ok ⟨⟨s_queue_Queue_Drop_c1_ok, s_queue_Queue_Drop_c1_det⟩, ⟨s_slices_IndexFunc_queue_Item_queue_Item_ok, s_slices_IndexFunc_queue_Item_queue_Item_det⟩, trivial⟩ _
  refine sum_ok hE Try.func42 rfl (by kernel_rfl) s_slices_DeleteFunc_queue_Item_queue_Item_drop [.mv 47 (.pair (.int .i64) (.int .i64))] slices_DeleteFunc_queue_Item_queue_Item_drop.k ?_
  intro R avs objs κ r h
  unfold s_slices_DeleteFunc_queue_Item_queue_Item_drop at h
  simp only [veil_eq] at h
  split at h
  · rename_i s id0
    split at h
    · cases h
    · rename_i y hy
      refine ⟨BIG, _, _, _, (slices_DeleteFunc_queue_Item_queue_Item_drop.eq BIG s id0).trans hy, ?_, h⟩
      intro rs ros hk
      unfold slices_DeleteFunc_queue_Item_queue_Item_drop.k at hk
      split at hk
      · first | (cases hk; exact ⟨rfl, rfl⟩) | (have e := Option.some.inj hk; rw [← e]; exact ⟨rfl, rfl⟩)
      · cases hk
  · cases h
noncomputable def slices_DeleteFunc_queue_Item_queue_Item_take_E : Env := ⟨th, gam [(46, s_queue_Queue_Take_c1), (60, s_slices_IndexFunc_queue_Item_queue_Item)], fun i => if i = 888888 then ⟨[1], [], []⟩ else if i = 5 then ⟨[0, 1, 5, 6], [], []⟩ else ⟨[], [], []⟩⟩
noncomputable def slices_DeleteFunc_queue_Item_queue_Item_take.k (rs : List AV) (os : List Den.Obj) : Option ((List Int) × Int × (List (Int × Int))) :=
  match rs, os with
  | [.row 4], [.gone, .box [.row 2], .row 3 (.int .i64) r0 false, .box [.d (.int .i64) r1], .row 47 (.pair (.int .i64) (.int .i64)) r2 false] => some (r0, r1, r2)
  | _, _ => none
noncomputable def slices_DeleteFunc_queue_Item_queue_Item_take.s5 (s : List (Int × Int)) (out : List Int) (b0 : Int) (x1 : Int) (x2 : Int) (x3 : (List (Int × Int))) (x4 : (List Int)) (x5 : Int) : St := ⟨[.row 0, .fn (.func 46) [] [.ptr 1 0, .ptr 3 0], .dead, .dead, .dead, .d (.int .i64) x1, .d (.int .i64) x2, .dead, .dead, .dead, .dead, .dead, .dead, .dead, .dead, .dead, .dead, .dead, .dead, .dead, .dead, .dead, .dead, .dead, .dead, .dead, .dead, .dead, .dead, .dead, .dead, .dead, .dead, .dead, .dead, .dead, .dead, .dead, .dead, .dead, .dead, .dead], ofL [(0, .row 47 (.pair (.int .i64) (.int .i64)) x3 false), (1, .box [.row 2]), (2, .row 3 (.int .i64) x4 false), (3, .box [.d (.int .i64) x5])], 4⟩
noncomputable def slices_DeleteFunc_queue_Item_queue_Item_take.b5 (s : List (Int × Int)) (out : List Int) (b0 : Int) (A5 : Int → Int → (List (Int × Int)) → (List Int) → Int → Option ((List Int) × Int × (List (Int × Int)))) (x1 : Int) (x2 : Int) (x3 : (List (Int × Int))) (x4 : (List Int)) (x5 : Int) : Option ((List Int) × Int × (List (Int × Int))) :=
  (if (decide (x2 < ((((List.length x3)) : Nat) : Int))) then (match (idx x3 x2) with | none => none | some y6 => (match (idx x3 x2) with | none => none | some y7 => (match (veil (queue_Queue_Take_c1.f BIG y7.1 y7.2 x4 x5)) with | none => none | some y8 => (if (!y8.1) then (match (idx x3 x1) with | none => none | some y9 => (match (idx x3 x1) with | none => none | some y10 => A5 (Go.IntKind.wrap .i64 (x1 + (1 : Int))) (Go.IntKind.wrap .i64 (x2 + (1 : Int))) (List.set x3 (Int.toNat x1) (y7.1, y7.2)) y8.2.1 y8.2.2)) else A5 x1 (Go.IntKind.wrap .i64 (x2 + (1 : Int))) x3 y8.2.1 y8.2.2)))) else (if (((0 : Int) ≤ x1) ∧ (x1 ≤ ((((List.length x3)) : Nat) : Int))) then (if (((Int.toNat x1) ≤ (List.length x3)) ∧ ((List.length x3) ≤ (List.length x3))) then (if (((0 : Int) ≤ x1) ∧ (x1 ≤ ((((List.length (((List.take (Int.toNat x1) x3) ++ (List.replicate ((List.length x3) - (Int.toNat x1)) (zeroI (Go.Den.Ty.pair (Go.Den.Ty.int .i64) (Go.Den.Ty.int .i64))))) ++ (List.drop (List.length x3) x3)))) : Nat) : Int))) then (if (((0 : Nat) = (0 : Nat)) ∧ ((Int.toNat x1) ≤ (List.length (((List.take (Int.toNat x1) x3) ++ (List.replicate ((List.length x3) - (Int.toNat x1)) (zeroI (Go.Den.Ty.pair (Go.Den.Ty.int .i64) (Go.Den.Ty.int .i64))))) ++ (List.drop (List.length x3) x3))))) then some (x4, x5, (List.take (Int.toNat x1) (((List.take (Int.toNat x1) x3) ++ (List.replicate ((List.length x3) - (Int.toNat x1)) (zeroI (Go.Den.Ty.pair (Go.Den.Ty.int .i64) (Go.Den.Ty.int .i64))))) ++ (List.drop (List.length x3) x3)))) else none) else none) else none) else none))
noncomputable def slices_DeleteFunc_queue_Item_queue_Item_take.l5 (fuel : Nat) (s : List (Int × Int)) (out : List Int) (b0 : Int) : Nat → Int → Int → (List (Int × Int)) → (List Int) → Int → Option ((List Int) × Int × (List (Int × Int)))
  | 0, _, _, _, _, _ => none
  | k + 1, x1, x2, x3, x4, x5 => slices_DeleteFunc_queue_Item_queue_Item_take.b5 s out b0 (slices_DeleteFunc_queue_Item_queue_Item_take.l5 fuel s out b0 k) x1 x2 x3 x4 x5
noncomputable def slices_DeleteFunc_queue_Item_queue_Item_take.b (s : List (Int × Int)) (out : List Int) (b0 : Int) (E5 : Int → Int → (List (Int × Int)) → (List Int) → Int → Option ((List Int) × Int × (List (Int × Int)))) : Option ((List Int) × Int × (List (Int × Int))) :=
  (match (veil (slices_IndexFunc_queue_Item_queue_Item_take.f BIG s out b0)) with | none => none | some y0 => (if (y0.1 == (-(1 : Int))) then some (y0.2.2.1, y0.2.2.2, y0.2.1) else E5 y0.1 (Go.IntKind.wrap .i64 (y0.1 + (1 : Int))) y0.2.1 y0.2.2.1 y0.2.2.2))
noncomputable def slices_DeleteFunc_queue_Item_queue_Item_take.f (fuel : Nat) (s : List (Int × Int)) (out : List Int) (b0 : Int) : Option ((List Int) × Int × (List (Int × Int))) := slices_DeleteFunc_queue_Item_queue_Item_take.b s out b0 (slices_DeleteFunc_queue_Item_queue_Item_take.l5 fuel s out b0 fuel)
theorem slices_DeleteFunc_queue_Item_queue_Item_take.l5_eq (fuel : Nat) (s : List (Int × Int)) (out : List Int) (b0 : Int) : ∀ (k : Nat) (x1 : Int) (x2 : Int) (x3 : (List (Int × Int))) (x4 : (List Int)) (x5 : Int), lp slices_DeleteFunc_queue_Item_queue_Item_take_E fuel Try.f42 [.mv 47 (.pair (.int .i64) (.int .i64))] 4 slices_DeleteFunc_queue_Item_queue_Item_take.k 5 [] k (slices_DeleteFunc_queue_Item_queue_Item_take.s5 s out b0 x1 x2 x3 x4 x5) = slices_DeleteFunc_queue_Item_queue_Item_take.l5 fuel s out b0 k x1 x2 x3 x4 x5 := by
  intro k
  induction k with
  | zero => intro x1 x2 x3 x4 x5; rfl
  | succ k ih =>
    intro x1 x2 x3 x4 x5
    have h : lp slices_DeleteFunc_queue_Item_queue_Item_take_E fuel Try.f42 [.mv 47 (.pair (.int .i64) (.int .i64))] 4 slices_DeleteFunc_queue_Item_queue_Item_take.k 5 [] (k + 1) (slices_DeleteFunc_queue_Item_queue_Item_take.s5 s out b0 x1 x2 x3 x4 x5) = slices_DeleteFunc_queue_Item_queue_Item_take.b5 s out b0 (fun x1 x2 x3 x4 x5 => lp slices_DeleteFunc_queue_Item_queue_Item_take_E fuel Try.f42 [.mv 47 (.pair (.int .i64) (.int .i64))] 4 slices_DeleteFunc_queue_Item_queue_Item_take.k 5 [] k (slices_DeleteFunc_queue_Item_queue_Item_take.s5 s out b0 x1 x2 x3 x4 x5)) x1 x2 x3 x4 x5 := by kernel_rfl
    rw [h]
    have e5 : (fun x1 x2 x3 x4 x5 => lp slices_DeleteFunc_queue_Item_queue_Item_take_E fuel Try.f42 [.mv 47 (.pair (.int .i64) (.int .i64))] 4 slices_DeleteFunc_queue_Item_queue_Item_take.k 5 [] k (slices_DeleteFunc_queue_Item_queue_Item_take.s5 s out b0 x1 x2 x3 x4 x5)) = slices_DeleteFunc_queue_Item_queue_Item_take.l5 fuel s out b0 k := (funext fun x1 => (funext fun x2 => (funext fun x3 => (funext fun x4 => (funext fun x5 => ih x1 x2 x3 x4 x5)))))
    rw [e5]
    rfl
theorem slices_DeleteFunc_queue_Item_queue_Item_take.eq (fuel : Nat) (s : List (Int × Int)) (out : List Int) (b0 : Int) : (denF slices_DeleteFunc_queue_Item_queue_Item_take_E loopN fuel Try.f42 [.mv 47 (.pair (.int .i64) (.int .i64))] [.row 0, .fn (.func 46) [] [.ptr 1 0, .ptr 3 0]] [.row 47 (.pair (.int .i64) (.int .i64)) s false, .box [.row 2], .row 3 (.int .i64) out false, .box [.d (.int .i64) b0]] slices_DeleteFunc_queue_Item_queue_Item_take.k) = slices_DeleteFunc_queue_Item_queue_Item_take.f fuel s out b0 := by
  have h : (denF slices_DeleteFunc_queue_Item_queue_Item_take_E loopN fuel Try.f42 [.mv 47 (.pair (.int .i64) (.int .i64))] [.row 0, .fn (.func 46) [] [.ptr 1 0, .ptr 3 0]] [.row 47 (.pair (.int .i64) (.int .i64)) s false, .box [.row 2], .row 3 (.int .i64) out false, .box [.d (.int .i64) b0]] slices_DeleteFunc_queue_Item_queue_Item_take.k) = slices_DeleteFunc_queue_Item_queue_Item_take.b s out b0 (fun x1 x2 x3 x4 x5 => lp slices_DeleteFunc_queue_Item_queue_Item_take_E fuel Try.f42 [.mv 47 (.pair (.int .i64) (.int .i64))] 4 slices_DeleteFunc_queue_Item_queue_Item_take.k 5 [] fuel (slices_DeleteFunc_queue_Item_queue_Item_take.s5 s out b0 x1 x2 x3 x4 x5)) := by kernel_rfl
  rw [h]
  have e5 : (fun x1 x2 x3 x4 x5 => lp slices_DeleteFunc_queue_Item_queue_Item_take_E fuel Try.f42 [.mv 47 (.pair (.int .i64) (.int .i64))] 4 slices_DeleteFunc_queue_Item_queue_Item_take.k 5 [] fuel (slices_DeleteFunc_queue_Item_queue_Item_take.s5 s out b0 x1 x2 x3 x4 x5)) = slices_DeleteFunc_queue_Item_queue_Item_take.l5 fuel s out b0 fuel := (funext fun x1 => (funext fun x2 => (funext fun x3 => (funext fun x4 => (funext fun x5 => slices_DeleteFunc_queue_Item_queue_Item_take.l5_eq fuel s out b0 fuel x1 x2 x3 x4 x5)))))
  rw [e5]
  rfl
theorem slices_DeleteFunc_queue_Item_queue_Item_take.l5_at (fuel nN kK : Nat) (hN : nN = kK + 1) (s : List (Int × Int)) (out : List Int) (b0 : Int) (x1 : Int) (x2 : Int) (x3 : (List (Int × Int))) (x4 : (List Int)) (x5 : Int) : slices_DeleteFunc_queue_Item_queue_Item_take.l5 fuel s out b0 nN x1 x2 x3 x4 x5 = slices_DeleteFunc_queue_Item_queue_Item_take.b5 s out b0 (slices_DeleteFunc_queue_Item_queue_Item_take.l5 fuel s out b0 kK) x1 x2 x3 x4 x5 := by
  subst hN
  rfl
noncomputable def s_slices_DeleteFunc_queue_Item_queue_Item_take : Den.Sum := ⟨[.own 47 (.pair (.int .i64) (.int .i64)), .raw], fun args objs κ => match args, objs with
  | [.row 0, .fn (.func 46) [] [.ptr 1 0, .ptr 3 0]], [.row 47 (.pair (.int .i64) (.int .i64)) s false, .box [.row 2], .row 3 (.int .i64) out false, .box [.d (.int .i64) b0]] => (match veil (slices_DeleteFunc_queue_Item_queue_Item_take.f BIG s out b0) with | none => none | some y => κ [.row 4] [.gone, .box [.row 2], .row 3 (.int .i64) y.1 false, .box [.d (.int .i64) y.2.1], .row 47 (.pair (.int .i64) (.int .i64)) y.2.2 false])
  | _, _ => none⟩
theorem s_slices_DeleteFunc_queue_Item_queue_Item_take_det : SumDet s_slices_DeleteFunc_queue_Item_queue_Item_take := fun avs objs R κ => by
  show s_slices_DeleteFunc_queue_Item_queue_Item_take.run avs objs (two κ) = (s_slices_DeleteFunc_queue_Item_queue_Item_take.run avs objs (two some)).bind κ
  unfold s_slices_DeleteFunc_queue_Item_queue_Item_take
  simp only [veil_eq]
  split
  · split <;> rfl
  · rfl
theorem s_slices_DeleteFunc_queue_Item_queue_Item_take_ok : SumOk Try.prog 42 s_slices_DeleteFunc_queue_Item_queue_Item_take := by
  have hE : EnvOk Try.prog slices_DeleteFunc_queue_Item_queue_Item_take_E := env_ok (l := [(46, s_queue_Queue_Take_c1), (60, s_slices_IndexFunc_queue_Item_queue_Item)]) th_ok any_ok ⟨⟨s_queue_Queue_Take_c1_ok, s_queue_Queue_Take_c1_det⟩, ⟨s_slices_IndexFunc_queue_Item_queue_Item_ok, s_slices_IndexFunc_queue_Item_queue_Item_det⟩, trivial⟩ _
  refine sum_ok hE Try.func42 rfl (by kernel_rfl) s_slices_DeleteFunc_queue_Item_queue_Item_take [.mv 47 (.pair (.int .i64) (.int .i64))] slices_DeleteFunc_queue_Item_queue_Item_take.k ?_
  intro R avs objs κ r h
  unfold s_slices_DeleteFunc_queue_Item_queue_Item_take at h
  simp only [veil_eq] at h
  split at h
  · rename_i s out b0
    split at h
    · cases h
    · rename_i y hy
      refine ⟨BIG, _, _, _, (slices_DeleteFunc_queue_Item_queue_Item_take.eq BIG s out b0).trans hy, ?_, h⟩
      intro rs ros hk
      unfold slices_DeleteFunc_queue_Item_queue_Item_take.k at hk
      split at hk
      · first | (cases hk; exact ⟨rfl, rfl⟩) | (have e := Option.some.inj hk; rw [← e]; exact ⟨rfl, rfl⟩)
      · cases hk
  · cases h
noncomputable def s_slices_DeleteFunc_queue_Item_queue_Item : Den.Sum := ⟨[.own 47 (.pair (.int .i64) (.int .i64)), .raw], fun args objs κ => match args, objs with
  | [.row 0, .fn (.func 43) [] [.ptr 1 0]], [.row 47 (.pair (.int .i64) (.int .i64)) s false, .box [.d (.int .i64) id0]] => s_slices_DeleteFunc_queue_Item_queue_Item_drop.run [.row 0, .fn (.func 43) [] [.ptr 1 0]] [.row 47 (.pair (.int .i64) (.int .i64)) s false, .box [.d (.int .i64) id0]] κ
  | [.row 0, .fn (.func 46) [] [.ptr 1 0, .ptr 3 0]], [.row 47 (.pair (.int .i64) (.int .i64)) s false, .box [.row 2], .row 3 (.int .i64) out false, .box [.d (.int .i64) b0]] => s_slices_DeleteFunc_queue_Item_queue_Item_take.run [.row 0, .fn (.func 46) [] [.ptr 1 0, .ptr 3 0]] [.row 47 (.pair (.int .i64) (.int .i64)) s false, .box [.row 2], .row 3 (.int .i64) out false, .box [.d (.int .i64) b0]] κ
  | _, _ => none⟩
theorem s_slices_DeleteFunc_queue_Item_queue_Item_det : SumDet s_slices_DeleteFunc_queue_Item_queue_Item := fun avs objs R κ => by
  show s_slices_DeleteFunc_queue_Item_queue_Item.run avs objs (two κ) = (s_slices_DeleteFunc_queue_Item_queue_Item.run avs objs (two some)).bind κ
  unfold s_slices_DeleteFunc_queue_Item_queue_Item
  simp only
  split
  · exact s_slices_DeleteFunc_queue_Item_queue_Item_drop_det _ _ R κ
  · exact s_slices_DeleteFunc_queue_Item_queue_Item_take_det _ _ R κ
  · rfl
theorem s_slices_DeleteFunc_queue_Item_queue_Item_ok : SumOk Try.prog 42 s_slices_DeleteFunc_queue_Item_queue_Item := by
  refine ⟨s_slices_DeleteFunc_queue_Item_queue_Item_drop_ok.1, ?_⟩
  intro R avs objs κ r h
  unfold s_slices_DeleteFunc_queue_Item_queue_Item at h
  simp only at h
  split at h
  · exact s_slices_DeleteFunc_queue_Item_queue_Item_drop_ok.2 _ _ κ r h
  · exact s_slices_DeleteFunc_queue_Item_queue_Item_take_ok.2 _ _ κ r h
  · cases h
theorem lenw (n : Nat) (h : n ≤ 1000000) : Go.IntKind.wrap .i64 ((n : Int) + 1) = ((n + 1 : Nat) : Int) := by rw [wrap_small _ (by omega) (by omega)]; simp
def hasI (s : List Int) (v : Int) : Bool := s.any fun y => v == y
theorem fidx_any {α : Type} (p : α → Bool) (s : List α) : decide (fidx p s 0 ≥ 0) = s.any p := by
  rcases fidx_cutk p s 0 with ⟨h, _, h2⟩ | ⟨a, v, b, rfl, _, _, hv, hi⟩
  · rw [h]
    have : s.any p = false := by
      rw [List.any_eq_false]
      intro x hx
      rw [h2 x hx]; simp
    rw [this]; rfl
  · rw [hi]
    have : (a ++ v :: b).any p = true := List.any_eq_true.2 ⟨v, by simp, hv⟩
    rw [this]
    simp <;> omega
theorem slices_Index_int_int_row.loop (v : Int) : ∀ (suf pre : List Int) (n : Nat), suf.length < n → (pre ++ suf).length ≤ 1000000 →
    slices_Index_int_int_row.l2 BIG (pre ++ suf) v n (((pre ++ suf).length : Nat) : Int) ((pre.length : Nat) : Int) = some (fidx (fun y => v == y) suf pre.length, pre ++ suf)
  | suf, pre, 0, h, hl => absurd h (by omega)
  | [], pre, n + 1, h, hl => by
    rw [slices_Index_int_int_row.l2_at BIG (n + 1) n rfl]
    unfold slices_Index_int_int_row.b2
    rw [if_neg (by simp)]
    rfl
  | x :: suf, pre, n + 1, h, hl => by
    have h' : suf.length < n := by simp at h; omega
    have hl' : pre.length + (suf.length + 1) ≤ 1000000 := by simp at hl; omega
    rw [slices_Index_int_int_row.l2_at BIG (n + 1) n rfl]
    unfold slices_Index_int_int_row.b2
    rw [if_pos (by simp; omega), idx_mid]
    dsimp only
    rw [fidx]
    cases hp : v == x with
    | true => rw [if_pos rfl, if_pos rfl]
    | false =>
      rw [if_neg (by simp), if_neg (by simp), lenw _ (by omega)]
      have e := slices_Index_int_int_row.loop v suf (pre ++ [x]) n h' (by simp; omega)
      rw [List.append_assoc, List.singleton_append, show (pre ++ [x]).length = pre.length + 1 by simp] at e
      exact e
theorem slices_Contains_int_int_row.pure (s : List Int) (v : Int) (hs : s.length ≤ 1000000) : slices_Contains_int_int_row.f BIG s v = some (hasI s v, s) := by
  unfold slices_Contains_int_int_row.f slices_Contains_int_int_row.b
  have e : slices_Index_int_int_row.f BIG s v = some (fidx (fun y => v == y) s 0, s) := by
    unfold slices_Index_int_int_row.f slices_Index_int_int_row.b
    exact slices_Index_int_int_row.loop v s [] BIG (by rw [BIG_eq]; omega) hs
  rw [e]
  simp only [veil_eq]
  rw [fidx_any]
  rfl
theorem slices_Index_int_int_dat.loop (v : Int) : ∀ (suf pre : List Int) (n : Nat), suf.length < n → (pre ++ suf).length ≤ 1000000 →
    slices_Index_int_int_dat.l2 BIG (pre ++ suf) v n (((pre ++ suf).length : Nat) : Int) ((pre.length : Nat) : Int) = some (fidx (fun y => v == y) suf pre.length)
  | suf, pre, 0, h, hl => absurd h (by omega)
  | [], pre, n + 1, h, hl => by
    rw [slices_Index_int_int_dat.l2_at BIG (n + 1) n rfl]
    unfold slices_Index_int_int_dat.b2
    rw [if_neg (by simp)]
    rfl
  | x :: suf, pre, n + 1, h, hl => by
    have h' : suf.length < n := by simp at h; omega
    have hl' : pre.length + (suf.length + 1) ≤ 1000000 := by simp at hl; omega
    rw [slices_Index_int_int_dat.l2_at BIG (n + 1) n rfl]
    unfold slices_Index_int_int_dat.b2
    rw [if_pos (by simp; omega), idx_mid]
    dsimp only
    rw [fidx]
    cases hp : v == x with
    | true => rw [if_pos rfl, if_pos rfl]
    | false =>
      rw [if_neg (by simp), if_neg (by simp), lenw _ (by omega)]
      have e := slices_Index_int_int_dat.loop v suf (pre ++ [x]) n h' (by simp; omega)
      rw [List.append_assoc, List.singleton_append, show (pre ++ [x]).length = pre.length + 1 by simp] at e
      exact e
theorem slices_Contains_int_int_dat.pure (s : List Int) (v : Int) (hs : s.length ≤ 1000000) : slices_Contains_int_int_dat.f BIG s v = some (hasI s v) := by
  unfold slices_Contains_int_int_dat.f slices_Contains_int_int_dat.b
  have e : slices_Index_int_int_dat.f BIG s v = some (fidx (fun y => v == y) s 0) := by
    unfold slices_Index_int_int_dat.f slices_Index_int_int_dat.b
    exact slices_Index_int_int_dat.loop v s [] BIG (by rw [BIG_eq]; omega) hs
  rw [e]
  simp only [veil_eq]
  rw [fidx_any]
  rfl
def pDrop (id0 : Int) (v : Int × Int) : Bool := v.1 == id0
def pOut (out : List Int) (b0 : Int) (v : Int × Int) : Bool := hasI out v.1 && decide (v.2 ≥ b0)
theorem queue_Queue_Drop_c1.pure (v : (Int × Int)) (id0 : Int) : queue_Queue_Drop_c1.f BIG v.1 v.2 id0 = some ((pDrop id0) v, id0) := by
  unfold queue_Queue_Drop_c1.f queue_Queue_Drop_c1.b
  first
  | rfl
  | (unfold pDrop; split <;> simp_all)
theorem slices_IndexFunc_queue_Item_queue_Item_drop.loop (fuel : Nat) (id0 : Int) : ∀ (suf pre : List (Int × Int)) (n : Nat), suf.length < n → (pre ++ suf).length ≤ 1000000 →
    slices_IndexFunc_queue_Item_queue_Item_drop.l2 fuel (pre ++ suf) id0 n (((pre ++ suf).length : Nat) : Int) ((pre.length : Nat) : Int) id0 = some (fidx (pDrop id0) suf pre.length, pre ++ suf, id0)
  | suf, pre, 0, h, hl => absurd h (by omega)
  | [], pre, n + 1, h, hl => by
    rw [slices_IndexFunc_queue_Item_queue_Item_drop.l2_at fuel (n + 1) n rfl]
    unfold slices_IndexFunc_queue_Item_queue_Item_drop.b2
    rw [if_neg (by simp)]
    rfl
  | v :: suf, pre, n + 1, h, hl => by
    have h' : suf.length < n := by simp at h; omega
    have hl' : pre.length + (suf.length + 1) ≤ 1000000 := by simp at hl; omega
    rw [slices_IndexFunc_queue_Item_queue_Item_drop.l2_at fuel (n + 1) n rfl]
    unfold slices_IndexFunc_queue_Item_queue_Item_drop.b2
    rw [if_pos (by simp <;> omega), idx_mid]
    dsimp only
    rw [queue_Queue_Drop_c1.pure v id0]
    simp only [veil_eq]
    rw [fidx]
    cases hp : (pDrop id0) v with
    | true => rw [if_pos rfl, if_pos rfl]
    | false =>
      rw [if_neg (by simp), if_neg (by simp), wrap_small _ (by omega) (by omega)]
      have e := slices_IndexFunc_queue_Item_queue_Item_drop.loop fuel id0 suf (pre ++ [v]) n h' (by simp <;> omega)
      rw [List.append_assoc, List.singleton_append] at e
      have e2 : (((pre ++ [v]).length : Nat) : Int) = (pre.length : Int) + 1 := by simp
      rw [e2] at e
      have e3 : (pre ++ [v]).length = pre.length + 1 := by simp
      rw [e3] at e
      exact e
theorem slices_IndexFunc_queue_Item_queue_Item_drop.pure (s : List (Int × Int)) (id0 : Int) (hs : s.length ≤ 1000000) : slices_IndexFunc_queue_Item_queue_Item_drop.f BIG s id0 = some (fidx (pDrop id0) s 0, s, id0) := by
  unfold slices_IndexFunc_queue_Item_queue_Item_drop.f slices_IndexFunc_queue_Item_queue_Item_drop.b
  exact slices_IndexFunc_queue_Item_queue_Item_drop.loop BIG id0 s [] BIG (by rw [BIG_eq]; omega) hs
theorem slices_DeleteFunc_queue_Item_queue_Item_drop.loop (fuel : Nat) (s : List (Int × Int)) (id0 : Int) : ∀ (rest kept junk : List (Int × Int)) (n : Nat), rest.length < n → (kept ++ junk ++ rest).length ≤ 1000000 → junk ≠ [] →
    slices_DeleteFunc_queue_Item_queue_Item_drop.l5 fuel s id0 n ((kept.length : Nat) : Int) (((kept ++ junk).length : Nat) : Int) (kept ++ junk ++ rest) id0 = some (id0, kept ++ rest.filter (fun v => !((pDrop id0) v)))
  | rest, kept, junk, 0, h, hl, hj => absurd h (by omega)
  | [], kept, junk, n + 1, h, hl, hj => by
    rw [slices_DeleteFunc_queue_Item_queue_Item_drop.l5_at fuel (n + 1) n rfl]
    unfold slices_DeleteFunc_queue_Item_queue_Item_drop.b5
    rw [if_neg (by simp), if_pos (by simp <;> omega), if_pos (by simp <;> omega), if_pos (by simp <;> omega), if_pos (by simp <;> omega)]
    simp
  | v :: rest, kept, j :: junk, n + 1, h, hl, hj => by
    have h' : rest.length < n := by simp at h; omega
    have hl' : kept.length + (junk.length + 1) + (rest.length + 1) ≤ 1000000 := by simp at hl; omega
    have ej : ((((kept ++ j :: junk).length : Nat)) : Int) = (kept.length : Int) + junk.length + 1 := by simp <;> omega
    rw [slices_DeleteFunc_queue_Item_queue_Item_drop.l5_at fuel (n + 1) n rfl]
    unfold slices_DeleteFunc_queue_Item_queue_Item_drop.b5
    rw [if_pos (by simp <;> omega), idx_mid]
    dsimp only
    rw [queue_Queue_Drop_c1.pure v id0]
    simp only [veil_eq]
    have ew : Go.IntKind.wrap .i64 ((((kept ++ j :: junk).length : Nat) : Int) + 1) = (((kept ++ j :: (junk ++ [v])).length : Nat) : Int) := by
      rw [wrap_small _ (by omega) (by omega)]; simp <;> omega
    cases hp : (pDrop id0) v with
    | true =>
      rw [if_neg (by simp), ew]
      have e := slices_DeleteFunc_queue_Item_queue_Item_drop.loop fuel s id0 rest kept (j :: (junk ++ [v])) n h' (by simp <;> omega) (by simp)
      have e1 : kept ++ j :: (junk ++ [v]) ++ rest = kept ++ j :: junk ++ v :: rest := by simp
      rw [e1] at e
      rw [e]
      simp [hp]
    | false =>
      have ei : idx (kept ++ j :: junk ++ v :: rest) ((kept.length : Nat) : Int) = some j := by
        have e := idx_mid kept j (junk ++ v :: rest)
        have e1 : kept ++ j :: (junk ++ v :: rest) = kept ++ j :: junk ++ v :: rest := by simp
        rw [e1] at e
        exact e
      rw [if_pos (by simp), ei]
      simp only []
      rw [ew, wrap_small _ (by omega) (by omega)]
      have e := slices_DeleteFunc_queue_Item_queue_Item_drop.loop fuel s id0 rest (kept ++ [v]) (junk ++ [v]) n h' (by simp <;> omega) (by simp)
      have e1 : kept ++ [v] ++ (junk ++ [v]) ++ rest = List.set (kept ++ j :: junk ++ v :: rest) (Int.toNat ((kept.length : Nat) : Int)) v := by
        rw [Int.toNat_natCast]
        simp [List.set_append]
      have e2 : (((kept ++ [v]).length : Nat) : Int) = (kept.length : Int) + 1 := by simp
      have e3 : (((kept ++ [v] ++ (junk ++ [v])).length : Nat) : Int) = (((kept ++ j :: (junk ++ [v])).length : Nat) : Int) := by simp <;> omega
      rw [e1, e2, e3] at e
      refine Eq.trans e ?_
      simp [hp]
theorem slices_DeleteFunc_queue_Item_queue_Item_drop.pure (s : List (Int × Int)) (id0 : Int) (hs : s.length ≤ 1000000) : slices_DeleteFunc_queue_Item_queue_Item_drop.f BIG s id0 = some (id0, s.filter (fun v => !((pDrop id0) v))) := by
  unfold slices_DeleteFunc_queue_Item_queue_Item_drop.f slices_DeleteFunc_queue_Item_queue_Item_drop.b
  rw [slices_IndexFunc_queue_Item_queue_Item_drop.pure s id0 hs]
  simp only [veil_eq]
  rcases fidx_cut (pDrop id0) s with ⟨h, hf⟩ | ⟨a, v, b, rfl, ha, hv, hi⟩
  · rw [h, if_pos (by rfl), hf]
  · rw [hi, if_neg (by simp <;> omega)]
    have e := slices_DeleteFunc_queue_Item_queue_Item_drop.loop BIG (a ++ v :: b) id0 b a [v] BIG (by rw [BIG_eq]; simp at hs; omega) (by simpa using hs) (by simp)
    have e1 : a ++ [v] ++ b = a ++ v :: b := by simp
    have e2 : (((a ++ [v]).length : Nat) : Int) = Go.IntKind.wrap .i64 ((a.length : Int) + 1) := by
      simp at hs; rw [wrap_small _ (by omega) (by omega)]; simp
    rw [e1, e2] at e
    refine Eq.trans e ?_
    simp [hv, ha]
theorem queue_Queue_Take_c1.pure (v : Int × Int) (out : List Int) (b0 : Int) (hc : out.length ≤ 1000000) : queue_Queue_Take_c1.f BIG v.1 v.2 out b0 = some (pOut out b0 v, out, b0) := by
  unfold queue_Queue_Take_c1.f queue_Queue_Take_c1.b
  rw [slices_Contains_int_int_row.pure out v.1 hc]
  simp only [veil_eq]
  unfold pOut
  cases hasI out v.1 <;> simp
theorem slices_IndexFunc_queue_Item_queue_Item_take.loop (fuel : Nat) (out : List Int) (b0 : Int) (hc : out.length ≤ 1000000) : ∀ (suf pre : List (Int × Int)) (n : Nat), suf.length < n → (pre ++ suf).length ≤ 1000000 →
    slices_IndexFunc_queue_Item_queue_Item_take.l2 fuel (pre ++ suf) out b0 n (((pre ++ suf).length : Nat) : Int) ((pre.length : Nat) : Int) out b0 = some (fidx (pOut out b0) suf pre.length, pre ++ suf, out, b0)
  | suf, pre, 0, h, hl => absurd h (by omega)
  | [], pre, n + 1, h, hl => by
    rw [slices_IndexFunc_queue_Item_queue_Item_take.l2_at fuel (n + 1) n rfl]
    unfold slices_IndexFunc_queue_Item_queue_Item_take.b2
    rw [if_neg (by simp)]
    rfl
  | v :: suf, pre, n + 1, h, hl => by
    have h' : suf.length < n := by simp at h; omega
    have hl' : pre.length + (suf.length + 1) ≤ 1000000 := by simp at hl; omega
    rw [slices_IndexFunc_queue_Item_queue_Item_take.l2_at fuel (n + 1) n rfl]
    unfold slices_IndexFunc_queue_Item_queue_Item_take.b2
    rw [if_pos (by simp <;> omega), idx_mid]
    dsimp only
    rw [queue_Queue_Take_c1.pure v out b0 hc]
    simp only [veil_eq]
    rw [fidx]
    cases hp : (pOut out b0) v with
    | true => rw [if_pos rfl, if_pos rfl]
    | false =>
      rw [if_neg (by simp), if_neg (by simp), wrap_small _ (by omega) (by omega)]
      have e := slices_IndexFunc_queue_Item_queue_Item_take.loop fuel out b0 hc suf (pre ++ [v]) n h' (by simp <;> omega)
      rw [List.append_assoc, List.singleton_append] at e
      have e2 : (((pre ++ [v]).length : Nat) : Int) = (pre.length : Int) + 1 := by simp
      rw [e2] at e
      have e3 : (pre ++ [v]).length = pre.length + 1 := by simp
      rw [e3] at e
      exact e
theorem slices_IndexFunc_queue_Item_queue_Item_take.pure (s : List (Int × Int)) (out : List Int) (b0 : Int) (hc : out.length ≤ 1000000) (hs : s.length ≤ 1000000) : slices_IndexFunc_queue_Item_queue_Item_take.f BIG s out b0 = some (fidx (pOut out b0) s 0, s, out, b0) := by
  unfold slices_IndexFunc_queue_Item_queue_Item_take.f slices_IndexFunc_queue_Item_queue_Item_take.b
  exact slices_IndexFunc_queue_Item_queue_Item_take.loop BIG out b0 hc s [] BIG (by rw [BIG_eq]; omega) hs
theorem slices_DeleteFunc_queue_Item_queue_Item_take.loop (fuel : Nat) (s : List (Int × Int)) (out : List Int) (b0 : Int) (hc : out.length ≤ 1000000) : ∀ (rest kept junk : List (Int × Int)) (n : Nat), rest.length < n → (kept ++ junk ++ rest).length ≤ 1000000 → junk ≠ [] →
    slices_DeleteFunc_queue_Item_queue_Item_take.l5 fuel s out b0 n ((kept.length : Nat) : Int) (((kept ++ junk).length : Nat) : Int) (kept ++ junk ++ rest) out b0 = some (out, b0, kept ++ rest.filter (fun v => !((pOut out b0) v)))
  | rest, kept, junk, 0, h, hl, hj => absurd h (by omega)
  | [], kept, junk, n + 1, h, hl, hj => by
    rw [slices_DeleteFunc_queue_Item_queue_Item_take.l5_at fuel (n + 1) n rfl]
    unfold slices_DeleteFunc_queue_Item_queue_Item_take.b5
    rw [if_neg (by simp), if_pos (by simp <;> omega), if_pos (by simp <;> omega), if_pos (by simp <;> omega), if_pos (by simp <;> omega)]
    simp
  | v :: rest, kept, j :: junk, n + 1, h, hl, hj => by
    have h' : rest.length < n := by simp at h; omega
    have hl' : kept.length + (junk.length + 1) + (rest.length + 1) ≤ 1000000 := by simp at hl; omega
    have ej : ((((kept ++ j :: junk).length : Nat)) : Int) = (kept.length : Int) + junk.length + 1 := by simp <;> omega
    rw [slices_DeleteFunc_queue_Item_queue_Item_take.l5_at fuel (n + 1) n rfl]
    unfold slices_DeleteFunc_queue_Item_queue_Item_take.b5
    rw [if_pos (by simp <;> omega), idx_mid]
    dsimp only
    rw [queue_Queue_Take_c1.pure v out b0 hc]
    simp only [veil_eq]
    have ew : Go.IntKind.wrap .i64 ((((kept ++ j :: junk).length : Nat) : Int) + 1) = (((kept ++ j :: (junk ++ [v])).length : Nat) : Int) := by
      rw [wrap_small _ (by omega) (by omega)]; simp <;> omega
    cases hp : (pOut out b0) v with
    | true =>
      rw [if_neg (by simp), ew]
      have e := slices_DeleteFunc_queue_Item_queue_Item_take.loop fuel s out b0 hc rest kept (j :: (junk ++ [v])) n h' (by simp <;> omega) (by simp)
      have e1 : kept ++ j :: (junk ++ [v]) ++ rest = kept ++ j :: junk ++ v :: rest := by simp
      rw [e1] at e
      rw [e]
      simp [hp]
    | false =>
      have ei : idx (kept ++ j :: junk ++ v :: rest) ((kept.length : Nat) : Int) = some j := by
        have e := idx_mid kept j (junk ++ v :: rest)
        have e1 : kept ++ j :: (junk ++ v :: rest) = kept ++ j :: junk ++ v :: rest := by simp
        rw [e1] at e
        exact e
      rw [if_pos (by simp), ei]
      simp only []
      rw [ew, wrap_small _ (by omega) (by omega)]
      have e := slices_DeleteFunc_queue_Item_queue_Item_take.loop fuel s out b0 hc rest (kept ++ [v]) (junk ++ [v]) n h' (by simp <;> omega) (by simp)
      have e1 : kept ++ [v] ++ (junk ++ [v]) ++ rest = List.set (kept ++ j :: junk ++ v :: rest) (Int.toNat ((kept.length : Nat) : Int)) v := by
        rw [Int.toNat_natCast]
        simp [List.set_append]
      have e2 : (((kept ++ [v]).length : Nat) : Int) = (kept.length : Int) + 1 := by simp
      have e3 : (((kept ++ [v] ++ (junk ++ [v])).length : Nat) : Int) = (((kept ++ j :: (junk ++ [v])).length : Nat) : Int) := by simp <;> omega
      rw [e1, e2, e3] at e
      refine Eq.trans e ?_
      simp [hp]
theorem slices_DeleteFunc_queue_Item_queue_Item_take.pure (s : List (Int × Int)) (out : List Int) (b0 : Int) (hc : out.length ≤ 1000000) (hs : s.length ≤ 1000000) : slices_DeleteFunc_queue_Item_queue_Item_take.f BIG s out b0 = some (out, b0, s.filter (fun v => !((pOut out b0) v))) := by
  unfold slices_DeleteFunc_queue_Item_queue_Item_take.f slices_DeleteFunc_queue_Item_queue_Item_take.b
  rw [slices_IndexFunc_queue_Item_queue_Item_take.pure s out b0 hc hs]
  simp only [veil_eq]
  rcases fidx_cut (pOut out b0) s with ⟨h, hf⟩ | ⟨a, v, b, rfl, ha, hv, hi⟩
  · rw [h, if_pos (by rfl), hf]
  · rw [hi, if_neg (by simp <;> omega)]
    have e := slices_DeleteFunc_queue_Item_queue_Item_take.loop BIG (a ++ v :: b) out b0 hc b a [v] BIG (by rw [BIG_eq]; simp at hs; omega) (by simpa using hs) (by simp)
    have e1 : a ++ [v] ++ b = a ++ v :: b := by simp
    have e2 : (((a ++ [v]).length : Nat) : Int) = Go.IntKind.wrap .i64 ((a.length : Int) + 1) := by
      simp at hs; rw [wrap_small _ (by omega) (by omega)]; simp
    rw [e1, e2] at e
    refine Eq.trans e ?_
    simp [hv, ha]
noncomputable def queue_Queue_Drop_E : Env := ⟨th, gam [(42, s_slices_DeleteFunc_queue_Item_queue_Item), (43, s_queue_Queue_Drop_c1)], fun i => ⟨[], [], []⟩⟩
noncomputable def queue_Queue_Drop.k (rs : List AV) (os : List Den.Obj) : Option (List (Int × Int)) :=
  match rs, os with
  | [], [.box [.row 2], .gone, .row 47 (.pair (.int .i64) (.int .i64)) r0 false] => some r0
  | _, _ => none
noncomputable def queue_Queue_Drop.b (l : List (Int × Int)) (id : Int) : Option (List (Int × Int)) :=
  (match (veil (slices_DeleteFunc_queue_Item_queue_Item_drop.f BIG l id)) with | none => none | some y0 => some (y0.2))
noncomputable def queue_Queue_Drop.f (fuel : Nat) (l : List (Int × Int)) (id : Int) : Option (List (Int × Int)) := queue_Queue_Drop.b l id
theorem queue_Queue_Drop.eq (fuel : Nat) (l : List (Int × Int)) (id : Int) : (denF queue_Queue_Drop_E loopN fuel Try.f19 [.pb [.own (some 0) [] 0 47 (.pair (.int .i64) (.int .i64)) true, .kill 1]] [.ptr 0 0, .d (.int .i64) id] [.box [.row 1], .row 47 (.pair (.int .i64) (.int .i64)) l false] queue_Queue_Drop.k) = queue_Queue_Drop.f fuel l id := by
  kernel_rfl
noncomputable def s_queue_Queue_Drop : Den.Sum := ⟨[.pb [.own none [] 0 47 (.pair (.int .i64) (.int .i64)) false], .raw], fun args objs κ => match args, objs with
  | [.ptr 0 0, .d (.int .i64) id], [.box [.row 1], .row 47 (.pair (.int .i64) (.int .i64)) l false] => (match veil (queue_Queue_Drop.f BIG l id) with | none => none | some y => κ [] [.box [.row 2], .gone, .row 47 (.pair (.int .i64) (.int .i64)) y false])
  | _, _ => none⟩
theorem s_queue_Queue_Drop_det : SumDet s_queue_Queue_Drop := fun avs objs R κ => by
  show s_queue_Queue_Drop.run avs objs (two κ) = (s_queue_Queue_Drop.run avs objs (two some)).bind κ
  unfold s_queue_Queue_Drop
  simp only [veil_eq]
  split
  · split <;> rfl
  · rfl
theorem s_queue_Queue_Drop_ok : SumOk Try.prog 19 s_queue_Queue_Drop := by
  have hE : EnvOk Try.prog queue_Queue_Drop_E := env_ok (l := [(42, s_slices_DeleteFunc_queue_Item_queue_Item), (43, s_queue_Queue_Drop_c1)]) th_ok any_ok ⟨⟨s_slices_DeleteFunc_queue_Item_queue_Item_ok, s_slices_DeleteFunc_queue_Item_queue_Item_det⟩, ⟨s_queue_Queue_Drop_c1_ok, s_queue_Queue_Drop_c1_det⟩, trivial⟩ _
  refine sum_ok hE Try.func19 rfl (by kernel_rfl) s_queue_Queue_Drop [.pb [.own (some 0) [] 0 47 (.pair (.int .i64) (.int .i64)) true, .kill 1]] queue_Queue_Drop.k ?_
  intro R avs objs κ r h
  unfold s_queue_Queue_Drop at h
  simp only [veil_eq] at h
  split at h
  · rename_i id l
    split at h
    · cases h
    · rename_i y hy
      refine ⟨BIG, _, _, _, (queue_Queue_Drop.eq BIG l id).trans hy, ?_, h⟩
      intro rs ros hk
      unfold queue_Queue_Drop.k at hk
      split at hk
      · first | (cases hk; exact ⟨rfl, rfl⟩) | (have e := Option.some.inj hk; rw [← e]; exact ⟨rfl, rfl⟩)
      · cases hk
  · cases h
noncomputable def queue_Queue_Take_E : Env := ⟨th, gam [(22, s_queue_Queue_All), (42, s_slices_DeleteFunc_queue_Item_queue_Item), (45, s_slices_Contains_int_int), (46, s_queue_Queue_Take_c1)], fun i => if i = 3 then ⟨[0, 1, 3, 6, 9, 14, 15, 16], [(1576, 3, (.int .i64))], []⟩ else if i = 12 then ⟨[0, 6, 9, 42, 43], [], []⟩ else ⟨[], [], []⟩⟩
noncomputable def queue_Queue_Take.k (rs : List AV) (os : List Den.Obj) : Option ((List (Int × Int)) × (List Int)) :=
  match rs, os with
  | [.row 3], [.box [.row 2], .gone, .row 47 (.pair (.int .i64) (.int .i64)) r0 false, .row 3 (.int .i64) r1 false] => some (r0, r1)
  | _, _ => none
noncomputable def queue_Queue_Take.s12 (l : List (Int × Int)) (n : Int) (budget : Int) (but : List Int) (x8 : Int) (x9 : Int) (x10 : (List (Int × Int))) (x11 : (List Int)) : St := ⟨[.ptr 0 0, .dead, .dead, .dead, .dead, .dead, .ptr 65 0, .dead, .dead, .ptr 66 0, .dead, .dead, .dead, .dead, .dead, .dead, .dead, .dead, .dead, .dead, .dead, .dead, .dead, .dead, .dead, .dead, .dead, .dead, .dead, .dead, .dead, .dead, .dead, .dead, .dead, .dead, .dead, .dead, .dead, .dead, .dead, .dead, .d (.int .i64) x8, .d (.int .i64) x9, .dead, .dead, .dead, .dead, .dead, .dead, .dead, .dead, .dead, .dead, .dead, .dead, .dead, .dead, .dead, .dead, .dead, .dead, .dead, .dead, .dead, .dead, .dead, .dead, .dead, .dead, .dead, .dead, .dead, .dead, .dead, .dead, .dead, .dead], ofL [(0, .box [.row 64]), (1, .gone), (64, .row 47 (.pair (.int .i64) (.int .i64)) x10 false), (65, .box [.d (.int .i64) (budget)]), (66, .box [.row 67]), (67, .row 3 (.int .i64) x11 false)], 2⟩
noncomputable def queue_Queue_Take.b12 (l : List (Int × Int)) (n : Int) (budget : Int) (but : List Int) (A12 : Int → Int → (List (Int × Int)) → (List Int) → Option ((List (Int × Int)) × (List Int))) (x8 : Int) (x9 : Int) (x10 : (List (Int × Int))) (x11 : (List Int)) : Option ((List (Int × Int)) × (List Int)) :=
  (if (decide (x9 < x8)) then (match (idx x10 x9) with | none => none | some y12 => (match (idx x10 x9) with | none => none | some y13 => (match (veil (slices_Contains_int_int_row.f BIG x11 y13.1)) with | none => none | some y14 => (if y14.1 then (match (idx x10 x9) with | none => none | some y15 => (match (idx x10 x9) with | none => none | some y16 => (match (idx x10 x9) with | none => none | some y17 => (match (idx x10 x9) with | none => none | some y18 => A12 x8 (Go.IntKind.wrap .i64 (x9 + (1 : Int))) (List.set x10 (Int.toNat x9) (y18.1, (Go.IntKind.wrap .i64 (y16.2 + (1 : Int))))) y14.2)))) else A12 x8 (Go.IntKind.wrap .i64 (x9 + (1 : Int))) x10 y14.2)))) else (match (veil (slices_DeleteFunc_queue_Item_queue_Item_take.f BIG x10 x11 budget)) with | none => none | some y19 => some (y19.2.2, y19.1)))
noncomputable def queue_Queue_Take.l12 (fuel : Nat) (l : List (Int × Int)) (n : Int) (budget : Int) (but : List Int) : Nat → Int → Int → (List (Int × Int)) → (List Int) → Option ((List (Int × Int)) × (List Int))
  | 0, _, _, _, _ => none
  | k + 1, x8, x9, x10, x11 => queue_Queue_Take.b12 l n budget but (queue_Queue_Take.l12 fuel l n budget but k) x8 x9 x10 x11
noncomputable def queue_Queue_Take.s3 (l : List (Int × Int)) (n : Int) (budget : Int) (but : List Int) (x1 : Int) (x2 : Int) (x3 : (List (Int × Int))) (x4 : (List Int)) (x5 : (List (Int × Int))) : St := ⟨[.ptr 0 0, .d (.int .i64) (n), .dead, .d (.sl (.int .i64)) (but), .dead, .dead, .ptr 65 0, .dead, .dead, .ptr 66 0, .dead, .dead, .dead, .dead, .row 68, .d (.int .i64) x1, .d (.int .i64) x2, .dead, .dead, .dead, .dead, .dead, .dead, .dead, .dead, .dead, .dead, .dead, .dead, .dead, .dead, .dead, .dead, .dead, .dead, .dead, .dead, .dead, .dead, .dead, .dead, .dead, .dead, .dead, .dead, .dead, .dead, .dead, .dead, .dead, .dead, .dead, .dead, .dead, .dead, .dead, .dead, .dead, .dead, .dead, .dead, .dead, .dead, .dead, .dead, .dead, .dead, .dead, .dead, .dead, .dead, .dead, .dead, .dead, .dead, .dead, .dead, .dead], ofL [(0, .box [.row 64]), (1, .gone), (64, .row 47 (.pair (.int .i64) (.int .i64)) x3 false), (65, .box [.d (.int .i64) (budget)]), (66, .box [.row 67]), (67, .row 3 (.int .i64) x4 false), (68, .row 47 (.pair (.int .i64) (.int .i64)) x5 false)], 2⟩
noncomputable def queue_Queue_Take.b3 (l : List (Int × Int)) (n : Int) (budget : Int) (but : List Int) (A3 : Int → Int → (List (Int × Int)) → (List Int) → (List (Int × Int)) → Option ((List (Int × Int)) × (List Int))) (E12 : Int → Int → (List (Int × Int)) → (List Int) → Option ((List (Int × Int)) × (List Int))) (x1 : Int) (x2 : Int) (x3 : (List (Int × Int))) (x4 : (List Int)) (x5 : (List (Int × Int))) : Option ((List (Int × Int)) × (List Int)) :=
  (if (decide (x2 < x1)) then (match (idx x5 x2) with | none => none | some y6 => (match (idx x5 x2) with | none => none | some y7 => (if (decide (((((List.length x4)) : Nat) : Int) ≥ n)) then (if (((((List.length x4)) : Nat) : Int) == (0 : Int)) then some (x3, ([] : List Int)) else E12 ((((List.length x3)) : Nat) : Int) (0 : Int) x3 x4) else (match (veil (slices_Contains_int_int_dat.f BIG but y7.1)) with | none => none | some y20 => (if (!y20) then (if ((((List.length x4) + (List.length (y7.1 :: ([] : List Int)))) * (8 : Nat)) ≤ lim) then A3 x1 (Go.IntKind.wrap .i64 (x2 + (1 : Int))) x3 (x4 ++ (y7.1 :: ([] : List Int))) x5 else none) else A3 x1 (Go.IntKind.wrap .i64 (x2 + (1 : Int))) x3 x4 x5))))) else (if (((((List.length x4)) : Nat) : Int) == (0 : Int)) then some (x3, ([] : List Int)) else E12 ((((List.length x3)) : Nat) : Int) (0 : Int) x3 x4))
noncomputable def queue_Queue_Take.l3 (fuel : Nat) (l : List (Int × Int)) (n : Int) (budget : Int) (but : List Int) : Nat → Int → Int → (List (Int × Int)) → (List Int) → (List (Int × Int)) → Option ((List (Int × Int)) × (List Int))
  | 0, _, _, _, _, _ => none
  | k + 1, x1, x2, x3, x4, x5 => queue_Queue_Take.b3 l n budget but (queue_Queue_Take.l3 fuel l n budget but k) (queue_Queue_Take.l12 fuel l n budget but fuel) x1 x2 x3 x4 x5
noncomputable def queue_Queue_Take.b (l : List (Int × Int)) (n : Int) (budget : Int) (but : List Int) (E3 : Int → Int → (List (Int × Int)) → (List Int) → (List (Int × Int)) → Option ((List (Int × Int)) × (List Int))) : Option ((List (Int × Int)) × (List Int)) :=
  (match (veil (queue_Queue_All.f BIG l)) with | none => none | some y0 => E3 ((((List.length y0.2)) : Nat) : Int) (0 : Int) y0.1 ([] : List Int) y0.2)
noncomputable def queue_Queue_Take.f (fuel : Nat) (l : List (Int × Int)) (n : Int) (budget : Int) (but : List Int) : Option ((List (Int × Int)) × (List Int)) := queue_Queue_Take.b l n budget but (queue_Queue_Take.l3 fuel l n budget but fuel)
theorem queue_Queue_Take.l12_eq (fuel : Nat) (l : List (Int × Int)) (n : Int) (budget : Int) (but : List Int) : ∀ (k : Nat) (x8 : Int) (x9 : Int) (x10 : (List (Int × Int))) (x11 : (List Int)), lp queue_Queue_Take_E fuel Try.f21 [.own 3 (.int .i64), .pb [.own (some 0) [] 0 47 (.pair (.int .i64) (.int .i64)) true, .kill 1]] 2 queue_Queue_Take.k 12 [] k (queue_Queue_Take.s12 l n budget but x8 x9 x10 x11) = queue_Queue_Take.l12 fuel l n budget but k x8 x9 x10 x11 := by
  intro k
  induction k with
  | zero => intro x8 x9 x10 x11; rfl
  | succ k ih =>
    intro x8 x9 x10 x11
    have h : lp queue_Queue_Take_E fuel Try.f21 [.own 3 (.int .i64), .pb [.own (some 0) [] 0 47 (.pair (.int .i64) (.int .i64)) true, .kill 1]] 2 queue_Queue_Take.k 12 [] (k + 1) (queue_Queue_Take.s12 l n budget but x8 x9 x10 x11) = queue_Queue_Take.b12 l n budget but (fun x8 x9 x10 x11 => lp queue_Queue_Take_E fuel Try.f21 [.own 3 (.int .i64), .pb [.own (some 0) [] 0 47 (.pair (.int .i64) (.int .i64)) true, .kill 1]] 2 queue_Queue_Take.k 12 [] k (queue_Queue_Take.s12 l n budget but x8 x9 x10 x11)) x8 x9 x10 x11 := by kernel_rfl
    rw [h]
    have e12 : (fun x8 x9 x10 x11 => lp queue_Queue_Take_E fuel Try.f21 [.own 3 (.int .i64), .pb [.own (some 0) [] 0 47 (.pair (.int .i64) (.int .i64)) true, .kill 1]] 2 queue_Queue_Take.k 12 [] k (queue_Queue_Take.s12 l n budget but x8 x9 x10 x11)) = queue_Queue_Take.l12 fuel l n budget but k := (funext fun x8 => (funext fun x9 => (funext fun x10 => (funext fun x11 => ih x8 x9 x10 x11))))
    rw [e12]
    rfl
theorem queue_Queue_Take.l3_eq (fuel : Nat) (l : List (Int × Int)) (n : Int) (budget : Int) (but : List Int) : ∀ (k : Nat) (x1 : Int) (x2 : Int) (x3 : (List (Int × Int))) (x4 : (List Int)) (x5 : (List (Int × Int))), lp queue_Queue_Take_E fuel Try.f21 [.own 3 (.int .i64), .pb [.own (some 0) [] 0 47 (.pair (.int .i64) (.int .i64)) true, .kill 1]] 2 queue_Queue_Take.k 3 [] k (queue_Queue_Take.s3 l n budget but x1 x2 x3 x4 x5) = queue_Queue_Take.l3 fuel l n budget but k x1 x2 x3 x4 x5 := by
  intro k
  induction k with
  | zero => intro x1 x2 x3 x4 x5; rfl
  | succ k ih =>
    intro x1 x2 x3 x4 x5
    have h : lp queue_Queue_Take_E fuel Try.f21 [.own 3 (.int .i64), .pb [.own (some 0) [] 0 47 (.pair (.int .i64) (.int .i64)) true, .kill 1]] 2 queue_Queue_Take.k 3 [] (k + 1) (queue_Queue_Take.s3 l n budget but x1 x2 x3 x4 x5) = queue_Queue_Take.b3 l n budget but (fun x1 x2 x3 x4 x5 => lp queue_Queue_Take_E fuel Try.f21 [.own 3 (.int .i64), .pb [.own (some 0) [] 0 47 (.pair (.int .i64) (.int .i64)) true, .kill 1]] 2 queue_Queue_Take.k 3 [] k (queue_Queue_Take.s3 l n budget but x1 x2 x3 x4 x5)) (fun x8 x9 x10 x11 => lp queue_Queue_Take_E fuel Try.f21 [.own 3 (.int .i64), .pb [.own (some 0) [] 0 47 (.pair (.int .i64) (.int .i64)) true, .kill 1]] 2 queue_Queue_Take.k 12 [] fuel (queue_Queue_Take.s12 l n budget but x8 x9 x10 x11)) x1 x2 x3 x4 x5 := by kernel_rfl
    rw [h]
    have e3 : (fun x1 x2 x3 x4 x5 => lp queue_Queue_Take_E fuel Try.f21 [.own 3 (.int .i64), .pb [.own (some 0) [] 0 47 (.pair (.int .i64) (.int .i64)) true, .kill 1]] 2 queue_Queue_Take.k 3 [] k (queue_Queue_Take.s3 l n budget but x1 x2 x3 x4 x5)) = queue_Queue_Take.l3 fuel l n budget but k := (funext fun x1 => (funext fun x2 => (funext fun x3 => (funext fun x4 => (funext fun x5 => ih x1 x2 x3 x4 x5)))))
    rw [e3]
    have e12 : (fun x8 x9 x10 x11 => lp queue_Queue_Take_E fuel Try.f21 [.own 3 (.int .i64), .pb [.own (some 0) [] 0 47 (.pair (.int .i64) (.int .i64)) true, .kill 1]] 2 queue_Queue_Take.k 12 [] fuel (queue_Queue_Take.s12 l n budget but x8 x9 x10 x11)) = queue_Queue_Take.l12 fuel l n budget but fuel := (funext fun x8 => (funext fun x9 => (funext fun x10 => (funext fun x11 => queue_Queue_Take.l12_eq fuel l n budget but fuel x8 x9 x10 x11))))
    rw [e12]
    rfl
theorem queue_Queue_Take.eq (fuel : Nat) (l : List (Int × Int)) (n : Int) (budget : Int) (but : List Int) : (denF queue_Queue_Take_E loopN fuel Try.f21 [.own 3 (.int .i64), .pb [.own (some 0) [] 0 47 (.pair (.int .i64) (.int .i64)) true, .kill 1]] [.ptr 0 0, .d (.int .i64) n, .d (.int .i64) budget, .d (.sl (.int .i64)) but] [.box [.row 1], .row 47 (.pair (.int .i64) (.int .i64)) l false] queue_Queue_Take.k) = queue_Queue_Take.f fuel l n budget but := by
  have h : (denF queue_Queue_Take_E loopN fuel Try.f21 [.own 3 (.int .i64), .pb [.own (some 0) [] 0 47 (.pair (.int .i64) (.int .i64)) true, .kill 1]] [.ptr 0 0, .d (.int .i64) n, .d (.int .i64) budget, .d (.sl (.int .i64)) but] [.box [.row 1], .row 47 (.pair (.int .i64) (.int .i64)) l false] queue_Queue_Take.k) = queue_Queue_Take.b l n budget but (fun x1 x2 x3 x4 x5 => lp queue_Queue_Take_E fuel Try.f21 [.own 3 (.int .i64), .pb [.own (some 0) [] 0 47 (.pair (.int .i64) (.int .i64)) true, .kill 1]] 2 queue_Queue_Take.k 3 [] fuel (queue_Queue_Take.s3 l n budget but x1 x2 x3 x4 x5)) := by kernel_rfl
  rw [h]
  have e3 : (fun x1 x2 x3 x4 x5 => lp queue_Queue_Take_E fuel Try.f21 [.own 3 (.int .i64), .pb [.own (some 0) [] 0 47 (.pair (.int .i64) (.int .i64)) true, .kill 1]] 2 queue_Queue_Take.k 3 [] fuel (queue_Queue_Take.s3 l n budget but x1 x2 x3 x4 x5)) = queue_Queue_Take.l3 fuel l n budget but fuel := (funext fun x1 => (funext fun x2 => (funext fun x3 => (funext fun x4 => (funext fun x5 => queue_Queue_Take.l3_eq fuel l n budget but fuel x1 x2 x3 x4 x5)))))
  rw [e3]
  rfl
theorem queue_Queue_Take.l12_at (fuel nN kK : Nat) (hN : nN = kK + 1) (l : List (Int × Int)) (n : Int) (budget : Int) (but : List Int) (x8 : Int) (x9 : Int) (x10 : (List (Int × Int))) (x11 : (List Int)) : queue_Queue_Take.l12 fuel l n budget but nN x8 x9 x10 x11 = queue_Queue_Take.b12 l n budget but (queue_Queue_Take.l12 fuel l n budget but kK) x8 x9 x10 x11 := by
  subst hN
  rfl
theorem queue_Queue_Take.l3_at (fuel nN kK : Nat) (hN : nN = kK + 1) (l : List (Int × Int)) (n : Int) (budget : Int) (but : List Int) (x1 : Int) (x2 : Int) (x3 : (List (Int × Int))) (x4 : (List Int)) (x5 : (List (Int × Int))) : queue_Queue_Take.l3 fuel l n budget but nN x1 x2 x3 x4 x5 = queue_Queue_Take.b3 l n budget but (queue_Queue_Take.l3 fuel l n budget but kK) (queue_Queue_Take.l12 fuel l n budget but fuel) x1 x2 x3 x4 x5 := by
  subst hN
  rfl
noncomputable def s_queue_Queue_Take : Den.Sum := ⟨[.pb [.own none [] 0 47 (.pair (.int .i64) (.int .i64)) false], .raw, .raw, .dat (.sl (.int .i64)) false], fun args objs κ => match args, objs with
  | [.ptr 0 0, .d (.int .i64) n, .d (.int .i64) budget, .d (.sl (.int .i64)) but], [.box [.row 1], .row 47 (.pair (.int .i64) (.int .i64)) l false] => (match veil (queue_Queue_Take.f BIG l n budget but) with | none => none | some y => κ [.row 3] [.box [.row 2], .gone, .row 47 (.pair (.int .i64) (.int .i64)) y.1 false, .row 3 (.int .i64) y.2 false])
  | _, _ => none⟩
theorem s_queue_Queue_Take_det : SumDet s_queue_Queue_Take := fun avs objs R κ => by
  show s_queue_Queue_Take.run avs objs (two κ) = (s_queue_Queue_Take.run avs objs (two some)).bind κ
  unfold s_queue_Queue_Take
  simp only [veil_eq]
  split
  · split <;> rfl
  · rfl
theorem s_queue_Queue_Take_ok : SumOk Try.prog 21 s_queue_Queue_Take := by
  have hE : EnvOk Try.prog queue_Queue_Take_E := env_ok (l := [(22, s_queue_Queue_All), (42, s_slices_DeleteFunc_queue_Item_queue_Item), (45, s_slices_Contains_int_int), (46, s_queue_Queue_Take_c1)]) th_ok any_ok ⟨⟨s_queue_Queue_All_ok, s_queue_Queue_All_det⟩, ⟨s_slices_DeleteFunc_queue_Item_queue_Item_ok, s_slices_DeleteFunc_queue_Item_queue_Item_det⟩, ⟨s_slices_Contains_int_int_ok, s_slices_Contains_int_int_det⟩, ⟨s_queue_Queue_Take_c1_ok, s_queue_Queue_Take_c1_det⟩, trivial⟩ _
  refine sum_ok hE Try.func21 rfl (by kernel_rfl) s_queue_Queue_Take [.own 3 (.int .i64), .pb [.own (some 0) [] 0 47 (.pair (.int .i64) (.int .i64)) true, .kill 1]] queue_Queue_Take.k ?_
  intro R avs objs κ r h
  unfold s_queue_Queue_Take at h
  simp only [veil_eq] at h
  split at h
  · rename_i n budget but l
    split at h
    · cases h
    · rename_i y hy
      refine ⟨BIG, _, _, _, (queue_Queue_Take.eq BIG l n budget but).trans hy, ?_, h⟩
      intro rs ros hk
      unfold queue_Queue_Take.k at hk
      split at hk
      · first | (cases hk; exact ⟨rfl, rfl⟩) | (have e := Option.some.inj hk; rw [← e]; exact ⟨rfl, rfl⟩)
      · cases hk
  · cases h
noncomputable def queue_Queue_Put_E : Env := ⟨th, gam [(19, s_queue_Queue_Drop)], fun i => ⟨[], [], []⟩⟩
noncomputable def queue_Queue_Put.k (rs : List AV) (os : List Den.Obj) : Option (List (Int × Int)) :=
  match rs, os with
  | [], [.box [.row 2], .gone, .row 47 (.pair (.int .i64) (.int .i64)) r0 false] => some r0
  | _, _ => none
noncomputable def queue_Queue_Put.b (l : List (Int × Int)) (id : Int) : Option (List (Int × Int)) :=
  (match (veil (queue_Queue_Drop.f BIG l id)) with | none => none | some y0 => (if ((((List.length y0) + (List.length ((id, 0) :: ([] : List (Int × Int))))) * (16 : Nat)) ≤ lim) then some ((y0 ++ ((id, 0) :: ([] : List (Int × Int))))) else none))
noncomputable def queue_Queue_Put.f (fuel : Nat) (l : List (Int × Int)) (id : Int) : Option (List (Int × Int)) := queue_Queue_Put.b l id
theorem queue_Queue_Put.eq (fuel : Nat) (l : List (Int × Int)) (id : Int) : (denF queue_Queue_Put_E loopN fuel Try.f17 [.pb [.own (some 0) [] 0 47 (.pair (.int .i64) (.int .i64)) true, .kill 1]] [.ptr 0 0, .d (.int .i64) id] [.box [.row 1], .row 47 (.pair (.int .i64) (.int .i64)) l false] queue_Queue_Put.k) = queue_Queue_Put.f fuel l id := by
  kernel_rfl
noncomputable def s_queue_Queue_Put : Den.Sum := ⟨[.pb [.own none [] 0 47 (.pair (.int .i64) (.int .i64)) false], .raw], fun args objs κ => match args, objs with
  | [.ptr 0 0, .d (.int .i64) id], [.box [.row 1], .row 47 (.pair (.int .i64) (.int .i64)) l false] => (match veil (queue_Queue_Put.f BIG l id) with | none => none | some y => κ [] [.box [.row 2], .gone, .row 47 (.pair (.int .i64) (.int .i64)) y false])
  | _, _ => none⟩
theorem s_queue_Queue_Put_det : SumDet s_queue_Queue_Put := fun avs objs R κ => by
  show s_queue_Queue_Put.run avs objs (two κ) = (s_queue_Queue_Put.run avs objs (two some)).bind κ
  unfold s_queue_Queue_Put
  simp only [veil_eq]
  split
  · split <;> rfl
  · rfl
theorem s_queue_Queue_Put_ok : SumOk Try.prog 17 s_queue_Queue_Put := by
  have hE : EnvOk Try.prog queue_Queue_Put_E := env_ok (l := [(19, s_queue_Queue_Drop)]) th_ok any_ok ⟨⟨s_queue_Queue_Drop_ok, s_queue_Queue_Drop_det⟩, trivial⟩ _
  refine sum_ok hE Try.func17 rfl (by kernel_rfl) s_queue_Queue_Put [.pb [.own (some 0) [] 0 47 (.pair (.int .i64) (.int .i64)) true, .kill 1]] queue_Queue_Put.k ?_
  intro R avs objs κ r h
  unfold s_queue_Queue_Put at h
  simp only [veil_eq] at h
  split at h
  · rename_i id l
    split at h
    · cases h
    · rename_i y hy
      refine ⟨BIG, _, _, _, (queue_Queue_Put.eq BIG l id).trans hy, ?_, h⟩
      intro rs ros hk
      unfold queue_Queue_Put.k at hk
      split at hk
      · first | (cases hk; exact ⟨rfl, rfl⟩) | (have e := Option.some.inj hk; rw [← e]; exact ⟨rfl, rfl⟩)
      · cases hk
  · cases h
noncomputable def law22_awake_E : Env := ⟨th, gam [(16, s_queue_New), (17, s_queue_Queue_Put), (21, s_queue_Queue_Take), (22, s_queue_Queue_All), (23, s_queue_Budget)], fun i => ⟨[], [], []⟩⟩
noncomputable def law22_awake.k (rs : List AV) (os : List Den.Obj) : Option Bool :=
  match rs, os with
  | [.d .bool r0], [] => some r0
  | _, _ => none
noncomputable def law22_awake.b (u : Unit) : Option Bool :=
  (match (veil (queue_New.f BIG ())) with | none => none | some y0 => (match (veil (queue_Queue_Put.f BIG ([] : List (Int × Int)) (1 : Int))) with | none => none | some y1 => (match (veil (queue_Queue_Put.f BIG y1 (2 : Int))) with | none => none | some y2 => (match (veil (queue_Queue_Take.f BIG y2 (1 : Int) (2 : Int) ([] : List Int))) with | none => none | some y3 => (match (veil (queue_Queue_Take.f BIG y3.1 (2 : Int) (2 : Int) ([] : List Int))) with | none => none | some y4 => (if (((((List.length y3.2)) : Nat) : Int) == (1 : Int)) then (match (idx y3.2 (0 : Int)) with | none => none | some y5 => (match (idx y3.2 (0 : Int)) with | none => none | some y6 => (if (y6 == (2 : Int)) then (if (((((List.length y4.2)) : Nat) : Int) == (2 : Int)) then (match (idx y4.2 (0 : Int)) with | none => none | some y7 => (match (idx y4.2 (0 : Int)) with | none => none | some y8 => (if (y8 == (1 : Int)) then (match (idx y4.2 (1 : Int)) with | none => none | some y9 => (match (idx y4.2 (1 : Int)) with | none => none | some y10 => (if (y10 == (2 : Int)) then (match (veil (queue_Queue_All.f BIG y4.1)) with | none => none | some y11 => (if (((((List.length y11.2)) : Nat) : Int) == (1 : Int)) then (match (veil (queue_Budget.f BIG (7 : Int) (3 : Int))) with | none => none | some y12 => (if (y12 == (9 : Int)) then (match (veil (queue_Budget.f BIG (8 : Int) (3 : Int))) with | none => none | some y13 => (if (y13 == (12 : Int)) then (match (veil (queue_Budget.f BIG (0 : Int) (3 : Int))) with | none => none | some y14 => some ((y14 == (0 : Int)))) else some (false))) else some (false))) else some (false))) else some (false)))) else some (false)))) else some (false)) else some (false)))) else some (false)))))))
noncomputable def law22_awake.f (fuel : Nat) (u : Unit) : Option Bool := law22_awake.b u
theorem law22_awake.eq (fuel : Nat) (u : Unit) : (denF law22_awake_E loopN fuel Try.f15 [.raw] [] [] law22_awake.k) = law22_awake.f fuel u := by
  kernel_rfl
noncomputable def s_law22_awake : Den.Sum := ⟨[], fun args objs κ => match args, objs with
  | [], [] => (match veil (law22_awake.f BIG ()) with | none => none | some y => κ [.d .bool y] [])
  | _, _ => none⟩
theorem s_law22_awake_det : SumDet s_law22_awake := fun avs objs R κ => by
  show s_law22_awake.run avs objs (two κ) = (s_law22_awake.run avs objs (two some)).bind κ
  unfold s_law22_awake
  simp only [veil_eq]
  split
  · split <;> rfl
  · rfl
theorem s_law22_awake_ok : SumOk Try.prog 15 s_law22_awake := by
  have hE : EnvOk Try.prog law22_awake_E := env_ok (l := [(16, s_queue_New), (17, s_queue_Queue_Put), (21, s_queue_Queue_Take), (22, s_queue_Queue_All), (23, s_queue_Budget)]) th_ok any_ok ⟨⟨s_queue_New_ok, s_queue_New_det⟩, ⟨s_queue_Queue_Put_ok, s_queue_Queue_Put_det⟩, ⟨s_queue_Queue_Take_ok, s_queue_Queue_Take_det⟩, ⟨s_queue_Queue_All_ok, s_queue_Queue_All_det⟩, ⟨s_queue_Budget_ok, s_queue_Budget_det⟩, trivial⟩ _
  refine sum_ok hE Try.func15 rfl (by kernel_rfl) s_law22_awake [.raw] law22_awake.k ?_
  intro R avs objs κ r h
  unfold s_law22_awake at h
  simp only [veil_eq] at h
  split at h
  · skip
    split at h
    · cases h
    · rename_i y hy
      refine ⟨BIG, _, _, _, (law22_awake.eq BIG ()).trans hy, ?_, h⟩
      intro rs ros hk
      unfold law22_awake.k at hk
      split at hk
      · first | (cases hk; exact ⟨rfl, rfl⟩) | (have e := Option.some.inj hk; rw [← e]; exact ⟨rfl, rfl⟩)
      · cases hk
  · cases h
abbrev QT := Int × Int
theorem rev_loop (l : List QT) : ∀ (k : Nat) (mid P S : List QT) (n : Nat), mid.length ≤ k → mid.length < n → P.length + mid.length + S.length ≤ 1000000 →
    slices_Reverse_queue_Item_queue_Item.l1 BIG l n ((P.length : Nat) : Int) ((P.length : Int) + mid.length - 1) (P ++ mid ++ S) = some (P ++ mid.reverse ++ S)
  | k, mid, P, S, 0, _, h, _ => absurd h (by omega)
  | k, [], P, S, n + 1, _, h, hb => by
    rw [slices_Reverse_queue_Item_queue_Item.l1_at BIG (n + 1) n rfl]
    unfold slices_Reverse_queue_Item_queue_Item.b1
    rw [if_neg (by simp <;> omega)]
    rfl
  | k, [x], P, S, n + 1, _, h, hb => by
    rw [slices_Reverse_queue_Item_queue_Item.l1_at BIG (n + 1) n rfl]
    unfold slices_Reverse_queue_Item_queue_Item.b1
    rw [if_neg (by simp <;> omega)]
    rfl
  | 0, x :: y :: m, P, S, n + 1, hk, h, hb => by simp at hk
  | k + 1, x :: y :: m, P, S, n + 1, hk, h, hb => by
    obtain ⟨mid, z, hm⟩ : ∃ mid z, y :: m = mid ++ [z] := ⟨(y :: m).dropLast, (y :: m).getLast (by simp), (List.dropLast_concat_getLast (by simp)).symm⟩
    rw [hm] at hk h hb ⊢
    simp at hk h hb
    have e1 : P ++ x :: (mid ++ [z]) ++ S = P ++ x :: (mid ++ z :: S) := by simp
    have e2 : P ++ x :: (mid ++ z :: S) = (P ++ x :: mid) ++ z :: S := by simp
    have ej : (P.length : Int) + ((x :: (mid ++ [z])).length : Nat) - 1 = (((P ++ x :: mid).length : Nat) : Int) := by simp; omega
    rw [slices_Reverse_queue_Item_queue_Item.l1_at BIG (n + 1) n rfl]
    unfold slices_Reverse_queue_Item_queue_Item.b1
    rw [if_pos (by simp; omega), ej, e1]
    have i1 : idx (P ++ x :: (mid ++ z :: S)) (((P ++ x :: mid).length : Nat) : Int) = some z := by rw [e2]; exact idx_mid _ z S
    have i2 : idx (P ++ x :: (mid ++ z :: S)) ((P.length : Nat) : Int) = some x := idx_mid _ x _
    have s1 : List.set (P ++ x :: (mid ++ z :: S)) (Int.toNat ((P.length : Nat) : Int)) z = (P ++ z :: mid) ++ z :: S := by
      rw [Int.toNat_natCast]; simp [List.set_append]
    have i3 : idx ((P ++ z :: mid) ++ z :: S) (((P ++ x :: mid).length : Nat) : Int) = some z := by
      have : (P ++ x :: mid).length = (P ++ z :: mid).length := by simp
      rw [this]; exact idx_mid _ z S
    have s2 : List.set ((P ++ z :: mid) ++ z :: S) (Int.toNat (((P ++ x :: mid).length : Nat) : Int)) x = P ++ z :: mid ++ x :: S := by
      have : (P ++ x :: mid).length = (P ++ z :: mid).length := by simp
      rw [this, Int.toNat_natCast, List.set_append_right _ _ (Nat.le_refl _)]
      simp
    rw [i1]; dsimp only
    rw [i2]; dsimp only
    rw [show (z.1, z.2) = z from rfl, show (x.1, x.2) = x from rfl, s1, i3]
    dsimp only
    rw [s2]
    have ih := rev_loop l k mid (P ++ [z]) (x :: S) n (by omega) (by omega) (by simp; omega)
    have f1 : Go.IntKind.wrap .i64 (((P.length : Nat) : Int) + 1) = (((P ++ [z]).length : Nat) : Int) := by rw [wrap_small _ (by omega) (by omega)]; simp
    have f2 : Go.IntKind.wrap .i64 ((((P ++ x :: mid).length : Nat) : Int) - 1) = (((P ++ [z]).length : Nat) : Int) + mid.length - 1 := by rw [wrap_small _ (by simp; omega) (by simp; omega)]; simp; omega
    rw [f1, f2]
    have f3 : P ++ z :: mid ++ x :: S = P ++ [z] ++ mid ++ x :: S := by simp
    rw [f3, ih]
    simp
theorem slices_Reverse_queue_Item_queue_Item.pure (l : List QT) (hl : l.length ≤ 1000000) : slices_Reverse_queue_Item_queue_Item.f BIG l = some l.reverse := by
  unfold slices_Reverse_queue_Item_queue_Item.f slices_Reverse_queue_Item_queue_Item.b
  have e := rev_loop l l.length l [] [] BIG (Nat.le_refl _) (by rw [BIG_eq]; omega) (by simpa using hl)
  have f : Go.IntKind.wrap .i64 (((l.length : Nat) : Int) - 1) = (([] : List QT).length : Int) + l.length - 1 := by rw [wrap_small _ (by omega) (by omega)]; simp
  rw [f]
  simpa using e
theorem queue_Queue_All_c1.pure (a b : QT) : ∃ c, queue_Queue_All_c1.f BIG a.1 a.2 b.1 b.2 = some c ∧ decide (c < 0) = decide (a.2 < b.2) := by
  unfold queue_Queue_All_c1.f queue_Queue_All_c1.b
  by_cases h : a.2 < b.2
  · rw [if_pos (by simp [h])]
    exact ⟨_, rfl, by simp [h]⟩
  · rw [if_neg (by simp [h])]
    by_cases h2 : a.2 > b.2
    · rw [if_pos (by simp [h2])]
      exact ⟨_, rfl, by simp [h]⟩
    · rw [if_neg (by simp [h2])]
      exact ⟨_, rfl, by simp [h]⟩
/-- a sorted row, from its end -/
def insR (v : QT) : List QT → List QT
  | [] => [v]
  | x :: R => if v.2 < x.2 then x :: insR v R else v :: x :: R
def isr (R : List QT) : List QT → List QT
  | [] => R
  | v :: l => isr (insR v R) l
def isort (l : List QT) : List QT := (isr [] l).reverse
theorem insR_len (v : QT) : ∀ R : List QT, (insR v R).length = R.length + 1
  | [] => rfl
  | x :: R => by rw [insR]; split <;> simp [insR_len v R]
theorem isr_len : ∀ (l R : List QT), (isr R l).length = R.length + l.length
  | [], R => rfl
  | v :: l, R => by rw [isr, isr_len l, insR_len]; simp; omega
theorem isort_len (l : List QT) : (isort l).length = l.length := by unfold isort; rw [List.length_reverse, isr_len]; simp
theorem insR_mem (v x : QT) : ∀ R : List QT, x ∈ insR v R ↔ x = v ∨ x ∈ R
  | [] => by simp [insR]
  | y :: R => by
    rw [insR]
    split
    · simp only [List.mem_cons, insR_mem v x R]
      constructor
      · rintro (h | h | h) <;> simp [h]
      · rintro (h | h | h) <;> simp [h]
    · simp
theorem isr_mem (x : QT) : ∀ (l R : List QT), x ∈ isr R l ↔ x ∈ R ∨ x ∈ l
  | [], R => by simp [isr]
  | v :: l, R => by
    rw [isr, isr_mem x l, insR_mem]
    simp only [List.mem_cons]
    constructor
    · rintro ((h | h) | h) <;> simp [h]
    · rintro (h | h | h) <;> simp [h]
theorem isort_mem (x : QT) (l : List QT) : x ∈ isort l ↔ x ∈ l := by unfold isort; rw [List.mem_reverse, isr_mem]; simp
theorem ins_inner (l : List QT) (a b : Int) (A1 : Int → List QT → Option (List QT)) (x2 : Int) (pre : List QT) (ha : a = pre.length) (v : QT) (post : List QT) : ∀ (R moved : List QT) (n : Nat), R.length < n → pre.length + R.length + moved.length + post.length ≤ 1000000 →
    slices_insertionSortCmpFunc_queue_Item.l4 BIG l a b A1 n x2 ((pre.length : Int) + R.length) (pre ++ R.reverse ++ v :: moved ++ post) = A1 (Go.IntKind.wrap .i64 (x2 + 1)) (pre ++ (insR v R).reverse ++ moved ++ post)
  | R, moved, 0, h, _ => absurd h (by omega)
  | [], moved, n + 1, h, hb => by
    rw [slices_insertionSortCmpFunc_queue_Item.l4_at BIG (n + 1) n rfl]
    unfold slices_insertionSortCmpFunc_queue_Item.b4
    rw [if_neg (by simp [ha])]
    simp [insR]
  | x :: R, moved, n + 1, h, hb => by
    simp at h hb
    have hL : pre ++ (x :: R).reverse ++ v :: moved ++ post = (pre ++ R.reverse) ++ x :: v :: (moved ++ post) := by simp
    have hj : (pre.length : Int) + ((x :: R).length : Nat) = (((pre ++ R.reverse ++ [x]).length : Nat) : Int) := by simp <;> omega
    have hj1 : Go.IntKind.wrap .i64 ((((pre ++ R.reverse ++ [x]).length : Nat) : Int) - 1) = (((pre ++ R.reverse).length : Nat) : Int) := by rw [wrap_small _ (by simp; omega) (by simp; omega)]; simp <;> omega
    have i1 : idx ((pre ++ R.reverse) ++ x :: v :: (moved ++ post)) (((pre ++ R.reverse ++ [x]).length : Nat) : Int) = some v := by
      have := idx_mid (pre ++ R.reverse ++ [x]) v (moved ++ post)
      rw [List.append_assoc (pre ++ R.reverse) [x]] at this
      exact this
    have i2 : idx ((pre ++ R.reverse) ++ x :: v :: (moved ++ post)) (((pre ++ R.reverse).length : Nat) : Int) = some x := idx_mid _ x _
    have s1 : List.set ((pre ++ R.reverse) ++ x :: v :: (moved ++ post)) (Int.toNat (((pre ++ R.reverse ++ [x]).length : Nat) : Int)) x = (pre ++ R.reverse) ++ x :: x :: (moved ++ post) := by
      have e1 : (pre ++ R.reverse ++ [x]).length - (pre ++ R.reverse).length = 1 := by simp <;> omega
      rw [Int.toNat_natCast, List.set_append_right _ _ (by simp <;> omega), e1]
      rfl
    have i3 : idx ((pre ++ R.reverse) ++ x :: x :: (moved ++ post)) (((pre ++ R.reverse).length : Nat) : Int) = some x := idx_mid _ x _
    have s2 : List.set ((pre ++ R.reverse) ++ x :: x :: (moved ++ post)) (Int.toNat (((pre ++ R.reverse).length : Nat) : Int)) v = (pre ++ R.reverse) ++ v :: x :: (moved ++ post) := by
      rw [Int.toNat_natCast, List.set_append_right _ _ (by simp)]
      simp
    obtain ⟨c, hc, hcd⟩ := queue_Queue_All_c1.pure v x
    rw [slices_insertionSortCmpFunc_queue_Item.l4_at BIG (n + 1) n rfl]
    unfold slices_insertionSortCmpFunc_queue_Item.b4
    rw [hL, hj, if_pos (by simp [ha]; omega), i1]
    dsimp only
    rw [hj1, i2]
    dsimp only
    rw [hc]
    simp only [veil_eq]
    rw [hcd, insR]
    by_cases hv : v.2 < x.2
    · rw [if_pos (by simp [hv]), if_pos hv]
      rw [show (x.1, x.2) = x from rfl, show (v.1, v.2) = v from rfl, s1, i3]
      dsimp only
      rw [s2]
      have ih := ins_inner l a b A1 x2 pre ha v post R (x :: moved) n (by omega) (by simp; omega)
      have f1 : (((pre ++ R.reverse).length : Nat) : Int) = (pre.length : Int) + R.length := by simp
      have f2 : pre ++ R.reverse ++ v :: x :: (moved ++ post) = pre ++ R.reverse ++ v :: (x :: moved) ++ post := by simp
      rw [f1, f2, ih]
      simp
    · rw [if_neg (by simp [hv]), if_neg hv]
      simp
theorem ins_outer (l : List QT) (a b : Int) (pre : List QT) (ha : a = pre.length) (post : List QT) : ∀ (rest R : List QT) (n : Nat), rest.length < n → pre.length + R.length + rest.length + post.length ≤ 1000000 → b = pre.length + R.length + rest.length →
    slices_insertionSortCmpFunc_queue_Item.l1 BIG l a b n ((pre.length : Int) + R.length) (pre ++ R.reverse ++ rest ++ post) = some (pre ++ (isr R rest).reverse ++ post)
  | rest, R, 0, h, _, _ => absurd h (by omega)
  | [], R, n + 1, h, hb, hbb => by
    rw [slices_insertionSortCmpFunc_queue_Item.l1_at BIG (n + 1) n rfl]
    unfold slices_insertionSortCmpFunc_queue_Item.b1
    rw [if_neg (by simp [hbb])]
    simp [isr]
  | v :: rest, R, n + 1, h, hb, hbb => by
    simp at h hb hbb
    rw [slices_insertionSortCmpFunc_queue_Item.l1_at BIG (n + 1) n rfl]
    unfold slices_insertionSortCmpFunc_queue_Item.b1
    rw [if_pos (by simp; omega)]
    have e := ins_inner l a b (slices_insertionSortCmpFunc_queue_Item.l1 BIG l a b n) ((pre.length : Int) + R.length) pre ha v (rest ++ post) R [] BIG (by rw [BIG_eq]; omega) (by simp; omega)
    have f1 : pre ++ R.reverse ++ v :: [] ++ (rest ++ post) = pre ++ R.reverse ++ v :: rest ++ post := by simp
    rw [f1] at e
    rw [e]
    have ih := ins_outer l a b pre ha post rest (insR v R) n (by omega) (by rw [insR_len]; omega) (by rw [insR_len]; push_cast; omega)
    rw [insR_len] at ih
    have f2 : Go.IntKind.wrap .i64 ((pre.length : Int) + R.length + 1) = (pre.length : Int) + ((R.length + 1 : Nat) : Int) := by rw [wrap_small _ (by omega) (by omega)]; push_cast; omega
    rw [f2]
    have f3 : pre ++ (insR v R).reverse ++ [] ++ (rest ++ post) = pre ++ (insR v R).reverse ++ rest ++ post := by simp
    rw [f3, ih]
    rfl
theorem slices_insertionSortCmpFunc_queue_Item.pure (pre seg post : List QT) (h : pre.length + seg.length + post.length ≤ 1000000) :
    slices_insertionSortCmpFunc_queue_Item.f BIG (pre ++ seg ++ post) (pre.length : Int) ((pre.length + seg.length : Nat) : Int) = some (pre ++ isort seg ++ post) := by
  unfold slices_insertionSortCmpFunc_queue_Item.f slices_insertionSortCmpFunc_queue_Item.b
  rw [wrap_small _ (by omega) (by omega)]
  cases seg with
  | nil =>
    rw [big_eq, ← big_eq, slices_insertionSortCmpFunc_queue_Item.l1_at BIG BIG _ big_eq]
    unfold slices_insertionSortCmpFunc_queue_Item.b1
    rw [if_neg (by simp <;> omega)]
    rfl
  | cons v rest =>
    simp at h
    have e := ins_outer (pre ++ v :: rest ++ post) (pre.length : Int) ((pre.length + (v :: rest).length : Nat) : Int) pre rfl post rest [v] BIG (by rw [BIG_eq]; omega) (by simp; omega) (by simp; omega)
    have f : pre ++ [v].reverse ++ rest ++ post = pre ++ v :: rest ++ post := by simp
    rw [f] at e
    exact e
theorem slices_stableCmpFunc_queue_Item.pure (l : List QT) (hl : l.length ≤ 20) : slices_stableCmpFunc_queue_Item.f BIG l (l.length : Int) = some (isort l) := by
  have hi := slices_insertionSortCmpFunc_queue_Item.pure [] l [] (by simp; omega)
  have hi2 := slices_insertionSortCmpFunc_queue_Item.pure (isort l) [] [] (by simp [isort_len]; omega)
  simp only [List.nil_append, List.append_nil, List.length_nil, Nat.zero_add, Nat.add_zero, isort_len] at hi hi2
  rw [show isort ([] : List QT) = [] from rfl, List.append_nil] at hi2
  rw [show ((0 : Nat) : Int) = 0 from rfl] at hi
  have fin : ∀ x : List QT, slices_stableCmpFunc_queue_Item.l7 BIG l (l.length : Int) BIG 20 x = some x := by
    intro x
    rw [slices_stableCmpFunc_queue_Item.l7_at BIG BIG _ big_eq]
    unfold slices_stableCmpFunc_queue_Item.b7
    rw [if_neg (by simp; omega)]
  unfold slices_stableCmpFunc_queue_Item.f slices_stableCmpFunc_queue_Item.b
  obtain ⟨k, hk⟩ : ∃ k, BIG = k + 1 + 1 := ⟨BIG - 2, by rw [BIG_eq]⟩
  rw [slices_stableCmpFunc_queue_Item.l2_at BIG BIG (k + 1) hk]
  unfold slices_stableCmpFunc_queue_Item.b2
  by_cases h20 : l.length = 20
  · have e20 : (l.length : Int) = 20 := by omega
    rw [if_pos (by simp; omega)]
    rw [show (20 : Int) = (l.length : Int) from e20.symm, hi]
    simp only [veil_eq]
    rw [slices_stableCmpFunc_queue_Item.l2_at BIG (k + 1) k rfl]
    unfold slices_stableCmpFunc_queue_Item.b2
    rw [if_neg (by rw [wrap_small _ (by omega) (by omega)]; simp; omega), hi2]
    simp only [veil_eq]
    exact fin _
  · rw [if_neg (by simp; omega), hi]
    simp only [veil_eq]
    exact fin _
theorem queue_Queue_All.pure (l : List QT) (hl : l.length ≤ 20) : queue_Queue_All.f BIG l = some (l, isort l.reverse) := by
  unfold queue_Queue_All.f queue_Queue_All.b
  rw [if_pos ⟨rfl, by omega⟩, slices_Reverse_queue_Item_queue_Item.pure l (by omega)]
  simp only [veil_eq]
  unfold slices_SortStableFunc_queue_Item_queue_Item.f slices_SortStableFunc_queue_Item_queue_Item.b
  rw [slices_stableCmpFunc_queue_Item.pure l.reverse (by simpa using hl)]
  simp only [veil_eq]
def qDrop (l : List QT) (id : Int) : List QT := l.filter (fun v => !(pDrop id v))
theorem queue_Queue_Drop.pure (l : List QT) (id : Int) (hl : l.length ≤ 1000) : queue_Queue_Drop.f BIG l id = some (qDrop l id) := by
  unfold queue_Queue_Drop.f queue_Queue_Drop.b
  rw [slices_DeleteFunc_queue_Item_queue_Item_drop.pure l id (by omega)]
  simp only [veil_eq]
  rfl
def qPut (l : List QT) (id : Int) : List QT := qDrop l id ++ [(id, 0)]
theorem queue_Queue_Put.pure (l : List QT) (id : Int) (hl : l.length ≤ 1000) : queue_Queue_Put.f BIG l id = some (qPut l id) := by
  unfold queue_Queue_Put.f queue_Queue_Put.b
  rw [queue_Queue_Drop.pure l id hl]
  simp only [veil_eq]
  have : (qDrop l id).length ≤ l.length := List.length_filter_le _ _
  rw [if_pos (by unfold lim; simp; omega)]
  rfl
/-- what is taken -/
def tOut (but : List Int) (n : Int) : List QT → List Int → List Int
  | [], out => out
  | x :: l, out => if (out.length : Int) ≥ n then out else if hasI but x.1 then tOut but n l out else tOut but n l (out ++ [x.1])
noncomputable def tBump (out : List Int) (x : QT) : QT := if hasI out x.1 then (x.1, Go.IntKind.wrap .i64 (x.2 + 1)) else x
noncomputable def qTake (l : List QT) (n budget : Int) (but : List Int) : List QT × List Int :=
  let out := tOut but n (isort l.reverse) []
  if out = [] then (l, []) else ((l.map (tBump out)).filter (fun v => !(pOut out budget v)), out)
theorem take_bump (l0 : List QT) (n budget : Int) (but out : List Int) (ho : out.length ≤ 1000) : ∀ (suf pre : List QT) (m : Nat), suf.length < m → pre.length + suf.length ≤ 1000 →
    queue_Queue_Take.l12 BIG l0 n budget but m ((pre.length + suf.length : Nat) : Int) ((pre.length : Nat) : Int) (pre ++ suf) out = some ((pre ++ suf.map (tBump out)).filter (fun v => !(pOut out budget v)), out)
  | suf, pre, 0, h, _ => absurd h (by omega)
  | [], pre, m + 1, h, hb => by
    rw [queue_Queue_Take.l12_at BIG (m + 1) m rfl]
    unfold queue_Queue_Take.b12
    rw [if_neg (by simp), slices_DeleteFunc_queue_Item_queue_Item_take.pure _ out budget (by omega) (by simp at hb ⊢; omega)]
    simp only [veil_eq]
    simp
  | x :: suf, pre, m + 1, h, hb => by
    simp at h hb
    rw [queue_Queue_Take.l12_at BIG (m + 1) m rfl]
    unfold queue_Queue_Take.b12
    rw [if_pos (by simp; omega), idx_mid]
    dsimp only
    rw [slices_Contains_int_int_row.pure out x.1 (by omega)]
    simp only [veil_eq]
    have f0 : pre.length + (x :: suf).length = (pre ++ [tBump out x]).length + suf.length := by simp; omega
    have f1 : Go.IntKind.wrap .i64 (((pre.length : Nat) : Int) + 1) = (((pre ++ [tBump out x]).length : Nat) : Int) := by rw [wrap_small _ (by omega) (by omega)]; simp
    have ih := take_bump l0 n budget but out ho suf (pre ++ [tBump out x]) m (by omega) (by simp; omega)
    have f3 : pre ++ (x :: suf).map (tBump out) = pre ++ [tBump out x] ++ suf.map (tBump out) := by simp
    rw [f0, f1, f3]
    refine Eq.trans ?_ ih
    cases hh : hasI out x.1 with
    | true =>
      rw [if_pos rfl]
      have ex : tBump out x = (x.1, Go.IntKind.wrap .i64 (x.2 + 1)) := by unfold tBump; rw [if_pos hh]
      have s1 : List.set (pre ++ x :: suf) (Int.toNat ((pre.length : Nat) : Int)) (x.1, Go.IntKind.wrap .i64 (x.2 + 1)) = pre ++ [tBump out x] ++ suf := by
        rw [Int.toNat_natCast, List.set_append_right _ _ (Nat.le_refl _), ex]
        simp
      rw [s1]
    | false =>
      rw [if_neg (by simp)]
      have ex : tBump out x = x := by unfold tBump; rw [if_neg (by simp [hh])]
      rw [ex]
      simp
theorem take_loop (l : List QT) (n budget : Int) (but : List Int) (hl : l.length ≤ 1000) (hbt : but.length ≤ 1000) (s : List QT) (hs : s.length ≤ 1000) : ∀ (suf pre : List QT) (out : List Int) (m : Nat), pre ++ suf = s → out.length ≤ pre.length → suf.length < m →
    queue_Queue_Take.l3 BIG l n budget but m ((s.length : Nat) : Int) ((pre.length : Nat) : Int) l out s =
      (let o := tOut but n suf out; if o = [] then some (l, ([] : List Int)) else some ((l.map (tBump o)).filter (fun v => !(pOut o budget v)), o))
  | suf, pre, out, 0, _, _, h => absurd h (by omega)
  | suf, pre, out, m + 1, h, ho, hm => by
    have hps : pre.length + suf.length ≤ 1000 := by rw [← h] at hs; simp at hs; omega
    have fin : (if ((((List.length out) : Nat) : Int) == 0) = true then some (l, ([] : List Int)) else queue_Queue_Take.l12 BIG l n budget but BIG (((List.length l) : Nat) : Int) 0 l out) = (if out = [] then some (l, ([] : List Int)) else some ((l.map (tBump out)).filter (fun v => !(pOut out budget v)), out)) := by
      cases out with
      | nil => rw [if_pos (by rfl), if_pos rfl]
      | cons o out =>
        rw [if_neg (by simp <;> omega), if_neg (by simp)]
        have e := take_bump l n budget but (o :: out) (by simp at ho ⊢; omega) l [] BIG (by rw [BIG_eq]; omega) (by simpa using hl)
        simpa using e
    rw [queue_Queue_Take.l3_at BIG (m + 1) m rfl]
    unfold queue_Queue_Take.b3
    cases suf with
    | nil =>
      rw [if_neg (by rw [← h]; simp), tOut]
      exact fin
    | cons x suf =>
      have hi : idx s ((pre.length : Nat) : Int) = some x := by rw [← h]; exact idx_mid pre x suf
      rw [if_pos (by rw [← h]; simp; omega), hi]
      dsimp only
      rw [tOut]
      by_cases hn : ((out.length : Nat) : Int) ≥ n
      · rw [if_pos (by simp; omega), if_pos hn]
        exact fin
      · rw [if_neg (by simp; omega), if_neg hn, slices_Contains_int_int_dat.pure but x.1 (by omega)]
        simp only [veil_eq]
        simp at hm hps
        have f1 : Go.IntKind.wrap .i64 (((pre.length : Nat) : Int) + 1) = (((pre ++ [x]).length : Nat) : Int) := by rw [wrap_small _ (by omega) (by omega)]; simp
        cases hb : hasI but x.1 with
        | true =>
          rw [if_neg (by simp), if_pos rfl, f1]
          exact take_loop l n budget but hl hbt s hs suf (pre ++ [x]) out m (by rw [← h]; simp) (by simp; omega) (by omega)
        | false =>
          rw [if_pos (by rfl), if_pos (by unfold lim; simp; omega), if_neg (show ¬ (false = true) by simp), f1]
          exact take_loop l n budget but hl hbt s hs suf (pre ++ [x]) (out ++ [x.1]) m (by rw [← h]; simp) (by simp; omega) (by omega)
theorem queue_Queue_Take.pure (l : List QT) (n budget : Int) (but : List Int) (hl : l.length ≤ 20) (hbt : but.length ≤ 1000) : queue_Queue_Take.f BIG l n budget but = some (qTake l n budget but) := by
  unfold queue_Queue_Take.f queue_Queue_Take.b
  rw [queue_Queue_All.pure l hl]
  simp only [veil_eq]
  have hlen : (isort l.reverse).length = l.length := by rw [isort_len, List.length_reverse]
  have e := take_loop l n budget but (by omega) hbt (isort l.reverse) (by omega) (isort l.reverse) [] [] BIG rfl (Nat.le_refl _) (by rw [BIG_eq]; omega)
  refine Eq.trans e ?_
  unfold qTake
  dsimp only
  split <;> rfl
noncomputable def law22_QueueOften_E : Env := ⟨th, gam [(15, s_law22_awake), (16, s_queue_New), (17, s_queue_Queue_Put), (21, s_queue_Queue_Take)], fun i => if i = 6 then ⟨[0, 1, 2, 7, 8, 9], [(1448, 47, (.pair (.int .i64) (.int .i64)))], []⟩ else if i = 11 then ⟨[0, 1, 2, 7, 8, 9, 10, 11], [], []⟩ else if i = 18 then ⟨[1, 2, 7, 8, 12], [], []⟩ else ⟨[], [], []⟩⟩
noncomputable def law22_QueueOften.k (rs : List AV) (os : List Den.Obj) : Option Bool :=
  match rs, os with
  | [.d .bool r0], [] => some r0
  | _, _ => none
noncomputable def law22_QueueOften.s11 (ids : List Int) (budget : Int) (times : Int) (x10 : Int) (x11 : Int) (x12 : Bool) (x13 : Int) (x14 : (List (Int × Int))) : St := ⟨[.d (.sl (.int .i64)) (ids), .d (.int .i64) (budget), .d (.int .i64) (times), .dead, .dead, .dead, .dead, .ptr 64 0, .d (.int .i64) x10, .d (.int .i64) x11, .d .bool x12, .d (.int .i64) x13, .dead, .dead, .dead, .dead, .dead, .dead, .dead, .dead, .dead, .dead, .dead, .dead, .dead, .dead, .dead, .dead, .dead, .dead, .dead, .dead, .dead, .dead, .dead, .dead, .dead, .dead, .dead, .dead, .dead, .dead, .dead, .dead, .dead, .dead, .dead, .dead, .dead, .dead, .dead, .dead, .dead, .dead, .dead, .dead, .dead, .dead, .dead, .dead, .dead, .dead, .dead, .dead, .dead, .dead, .dead, .dead, .dead, .dead, .dead, .dead, .dead, .dead, .dead, .dead, .dead, .dead, .dead, .dead, .dead, .dead, .dead, .dead, .dead, .dead, .dead, .dead], ofL [(64, .box [.row 65]), (65, .row 47 (.pair (.int .i64) (.int .i64)) x14 false)], 0⟩
noncomputable def law22_QueueOften.b11 (ids : List Int) (budget : Int) (times : Int) (A6 : Int → Int → (List (Int × Int)) → Option Bool) (A11 : Int → Int → Bool → Int → (List (Int × Int)) → Option Bool) (x10 : Int) (x11 : Int) (x12 : Bool) (x13 : Int) (x14 : (List (Int × Int))) : Option Bool :=
  (if (decide (x13 < x11)) then (match (idx ids x13) with | none => none | some y15 => (match (idx ids x11) with | none => none | some y16 => (if (y15 == y16) then A11 x10 x11 false (Go.IntKind.wrap .i64 (x13 + (1 : Int))) x14 else A11 x10 x11 x12 (Go.IntKind.wrap .i64 (x13 + (1 : Int))) x14))) else (if x12 then A6 (Go.IntKind.wrap .i64 (x10 + (1 : Int))) (Go.IntKind.wrap .i64 (x11 + (1 : Int))) x14 else A6 x10 (Go.IntKind.wrap .i64 (x11 + (1 : Int))) x14))
noncomputable def law22_QueueOften.l11 (fuel : Nat) (ids : List Int) (budget : Int) (times : Int) (A6 : Int → Int → (List (Int × Int)) → Option Bool) : Nat → Int → Int → Bool → Int → (List (Int × Int)) → Option Bool
  | 0, _, _, _, _, _ => none
  | k + 1, x10, x11, x12, x13, x14 => law22_QueueOften.b11 ids budget times A6 (law22_QueueOften.l11 fuel ids budget times A6 k) x10 x11 x12 x13 x14
noncomputable def law22_QueueOften.s18 (ids : List Int) (budget : Int) (times : Int) (x17 : Int) (x18 : Int) (x19 : (List (Int × Int))) : St := ⟨[.dead, .d (.int .i64) (budget), .d (.int .i64) (times), .dead, .dead, .dead, .dead, .ptr 64 0, .d (.int .i64) x17, .dead, .dead, .dead, .d (.int .i64) x18, .dead, .dead, .dead, .dead, .dead, .dead, .dead, .dead, .dead, .dead, .dead, .dead, .dead, .dead, .dead, .dead, .dead, .dead, .dead, .dead, .dead, .dead, .dead, .dead, .dead, .dead, .dead, .dead, .dead, .dead, .dead, .dead, .dead, .dead, .dead, .dead, .dead, .dead, .dead, .dead, .dead, .dead, .dead, .dead, .dead, .dead, .dead, .dead, .dead, .dead, .dead, .dead, .dead, .dead, .dead, .dead, .dead, .dead, .dead, .dead, .dead, .dead, .dead, .dead, .dead, .dead, .dead, .dead, .dead, .dead, .dead, .dead, .dead, .dead, .dead], ofL [(64, .box [.row 65]), (65, .row 47 (.pair (.int .i64) (.int .i64)) x19 false)], 0⟩
noncomputable def law22_QueueOften.b18 (ids : List Int) (budget : Int) (times : Int) (A18 : Int → Int → (List (Int × Int)) → Option Bool) (x17 : Int) (x18 : Int) (x19 : (List (Int × Int))) : Option Bool :=
  (if (decide (x18 < times)) then (match (veil (queue_Queue_Take.f BIG x19 (20 : Int) budget ([] : List Int))) with | none => none | some y20 => (if (decide (x18 < budget)) then (if (((((List.length y20.2)) : Nat) : Int) != x17) then some (false) else (if (decide (x18 ≥ budget)) then (if (((((List.length y20.2)) : Nat) : Int) != (0 : Int)) then some (false) else A18 x17 (Go.IntKind.wrap .i64 (x18 + (1 : Int))) y20.1) else A18 x17 (Go.IntKind.wrap .i64 (x18 + (1 : Int))) y20.1)) else (if (decide (x18 ≥ budget)) then (if (((((List.length y20.2)) : Nat) : Int) != (0 : Int)) then some (false) else A18 x17 (Go.IntKind.wrap .i64 (x18 + (1 : Int))) y20.1) else A18 x17 (Go.IntKind.wrap .i64 (x18 + (1 : Int))) y20.1))) else (match (veil (law22_awake.f BIG ())) with | none => none | some y21 => some (y21)))
noncomputable def law22_QueueOften.l18 (fuel : Nat) (ids : List Int) (budget : Int) (times : Int) : Nat → Int → Int → (List (Int × Int)) → Option Bool
  | 0, _, _, _ => none
  | k + 1, x17, x18, x19 => law22_QueueOften.b18 ids budget times (law22_QueueOften.l18 fuel ids budget times k) x17 x18 x19
noncomputable def law22_QueueOften.s6 (ids : List Int) (budget : Int) (times : Int) (x5 : Int) (x6 : Int) (x7 : (List (Int × Int))) : St := ⟨[.d (.sl (.int .i64)) (ids), .d (.int .i64) (budget), .d (.int .i64) (times), .dead, .dead, .dead, .dead, .ptr 64 0, .d (.int .i64) x5, .d (.int .i64) x6, .dead, .dead, .dead, .dead, .dead, .dead, .dead, .dead, .dead, .dead, .dead, .dead, .dead, .dead, .dead, .dead, .dead, .dead, .dead, .dead, .dead, .dead, .dead, .dead, .dead, .dead, .dead, .dead, .dead, .dead, .dead, .dead, .dead, .dead, .dead, .dead, .dead, .dead, .dead, .dead, .dead, .dead, .dead, .dead, .dead, .dead, .dead, .dead, .dead, .dead, .dead, .dead, .dead, .dead, .dead, .dead, .dead, .dead, .dead, .dead, .dead, .dead, .dead, .dead, .dead, .dead, .dead, .dead, .dead, .dead, .dead, .dead, .dead, .dead, .dead, .dead, .dead, .dead], ofL [(64, .box [.row 65]), (65, .row 47 (.pair (.int .i64) (.int .i64)) x7 false)], 0⟩
noncomputable def law22_QueueOften.b6 (ids : List Int) (budget : Int) (times : Int) (A6 : Int → Int → (List (Int × Int)) → Option Bool) (E11 : Int → Int → Bool → Int → (List (Int × Int)) → Option Bool) (E18 : Int → Int → (List (Int × Int)) → Option Bool) (x5 : Int) (x6 : Int) (x7 : (List (Int × Int))) : Option Bool :=
  (if (decide (x6 < ((((List.length ids)) : Nat) : Int))) then (match (idx ids x6) with | none => none | some y8 => (match (veil (queue_Queue_Put.f BIG x7 y8)) with | none => none | some y9 => E11 x5 x6 true (0 : Int) y9)) else E18 x5 (0 : Int) x7)
noncomputable def law22_QueueOften.l6 (fuel : Nat) (ids : List Int) (budget : Int) (times : Int) : Nat → Int → Int → (List (Int × Int)) → Option Bool
  | 0, _, _, _ => none
  | k + 1, x5, x6, x7 => law22_QueueOften.b6 ids budget times (law22_QueueOften.l6 fuel ids budget times k) (law22_QueueOften.l11 fuel ids budget times (law22_QueueOften.l6 fuel ids budget times k) fuel) (law22_QueueOften.l18 fuel ids budget times fuel) x5 x6 x7
noncomputable def law22_QueueOften.b (ids : List Int) (budget : Int) (times : Int) (E6 : Int → Int → (List (Int × Int)) → Option Bool) : Option Bool :=
  (if (decide (((((List.length ids)) : Nat) : Int) > (20 : Int))) then (match (veil (law22_awake.f BIG ())) with | none => none | some y0 => some (y0)) else (if (decide (budget < (1 : Int))) then (match (veil (law22_awake.f BIG ())) with | none => none | some y1 => some (y1)) else (if (decide (times < (0 : Int))) then (match (veil (law22_awake.f BIG ())) with | none => none | some y2 => some (y2)) else (if (decide (times > (40 : Int))) then (match (veil (law22_awake.f BIG ())) with | none => none | some y3 => some (y3)) else (match (veil (queue_New.f BIG ())) with | none => none | some y4 => E6 (0 : Int) (0 : Int) ([] : List (Int × Int)))))))
noncomputable def law22_QueueOften.f (fuel : Nat) (ids : List Int) (budget : Int) (times : Int) : Option Bool := law22_QueueOften.b ids budget times (law22_QueueOften.l6 fuel ids budget times fuel)
theorem law22_QueueOften.l11_eq (fuel : Nat) (ids : List Int) (budget : Int) (times : Int) (k6 : Nat) : ∀ (k : Nat) (x10 : Int) (x11 : Int) (x12 : Bool) (x13 : Int) (x14 : (List (Int × Int))), lp law22_QueueOften_E fuel Try.f6 [.raw] 0 law22_QueueOften.k 11 [k6] k (law22_QueueOften.s11 ids budget times x10 x11 x12 x13 x14) = law22_QueueOften.l11 fuel ids budget times (fun x5 x6 x7 => lp law22_QueueOften_E fuel Try.f6 [.raw] 0 law22_QueueOften.k 6 [] k6 (law22_QueueOften.s6 ids budget times x5 x6 x7)) k x10 x11 x12 x13 x14 := by
  intro k
  induction k with
  | zero => intro x10 x11 x12 x13 x14; rfl
  | succ k ih =>
    intro x10 x11 x12 x13 x14
    have h : lp law22_QueueOften_E fuel Try.f6 [.raw] 0 law22_QueueOften.k 11 [k6] (k + 1) (law22_QueueOften.s11 ids budget times x10 x11 x12 x13 x14) = law22_QueueOften.b11 ids budget times (fun x5 x6 x7 => lp law22_QueueOften_E fuel Try.f6 [.raw] 0 law22_QueueOften.k 6 [] k6 (law22_QueueOften.s6 ids budget times x5 x6 x7)) (fun x10 x11 x12 x13 x14 => lp law22_QueueOften_E fuel Try.f6 [.raw] 0 law22_QueueOften.k 11 [k6] k (law22_QueueOften.s11 ids budget times x10 x11 x12 x13 x14)) x10 x11 x12 x13 x14 := by kernel_rfl
    rw [h]
    have e11 : (fun x10 x11 x12 x13 x14 => lp law22_QueueOften_E fuel Try.f6 [.raw] 0 law22_QueueOften.k 11 [k6] k (law22_QueueOften.s11 ids budget times x10 x11 x12 x13 x14)) = law22_QueueOften.l11 fuel ids budget times (fun x5 x6 x7 => lp law22_QueueOften_E fuel Try.f6 [.raw] 0 law22_QueueOften.k 6 [] k6 (law22_QueueOften.s6 ids budget times x5 x6 x7)) k := (funext fun x10 => (funext fun x11 => (funext fun x12 => (funext fun x13 => (funext fun x14 => ih x10 x11 x12 x13 x14)))))
    rw [e11]
    rfl
theorem law22_QueueOften.l18_eq (fuel : Nat) (ids : List Int) (budget : Int) (times : Int) : ∀ (k : Nat) (x17 : Int) (x18 : Int) (x19 : (List (Int × Int))), lp law22_QueueOften_E fuel Try.f6 [.raw] 0 law22_QueueOften.k 18 [] k (law22_QueueOften.s18 ids budget times x17 x18 x19) = law22_QueueOften.l18 fuel ids budget times k x17 x18 x19 := by
  intro k
  induction k with
  | zero => intro x17 x18 x19; rfl
  | succ k ih =>
    intro x17 x18 x19
    have h : lp law22_QueueOften_E fuel Try.f6 [.raw] 0 law22_QueueOften.k 18 [] (k + 1) (law22_QueueOften.s18 ids budget times x17 x18 x19) = law22_QueueOften.b18 ids budget times (fun x17 x18 x19 => lp law22_QueueOften_E fuel Try.f6 [.raw] 0 law22_QueueOften.k 18 [] k (law22_QueueOften.s18 ids budget times x17 x18 x19)) x17 x18 x19 := by kernel_rfl
    rw [h]
    have e18 : (fun x17 x18 x19 => lp law22_QueueOften_E fuel Try.f6 [.raw] 0 law22_QueueOften.k 18 [] k (law22_QueueOften.s18 ids budget times x17 x18 x19)) = law22_QueueOften.l18 fuel ids budget times k := (funext fun x17 => (funext fun x18 => (funext fun x19 => ih x17 x18 x19)))
    rw [e18]
    rfl
theorem law22_QueueOften.l6_eq (fuel : Nat) (ids : List Int) (budget : Int) (times : Int) : ∀ (k : Nat) (x5 : Int) (x6 : Int) (x7 : (List (Int × Int))), lp law22_QueueOften_E fuel Try.f6 [.raw] 0 law22_QueueOften.k 6 [] k (law22_QueueOften.s6 ids budget times x5 x6 x7) = law22_QueueOften.l6 fuel ids budget times k x5 x6 x7 := by
  intro k
  induction k with
  | zero => intro x5 x6 x7; rfl
  | succ k ih =>
    intro x5 x6 x7
    have h : lp law22_QueueOften_E fuel Try.f6 [.raw] 0 law22_QueueOften.k 6 [] (k + 1) (law22_QueueOften.s6 ids budget times x5 x6 x7) = law22_QueueOften.b6 ids budget times (fun x5 x6 x7 => lp law22_QueueOften_E fuel Try.f6 [.raw] 0 law22_QueueOften.k 6 [] k (law22_QueueOften.s6 ids budget times x5 x6 x7)) (fun x10 x11 x12 x13 x14 => lp law22_QueueOften_E fuel Try.f6 [.raw] 0 law22_QueueOften.k 11 [k] fuel (law22_QueueOften.s11 ids budget times x10 x11 x12 x13 x14)) (fun x17 x18 x19 => lp law22_QueueOften_E fuel Try.f6 [.raw] 0 law22_QueueOften.k 18 [] fuel (law22_QueueOften.s18 ids budget times x17 x18 x19)) x5 x6 x7 := by kernel_rfl
    rw [h]
    have e6 : (fun x5 x6 x7 => lp law22_QueueOften_E fuel Try.f6 [.raw] 0 law22_QueueOften.k 6 [] k (law22_QueueOften.s6 ids budget times x5 x6 x7)) = law22_QueueOften.l6 fuel ids budget times k := (funext fun x5 => (funext fun x6 => (funext fun x7 => ih x5 x6 x7)))
    rw [e6]
    have e11 : (fun x10 x11 x12 x13 x14 => lp law22_QueueOften_E fuel Try.f6 [.raw] 0 law22_QueueOften.k 11 [k] fuel (law22_QueueOften.s11 ids budget times x10 x11 x12 x13 x14)) = law22_QueueOften.l11 fuel ids budget times (fun x5 x6 x7 => lp law22_QueueOften_E fuel Try.f6 [.raw] 0 law22_QueueOften.k 6 [] k (law22_QueueOften.s6 ids budget times x5 x6 x7)) fuel := (funext fun x10 => (funext fun x11 => (funext fun x12 => (funext fun x13 => (funext fun x14 => law22_QueueOften.l11_eq fuel ids budget times k fuel x10 x11 x12 x13 x14)))))
    rw [e11]
    rw [e6]
    have e18 : (fun x17 x18 x19 => lp law22_QueueOften_E fuel Try.f6 [.raw] 0 law22_QueueOften.k 18 [] fuel (law22_QueueOften.s18 ids budget times x17 x18 x19)) = law22_QueueOften.l18 fuel ids budget times fuel := (funext fun x17 => (funext fun x18 => (funext fun x19 => law22_QueueOften.l18_eq fuel ids budget times fuel x17 x18 x19)))
    rw [e18]
    rfl
theorem law22_QueueOften.eq (fuel : Nat) (ids : List Int) (budget : Int) (times : Int) : (denF law22_QueueOften_E loopN fuel Try.f6 [.raw] [.d (.sl (.int .i64)) ids, .d (.int .i64) budget, .d (.int .i64) times] [] law22_QueueOften.k) = law22_QueueOften.f fuel ids budget times := by
  have h : (denF law22_QueueOften_E loopN fuel Try.f6 [.raw] [.d (.sl (.int .i64)) ids, .d (.int .i64) budget, .d (.int .i64) times] [] law22_QueueOften.k) = law22_QueueOften.b ids budget times (fun x5 x6 x7 => lp law22_QueueOften_E fuel Try.f6 [.raw] 0 law22_QueueOften.k 6 [] fuel (law22_QueueOften.s6 ids budget times x5 x6 x7)) := by kernel_rfl
  rw [h]
  have e6 : (fun x5 x6 x7 => lp law22_QueueOften_E fuel Try.f6 [.raw] 0 law22_QueueOften.k 6 [] fuel (law22_QueueOften.s6 ids budget times x5 x6 x7)) = law22_QueueOften.l6 fuel ids budget times fuel := (funext fun x5 => (funext fun x6 => (funext fun x7 => law22_QueueOften.l6_eq fuel ids budget times fuel x5 x6 x7)))
  rw [e6]
  rfl
theorem law22_QueueOften.l11_at (fuel nN kK : Nat) (hN : nN = kK + 1) (ids : List Int) (budget : Int) (times : Int) (A6 : Int → Int → (List (Int × Int)) → Option Bool) (x10 : Int) (x11 : Int) (x12 : Bool) (x13 : Int) (x14 : (List (Int × Int))) : law22_QueueOften.l11 fuel ids budget times A6 nN x10 x11 x12 x13 x14 = law22_QueueOften.b11 ids budget times A6 (law22_QueueOften.l11 fuel ids budget times A6 kK) x10 x11 x12 x13 x14 := by
  subst hN
  rfl
theorem law22_QueueOften.l18_at (fuel nN kK : Nat) (hN : nN = kK + 1) (ids : List Int) (budget : Int) (times : Int) (x17 : Int) (x18 : Int) (x19 : (List (Int × Int))) : law22_QueueOften.l18 fuel ids budget times nN x17 x18 x19 = law22_QueueOften.b18 ids budget times (law22_QueueOften.l18 fuel ids budget times kK) x17 x18 x19 := by
  subst hN
  rfl
theorem law22_QueueOften.l6_at (fuel nN kK : Nat) (hN : nN = kK + 1) (ids : List Int) (budget : Int) (times : Int) (x5 : Int) (x6 : Int) (x7 : (List (Int × Int))) : law22_QueueOften.l6 fuel ids budget times nN x5 x6 x7 = law22_QueueOften.b6 ids budget times (law22_QueueOften.l6 fuel ids budget times kK) (law22_QueueOften.l11 fuel ids budget times (law22_QueueOften.l6 fuel ids budget times kK) fuel) (law22_QueueOften.l18 fuel ids budget times fuel) x5 x6 x7 := by
  subst hN
  rfl
theorem pow_le13 (k : Nat) (h : k ≤ 13) : 2 ^ k ≤ 8192 := Nat.le_trans (Nat.pow_le_pow_right (by omega) h) (by decide)
theorem pow_b (k : Nat) (h : k ≤ 13) : 0 ≤ ((2 ^ k : Nat) : Int) ∧ ((2 ^ k : Nat) : Int) ≤ 8192 := ⟨Int.natCast_nonneg _, Int.ofNat_le.2 (pow_le13 k h)⟩
theorem wrap_b (z : Int) (h : 0 ≤ z ∧ z ≤ 8192) : Go.IntKind.wrap .i64 z = z := wrap_small z (by omega) (by omega)
theorem pow_int (k : Nat) (h : k ≤ 13) : Go.IntKind.wrap .i64 (1 * (2 ^ (Min.min (Int.toNat (k : Int)) (Go.IntKind.bits .i64)))) = ((2 ^ k : Nat) : Int) := by
  have e : Min.min (Int.toNat (k : Int)) (Go.IntKind.bits .i64) = k := by
    rw [Int.toNat_natCast, show Go.IntKind.bits .i64 = 64 from rfl]; omega
  have := pow_le13 k h
  rw [e, Int.one_mul]
  have e2 : (2 : Int) ^ k = ((2 ^ k : Nat) : Int) := by push_cast; rfl
  rw [e2, wrap_b _ (pow_b k h)]
theorem minI_le (members : Int) : minI members 4096 ≤ 4096 := by unfold minI; split <;> omega
theorem budget_loop (members mult : Int) (hm : 0 ≤ members) : ∀ (j k n : Nat), k + j = 13 → j < n → (k = 0 ∨ ((2 ^ (k - 1) : Nat) : Int) ≤ minI members 4096) →
    ∃ K : Nat, K ≤ 13 ∧ queue_Budget.l5 BIG members mult n (k : Int) = some (Go.IntKind.wrap .i64 (minI mult 64 * (K : Int))) ∧ minI members 4096 < ((2 ^ K : Nat) : Int) ∧ (K = 0 ∨ ((2 ^ (K - 1) : Nat) : Int) ≤ minI members 4096)
  | j, k, 0, _, h, _ => absurd h (by omega)
  | 0, k, n + 1, hk, h, hi => by
    have hk : k = 13 := by omega
    subst hk
    refine ⟨13, Nat.le_refl _, ?_, ?_, hi⟩
    · rw [queue_Budget.l5_at BIG (n + 1) n rfl]
      unfold queue_Budget.b5
      have := minI_le members
      rw [if_neg (by omega), pow_int 13 (by omega), if_neg (by simp; omega)]
    · have := minI_le members
      simp; omega
  | j + 1, k, n + 1, hk, h, hi => by
    rw [queue_Budget.l5_at BIG (n + 1) n rfl]
    unfold queue_Budget.b5
    rw [if_neg (by omega), pow_int k (by omega)]
    by_cases hc : ((2 ^ k : Nat) : Int) ≤ minI members 4096
    · rw [if_pos (by rw [decide_eq_true_eq]; exact hc), wrap_small _ (by omega) (by omega)]
      exact budget_loop members mult hm j (k + 1) n (by omega) (by omega) (.inr hc)
    · rw [if_neg (by rw [decide_eq_true_eq]; exact hc)]
      exact ⟨k, by omega, rfl, by omega, hi⟩
theorem queue_Budget.pure (members mult : Int) (hm : 0 ≤ members) (hu : 1 ≤ mult) :
    ∃ K : Nat, K ≤ 13 ∧ queue_Budget.f BIG members mult = some (minI mult 64 * (K : Int)) ∧ minI members 4096 < ((2 ^ K : Nat) : Int) ∧ (K = 0 ∨ ((2 ^ (K - 1) : Nat) : Int) ≤ minI members 4096) := by
  obtain ⟨K, hK, he, h1, h2⟩ := budget_loop members mult hm 13 0 BIG rfl (by rw [BIG_eq]; omega) (.inl rfl)
  refine ⟨K, hK, ?_, h1, h2⟩
  unfold queue_Budget.f queue_Budget.b
  rw [if_neg (by simp; omega), if_neg (by simp; omega)]
  have hu1 : 0 ≤ minI mult 64 ∧ minI mult 64 ≤ 64 := by unfold minI; split <;> omega
  have hp : minI mult 64 * (K : Int) ≤ 64 * 13 := Int.mul_le_mul hu1.2 (by omega) (by omega) (by omega)
  have hp0 : 0 ≤ minI mult 64 * (K : Int) := Int.mul_nonneg hu1.1 (by omega)
  refine Eq.trans he ?_
  rw [wrap_small _ (by omega) (by omega)]
theorem budget_one (members mult : Int) (K : Nat) (hm : 0 ≤ members) (hu : 1 ≤ mult) (hK : 0 < K) (hK13 : K ≤ 13) (h1 : members < ((2 ^ K : Nat) : Int)) (h2 : ((2 ^ (K - 1) : Nat) : Int) ≤ members) (hmm : members ≤ 4096) (hmu : mult ≤ 64) : queue_Budget.f BIG members mult = some (mult * (K : Int)) := by
  obtain ⟨K', hK', he, h1', h2'⟩ := queue_Budget.pure members mult hm hu
  have e1 : minI members 4096 = members := by unfold minI; rw [if_neg (by omega)]
  have e2 : minI mult 64 = mult := by unfold minI; rw [if_neg (by omega)]
  rw [e1] at h1' h2'
  rw [e2] at he
  have : K' = K := by
    rcases Nat.lt_trichotomy K' K with h | h | h
    · have : 2 ^ K' ≤ 2 ^ (K - 1) := Nat.pow_le_pow_right (by omega) (by omega)
      omega
    · exact h
    · have : 2 ^ K ≤ 2 ^ (K' - 1) := Nat.pow_le_pow_right (by omega) (by omega)
      omega
  rw [he, this]
theorem budget_zero (mult : Int) (hu : 1 ≤ mult) : queue_Budget.f BIG 0 mult = some 0 := by
  obtain ⟨K', hK', he, h1', h2'⟩ := queue_Budget.pure 0 mult (by omega) hu
  have e1 : minI 0 4096 = 0 := rfl
  rw [e1] at h2'
  have : K' = 0 := by
    rcases h2' with h | h
    · exact h
    · have : 0 < 2 ^ (K' - 1) := Nat.pow_pos (by omega)
      omega
  rw [he, this]; simp
theorem law22_awake.pure : law22_awake.f BIG () = some true := by
  unfold law22_awake.f law22_awake.b
  rw [show queue_New.f BIG () = some () from rfl]
  simp only [veil_eq]
  rw [queue_Queue_Put.pure [] 1 (by simp)]
  simp only [veil_eq]
  have e1 : qPut [] 1 = [(1, 0)] := rfl
  rw [e1, queue_Queue_Put.pure [(1, 0)] 2 (by simp)]
  simp only [veil_eq]
  have e2 : qPut [(1, 0)] 2 = [(1, 0), (2, 0)] := rfl
  rw [e2, queue_Queue_Take.pure [(1, 0), (2, 0)] 1 2 [] (by simp) (by simp)]
  simp only [veil_eq]
  have w1 : Go.IntKind.wrap .i64 (0 + 1) = 1 := wrap_small _ (by omega) (by omega)
  have w2 : Go.IntKind.wrap .i64 (1 + 1) = 2 := wrap_small _ (by omega) (by omega)
  have e3 : qTake [(1, 0), (2, 0)] 1 2 [] = ([(1, 0), (2, 1)], [2]) := by
    unfold qTake
    have eo : tOut [] 1 (isort ([(1, 0), (2, 0)] : List QT).reverse) [] = [2] := rfl
    dsimp only
    rw [eo, if_neg (by simp)]
    have b1 : tBump [2] (1, 0) = (1, 0) := rfl
    have b2 : tBump [2] (2, 0) = (2, 1) := by show ((2 : Int), Go.IntKind.wrap .i64 (0 + 1)) = _; rw [w1]
    rw [List.map_cons, List.map_cons, List.map_nil, b1, b2]
    rfl
  rw [e3, queue_Queue_Take.pure [(1, 0), (2, 1)] 2 2 [] (by simp) (by simp)]
  simp only [veil_eq]
  have e4 : qTake [(1, 0), (2, 1)] 2 2 [] = ([(1, 1)], [1, 2]) := by
    unfold qTake
    have eo : tOut [] 2 (isort ([(1, 0), (2, 1)] : List QT).reverse) [] = [1, 2] := rfl
    dsimp only
    rw [eo, if_neg (by simp)]
    have b1 : tBump [1, 2] (1, 0) = (1, 1) := by show ((1 : Int), Go.IntKind.wrap .i64 (0 + 1)) = _; rw [w1]
    have b2 : tBump [1, 2] (2, 1) = (2, 2) := by show ((2 : Int), Go.IntKind.wrap .i64 (1 + 1)) = _; rw [w2]
    rw [List.map_cons, List.map_cons, List.map_nil, b1, b2]
    rfl
  rw [e4]
  have i1 : idx ([2] : List Int) 0 = some 2 := rfl
  have i2 : idx ([1, 2] : List Int) 0 = some 1 := rfl
  have i3 : idx ([1, 2] : List Int) 1 = some 2 := rfl
  dsimp only
  rw [i1, i2, i3]
  dsimp only
  rw [queue_Queue_All.pure [(1, 1)] (by simp), budget_one 7 3 3 (by omega) (by omega) (by omega) (by omega) (by decide) (by decide) (by omega) (by omega), budget_one 8 3 4 (by omega) (by omega) (by omega) (by omega) (by decide) (by decide) (by omega) (by omega), budget_zero 3 (by omega)]
  simp only [veil_eq]
  rfl
theorem drop_none (id : Int) (l : List QT) (h : id ∉ l.map (·.1)) : qDrop l id = l := by
  unfold qDrop
  rw [List.filter_eq_self]
  intro x hx
  unfold pDrop
  have : x.1 ≠ id := fun e => h (List.mem_map.2 ⟨x, hx, e⟩)
  simp [this]
theorem drop_one (id : Int) : ∀ l : List QT, (l.map (·.1)).Nodup → id ∈ l.map (·.1) → (qDrop l id).length + 1 = l.length
  | [], _, h => by simp at h
  | x :: l, hn, h => by
    rw [List.map_cons, List.nodup_cons] at hn
    by_cases hx : x.1 = id
    · have e : qDrop (x :: l) id = qDrop l id := by unfold qDrop; rw [List.filter_cons, if_neg (by unfold pDrop; simp [hx])]
      rw [e, drop_none id l (by rw [← hx]; exact hn.1)]
      rfl
    · have e : qDrop (x :: l) id = x :: qDrop l id := by unfold qDrop; rw [List.filter_cons, if_pos (by unfold pDrop; simp [hx])]
      have hm : id ∈ l.map (·.1) := by
        rw [List.map_cons] at h
        rcases List.mem_cons.1 h with h | h
        · exact absurd h.symm hx
        · exact h
      rw [e, List.length_cons, List.length_cons, drop_one id l hn.2 hm]
theorem drop_map (id : Int) (l : List QT) : (qDrop l id).map (·.1) = (l.map (·.1)).filter (fun v => !(v == id)) := by
  unfold qDrop pDrop
  rw [List.filter_map]
  rfl
def QI (pre : List Int) (items : List QT) (n : Nat) : Prop := (items.map (·.1)).Nodup ∧ (∀ x ∈ items, x.2 = 0) ∧ (∀ v, v ∈ items.map (·.1) ↔ v ∈ pre) ∧ items.length = n
theorem QI_put (pre : List Int) (items : List QT) (n : Nat) (id : Int) (h : QI pre items n) : QI (pre ++ [id]) (qPut items id) (if id ∈ pre then n else n + 1) := by
  obtain ⟨h1, h2, h3, h4⟩ := h
  have hmap : (qPut items id).map (·.1) = (items.map (·.1)).filter (fun v => !(v == id)) ++ [id] := by unfold qPut; rw [List.map_append, drop_map]; rfl
  refine ⟨?_, ?_, ?_, ?_⟩
  · rw [hmap, List.nodup_append]
    refine ⟨h1.filter _, by simp, ?_⟩
    intro a ha b hb
    have := (List.mem_filter.1 ha).2
    rw [List.mem_singleton.1 hb]
    intro e
    simp [e] at this
  · intro x hx
    unfold qPut at hx
    rcases List.mem_append.1 hx with hx | hx
    · exact h2 x (List.mem_filter.1 hx).1
    · rw [List.mem_singleton.1 hx]
  · intro v
    rw [hmap, List.mem_append, List.mem_filter, h3, List.mem_append]
    by_cases hv : v = id
    · simp [hv]
    · simp [hv]
  · unfold qPut
    rw [List.length_append]
    split
    · rename_i hc
      have := drop_one id items h1 ((h3 id).2 hc)
      simp; omega
    · rename_i hc
      rw [drop_none id items (fun hm => hc ((h3 id).1 hm)), h4]; rfl
theorem first_loop (ids : List Int) (budget times : Int) (A6 : Int → Int → List QT → Option Bool) (v : Int) (rest : List Int) (x10 : Int) (items : List QT) (hb : ids.length ≤ 20) : ∀ (suf pre : List Int) (first : Bool) (n : Nat), pre ++ suf ++ v :: rest = ids → suf.length < n →
    law22_QueueOften.l11 BIG ids budget times A6 n x10 ((pre.length + suf.length : Nat) : Int) first ((pre.length : Nat) : Int) items =
      A6 (if (first && !(hasI suf v)) = true then Go.IntKind.wrap .i64 (x10 + 1) else x10) (Go.IntKind.wrap .i64 (((pre.length + suf.length : Nat) : Int) + 1)) items
  | suf, pre, first, 0, _, h => absurd h (by omega)
  | [], pre, first, n + 1, he, h => by
    rw [law22_QueueOften.l11_at BIG (n + 1) n rfl]
    unfold law22_QueueOften.b11
    rw [if_neg (by simp)]
    cases first <;> simp [hasI]
  | x :: suf, pre, first, n + 1, he, h => by
    have hl : pre.length + (suf.length + 1) ≤ 20 := by rw [← he] at hb; simp at hb; omega
    simp at h
    have i1 : idx ids ((pre.length : Nat) : Int) = some x := by
      rw [← he]
      have := idx_mid pre x (suf ++ v :: rest)
      rw [← List.cons_append, ← List.append_assoc] at this
      exact this
    have i2 : idx ids ((pre.length + (x :: suf).length : Nat) : Int) = some v := by
      rw [← he]
      have := idx_mid (pre ++ x :: suf) v rest
      rw [List.length_append] at this
      exact this
    rw [law22_QueueOften.l11_at BIG (n + 1) n rfl]
    unfold law22_QueueOften.b11
    rw [if_pos (by simp <;> omega), i1]
    dsimp only
    rw [i2]
    dsimp only
    have f0 : pre.length + (x :: suf).length = (pre ++ [x]).length + suf.length := by simp; omega
    have f1 : Go.IntKind.wrap .i64 (((pre.length : Nat) : Int) + 1) = (((pre ++ [x]).length : Nat) : Int) := by rw [wrap_small _ (by omega) (by omega)]; simp
    rw [f0, f1]
    have ih := fun fb => first_loop ids budget times A6 v rest x10 items hb suf (pre ++ [x]) fb n (by rw [← he]; simp) (by omega)
    by_cases hx : x = v
    · rw [if_pos (by simp [hx]), ih false]
      have : hasI (x :: suf) v = true := by unfold hasI; simp [hx]
      rw [this]
      simp
    · rw [if_neg (by simp [hx]), ih first]
      have : hasI (x :: suf) v = hasI suf v := by unfold hasI; rw [List.any_cons]; simp [Ne.symm hx]
      rw [this]
theorem hasI_iff (s : List Int) (v : Int) : hasI s v = true ↔ v ∈ s := by
  unfold hasI
  rw [List.any_eq_true]
  constructor
  · rintro ⟨x, hx, e⟩
    have : v = x := by simpa using e
    rw [this]; exact hx
  · intro h
    exact ⟨v, h, by simp⟩
theorem tOut_all (n : Int) : ∀ (l : List QT) (out : List Int), ((out.length + l.length : Nat) : Int) ≤ n → tOut [] n l out = out ++ l.map (·.1)
  | [], out, h => by simp [tOut]
  | x :: l, out, h => by
    simp at h
    have e : hasI [] x.1 = false := rfl
    rw [tOut, if_neg (by omega), e, if_neg (by simp), tOut_all n l (out ++ [x.1]) (by simp; omega)]
    simp
def QS (budget : Int) (n i : Nat) (items : List QT) : Prop := if (i : Int) < budget then items.length = n ∧ ∀ x ∈ items, x.2 = (i : Int) else items = []
theorem QS_take (budget : Int) (n i : Nat) (items : List QT) (hn : n ≤ 20) (hi : i ≤ 100) (h : QS budget n i items) :
    ((qTake items 20 budget []).2.length = if (i : Int) < budget then n else 0) ∧ QS budget n (i + 1) (qTake items 20 budget []).1 := by
  unfold QS at h
  by_cases hc : (i : Int) < budget
  · rw [if_pos hc] at h
    obtain ⟨hl, h2⟩ := h
    rw [if_pos hc]
    have eo : tOut [] 20 (isort items.reverse) [] = (isort items.reverse).map (·.1) := by
      rw [tOut_all 20 _ [] (by rw [isort_len, List.length_reverse]; simp; omega)]; rfl
    unfold qTake
    rw [eo]
    dsimp only
    by_cases he : (isort items.reverse).map (·.1) = []
    · have h0 : items = [] := by
        have := congrArg List.length he
        rw [List.length_map, isort_len, List.length_reverse] at this
        exact List.eq_nil_of_length_eq_zero this
      subst h0
      rw [if_pos he]
      refine ⟨hl, ?_⟩
      unfold QS
      split
      · exact ⟨hl, by simp⟩
      · rfl
    · rw [if_neg he]
      refine ⟨by rw [List.length_map, isort_len, List.length_reverse, hl], ?_⟩
      have hb : ∀ x ∈ items, tBump ((isort items.reverse).map (·.1)) x = (x.1, (i : Int) + 1) := by
        intro x hx
        unfold tBump
        rw [if_pos ((hasI_iff _ _).2 (List.mem_map.2 ⟨x, (isort_mem x _).2 (List.mem_reverse.2 hx), rfl⟩)), h2 x hx, wrap_small _ (by omega) (by omega)]
      have hm : items.map (tBump ((isort items.reverse).map (·.1))) = items.map fun x => (x.1, (i : Int) + 1) := List.map_congr_left hb
      rw [hm]
      unfold QS
      by_cases hc2 : ((i + 1 : Nat) : Int) < budget
      · rw [if_pos hc2]
        have hf : (items.map fun x => ((x.1, (i : Int) + 1) : QT)).filter (fun v => !(pOut ((isort items.reverse).map (·.1)) budget v)) = items.map fun x => (x.1, (i : Int) + 1) := by
          rw [List.filter_eq_self]
          intro y hy
          obtain ⟨x, hx, rfl⟩ := List.mem_map.1 hy
          unfold pOut
          simp
          exact .inr (by omega)
        rw [hf]
        refine ⟨by rw [List.length_map, hl], ?_⟩
        intro y hy
        obtain ⟨x, hx, rfl⟩ := List.mem_map.1 hy
        simp
      · rw [if_neg hc2]
        rw [List.filter_eq_nil_iff]
        intro y hy
        obtain ⟨x, hx, rfl⟩ := List.mem_map.1 hy
        unfold pOut
        have : hasI ((isort items.reverse).map (·.1)) x.1 = true := (hasI_iff _ _).2 (List.mem_map.2 ⟨x, (isort_mem x _).2 (List.mem_reverse.2 hx), rfl⟩)
        simp [this]
        omega
  · rw [if_neg hc] at h
    subst h
    rw [if_neg hc]
    have e : qTake [] 20 budget [] = ([], []) := rfl
    rw [e]
    refine ⟨rfl, ?_⟩
    unfold QS
    rw [if_neg (by omega)]
theorem QS_len (budget : Int) (n i : Nat) (items : List QT) (h : QS budget n i items) : items.length ≤ n := by
  unfold QS at h
  split at h
  · omega
  · rw [h]; simp
theorem often_loop2 (ids : List Int) (budget times : Int) (n : Nat) (hn : n ≤ 20) (ht : times ≤ 40) : ∀ (j i m : Nat) (items : List QT), (i : Int) + j = times → j < m → QS budget n i items →
    law22_QueueOften.l18 BIG ids budget times m (n : Int) (i : Int) items = some true
  | j, i, 0, _, _, h, _ => absurd h (by omega)
  | 0, i, m + 1, items, hi, h, hq => by
    rw [law22_QueueOften.l18_at BIG (m + 1) m rfl]
    unfold law22_QueueOften.b18
    rw [if_neg (by simp; omega), law22_awake.pure]
    simp only [veil_eq]
  | j + 1, i, m + 1, items, hi, h, hq => by
    rw [law22_QueueOften.l18_at BIG (m + 1) m rfl]
    unfold law22_QueueOften.b18
    have hlen := QS_len budget n i items hq
    rw [if_pos (by simp; omega), queue_Queue_Take.pure items 20 budget [] (by omega) (by simp)]
    simp only [veil_eq]
    obtain ⟨h1, h2⟩ := QS_take budget n i items hn (by omega) hq
    rw [wrap_small _ (by omega) (by omega)]
    have ih := often_loop2 ids budget times n hn ht j (i + 1) m _ (by push_cast; omega) (by omega) h2
    by_cases hc : (i : Int) < budget
    · rw [if_pos hc] at h1
      rw [if_pos (by simp [hc]), h1, if_neg (by simp), if_neg (by simp; omega)]
      exact ih
    · rw [if_neg hc] at h1
      rw [if_neg (by simp [hc]), if_pos (by simp; omega), h1, if_neg (by simp)]
      exact ih
theorem often_loop1 (ids : List Int) (budget times : Int) (hl : ids.length ≤ 20) (hb : 1 ≤ budget) (ht0 : 0 ≤ times) (ht : times ≤ 40) : ∀ (suf pre : List Int) (items : List QT) (n m : Nat), pre ++ suf = ids → n ≤ pre.length → QI pre items n → suf.length < m →
    law22_QueueOften.l6 BIG ids budget times m (n : Int) ((pre.length : Nat) : Int) items = some true
  | suf, pre, items, n, 0, _, _, _, h => absurd h (by omega)
  | [], pre, items, n, m + 1, he, hn, hq, h => by
    rw [List.append_nil] at he
    subst he
    rw [law22_QueueOften.l6_at BIG (m + 1) m rfl]
    unfold law22_QueueOften.b6
    rw [if_neg (by simp)]
    obtain ⟨t, rfl⟩ : ∃ t : Nat, times = (t : Int) := ⟨times.toNat, by omega⟩
    exact often_loop2 pre budget (t : Int) n (by omega) ht t 0 BIG items (by simp) (by rw [BIG_eq]; omega) (by unfold QS; rw [if_pos (by simp; omega)]; exact ⟨hq.2.2.2, fun x hx => by rw [hq.2.1 x hx]; rfl⟩)
  | v :: suf, pre, items, n, m + 1, he, hn, hq, h => by
    have hpl : pre.length + (suf.length + 1) ≤ 20 := by rw [← he] at hl; simp at hl; omega
    simp at h
    have hi : idx ids ((pre.length : Nat) : Int) = some v := by rw [← he]; exact idx_mid pre v suf
    rw [law22_QueueOften.l6_at BIG (m + 1) m rfl]
    unfold law22_QueueOften.b6
    rw [if_pos (by rw [← he]; simp; omega), hi]
    dsimp only
    rw [queue_Queue_Put.pure items v (by rw [hq.2.2.2]; omega)]
    simp only [veil_eq]
    have e := first_loop ids budget times (law22_QueueOften.l6 BIG ids budget times m) v suf (n : Int) (qPut items v) hl pre [] true BIG (by rw [← he]; simp) (by rw [BIG_eq]; omega)
    simp only [List.length_nil, Nat.zero_add] at e
    refine Eq.trans e ?_
    rw [wrap_small _ (by omega) (by omega), wrap_small _ (by omega) (by omega)]
    have hq2 := QI_put pre items n v hq
    have hle : (if v ∈ pre then n else n + 1) ≤ (pre ++ [v]).length := by simp; split <;> omega
    have ih := often_loop1 ids budget times hl hb ht0 ht suf (pre ++ [v]) (qPut items v) _ m (by rw [← he]; simp) hle hq2 (by omega)
    have f1 : (((pre ++ [v]).length : Nat) : Int) = ((pre.length : Nat) : Int) + 1 := by simp
    rw [f1] at ih
    by_cases hv : v ∈ pre
    · rw [if_pos hv] at ih
      rw [if_neg (by rw [(hasI_iff pre v).2 hv]; simp)]
      exact ih
    · rw [if_neg hv] at ih
      have : hasI pre v = false := by
        cases hh : hasI pre v with
        | false => rfl
        | true => exact absurd ((hasI_iff pre v).1 hh) hv
      rw [this, if_pos (by rfl)]
      exact ih
theorem QueueOften.pure (ids : List Int) (budget times : Int) : law22_QueueOften.f BIG ids budget times = some true := by
  unfold law22_QueueOften.f law22_QueueOften.b
  rw [law22_awake.pure]
  simp only [veil_eq]
  by_cases h1 : ids.length > 20
  · rw [if_pos (by simp; omega)]
  · rw [if_neg (by simp; omega)]
    by_cases h2 : budget < 1
    · rw [if_pos (by simp; omega)]
    · rw [if_neg (by simp; omega)]
      by_cases h3 : times < 0
      · rw [if_pos (by simp; omega)]
      · rw [if_neg (by simp; omega)]
        by_cases h4 : times > 40
        · rw [if_pos (by simp; omega)]
        · rw [if_neg (by simp; omega), show queue_New.f BIG () = some () from rfl]
          dsimp only
          exact often_loop1 ids budget times (by omega) (by omega) (by omega) (by omega) ids [] [] 0 BIG rfl (Nat.le_refl _) ⟨by simp, by simp, by simp, rfl⟩ (by rw [BIG_eq]; omega)
theorem queueOften_envOk : EnvOk Try.prog law22_QueueOften_E := env_ok (l := [(15, s_law22_awake), (16, s_queue_New), (17, s_queue_Queue_Put), (21, s_queue_Queue_Take)]) th_ok any_ok ⟨⟨s_law22_awake_ok, s_law22_awake_det⟩, ⟨s_queue_New_ok, s_queue_New_det⟩, ⟨s_queue_Queue_Put_ok, s_queue_Queue_Put_det⟩, ⟨s_queue_Queue_Take_ok, s_queue_Queue_Take_det⟩, trivial⟩ _
theorem queueOften_tells (ids : List Int) (budget : Int) (times : Int)  : denF law22_QueueOften_E loopN BIG Try.f6 [.raw] [.d (.sl (.int .i64)) ids, .d (.int .i64) budget, .d (.int .i64) times] [] isTrue = some () := by
  rw [denF_any queueOften_envOk.D ((law22_QueueOften.eq BIG ids budget times).trans (QueueOften.pure ids budget times)) (out := [.d .bool true]) (os := []) (fun rs ros hk => by
    unfold law22_QueueOften.k at hk
    split at hk
    · first | (cases hk; exact ⟨rfl, rfl⟩) | (have e := Option.some.inj hk; rw [← e]; exact ⟨rfl, rfl⟩)
    · cases hk)]
  rfl
set_option maxRecDepth 100000 in
theorem queueOften_lifted (os : Os) (started : os.Started) (H : Type) (enc : TypeId × Value → H) :
    ReturnsInHanded {} Try.checked os 6 .any (Rows.queueOftenSpec.pre6 enc Try.prog Try.f6 Rows.queueOftenRow.domain false) (Rows.queueOftenSpec.post enc Try.prog Try.f6 false true false false) := by
  refine returnsInHanded_of_change_sized (C := Try.checked) Try.own started (by kernel_rfl) Try.func6
    (ChangeSpec.witness6 (enc := enc) (C := Try.checked) false ⟨#[], #[.slice none 0 0, .int .i64 0, .int .i64 0], []⟩ 8 (by kernel_rfl) (by kernel_rfl) (by kernel_rfl) (by kernel_rfl)) ?_
  intro W base args ds gs before hval hW _ hwt _
  exact law_contract queueOften_envOk Try.func6 rfl [(.sl (.int .i64), false), (.int .i64, false), (.int .i64, false)] (tb := 4) (by kernel_rfl) (by kernel_rfl) (by kernel_rfl) rfl
    (fun ds h => by match ds, h with | [_, _, _], _ => rfl) Try.laidOut Try.mapsRow Try.slicesSize (fun y hg => ⟨BIG, queueOften_tells y.1 y.2.1 y.2.2.1⟩) W base args ds gs before hval hW hwt
theorem queueOften_holds : Rows.QueueOftenSaid :=
  OpenClaim.holds_of_wide 6 Try.f6 rfl rfl rfl rfl rfl rfl rfl ⟨rfl, rfl, rfl, rfl, rfl⟩ rfl rfl rfl rfl rfl (by kernel_rfl) Try.func6 (by kernel_rfl)
    (of_decide_eq_true (by kernel_rfl)) (by unfold Func.isWrapper; first | (rw [if_pos (by decide +kernel)]; kernel_rfl) | (rw [if_neg (by decide +kernel)]; exact ⟨rfl, rfl⟩))
    (fun os started H enc _ => queueOften_lifted os started H enc)
end Go.Proofs.Ytkfiohbhihmcnaa
