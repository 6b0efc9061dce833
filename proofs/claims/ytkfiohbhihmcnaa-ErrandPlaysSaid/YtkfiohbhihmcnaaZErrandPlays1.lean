/- ErrandPlays: whatever acts are given, the law returns true, and the input reads as it did. There is no condition. -/
import Derived.Test.YtkfiohbhihmcnaaEv3
import Derived.Test.YtkfiohbhihmcnaaRows
import Derived.Test.YtkfiohbhihmcnaaTh
import Derived.KernelRfl
import Derived.Laws.BitsLemmas
set_option linter.unusedVariables false
set_option linter.unusedSimpArgs false
set_option maxRecDepth 100000
namespace Go.Proofs.Ytkfiohbhihmcnaa
open Go.Den
theorem Try.own : ownKnob Try.prog.godebug = none := by kernel_rfl
theorem Try.laidOut : laidOutB Try.prog = true := by kernel_rfl
theorem Try.mapsRow : mapsRowed Try.prog = true := by kernel_rfl
theorem Try.slicesSize : slicesSized Try.prog = true := by kernel_rfl
noncomputable def BIG : Nat := veil 1099511627776
theorem BIG_eq : BIG = 1099511627776 := veil_eq _
theorem big_eq : BIG = (BIG - 1) + 1 := by rw [BIG_eq]
theorem any_ok : Try.prog.follows .mixedOrders = true := by kernel_rfl
theorem wrap_small (n : Int) (h0 : -9223372036854775808 ≤ n) (h1 : n < 9223372036854775808) : Go.IntKind.wrap .i64 n = n := by
  rw [Go.IntKind.wrap_i64]; omega
theorem idx_at {α : Type} (l : List α) (i : Nat) : idx l (i : Int) = l[i]? := by
  unfold idx
  rw [if_pos (by omega)]
  simp
noncomputable def errand_New_E : Env := ⟨th, gam [], fun i => ⟨[], [], []⟩⟩
noncomputable def errand_New.k (rs : List AV) (os : List Den.Obj) : Option Unit :=
  match rs, os with
  | [.ptr 0 0], [.box [.nilsl]] => some ()
  | _, _ => none
noncomputable def errand_New.b (u : Unit) : Option Unit :=
  some ()
noncomputable def errand_New.f (fuel : Nat) (u : Unit) : Option Unit := errand_New.b u
theorem errand_New.eq (fuel : Nat) (u : Unit) : (denF errand_New_E loopN fuel Try.f9 [.raw] [] [] errand_New.k) = errand_New.f fuel u := by
  kernel_rfl
noncomputable def s_errand_New : Den.Sum := ⟨[], fun args objs κ => match args, objs with
  | [], [] => (match veil (errand_New.f BIG ()) with | none => none | some y => κ [.ptr 0 0] [.box [.nilsl]])
  | _, _ => none⟩
theorem s_errand_New_det : SumDet s_errand_New := fun avs objs R κ => by
  show s_errand_New.run avs objs (two κ) = (s_errand_New.run avs objs (two some)).bind κ
  unfold s_errand_New
  simp only [veil_eq]
  split
  · split <;> rfl
  · rfl
theorem s_errand_New_ok : SumOk Try.prog 9 s_errand_New := by
  have hE : EnvOk Try.prog errand_New_E := env_ok (l := []) th_ok any_ok trivial _
  refine sum_ok hE Try.func9 rfl (by kernel_rfl) s_errand_New [.raw] errand_New.k ?_
  intro R avs objs κ r h
  unfold s_errand_New at h
  simp only [veil_eq] at h
  split at h
  · skip
    split at h
    · cases h
    · rename_i y hy
      refine ⟨BIG, _, _, _, (errand_New.eq BIG ()).trans hy, ?_, h⟩
      intro rs ros hk
      unfold errand_New.k at hk
      split at hk
      · first | (cases hk; exact ⟨rfl, rfl⟩) | (have e := Option.some.inj hk; rw [← e]; exact ⟨rfl, rfl⟩)
      · cases hk
  · cases h
noncomputable def law29_like_E : Env := ⟨th, gam [], fun i => ⟨[], [], []⟩⟩
noncomputable def law29_like.k (rs : List AV) (os : List Den.Obj) : Option Bool :=
  match rs, os with
  | [.d .bool r0], [] => some r0
  | _, _ => none
noncomputable def law29_like.b (aSeq : Int) (aTarget : Int) (aTo : Int) (aBack : Int) (aUntil : Int) (bSeq : Int) (bTarget : Int) (bTo : Int) (bBack : Int) (bUntil : Int) : Option Bool :=
  (if (aSeq == bSeq) then (if (aTarget == bTarget) then (if (aTo == bTo) then (if (aBack == bBack) then some ((aUntil == bUntil)) else some (false)) else some (false)) else some (false)) else some (false))
noncomputable def law29_like.f (fuel : Nat) (aSeq : Int) (aTarget : Int) (aTo : Int) (aBack : Int) (aUntil : Int) (bSeq : Int) (bTarget : Int) (bTo : Int) (bBack : Int) (bUntil : Int) : Option Bool := law29_like.b aSeq aTarget aTo aBack aUntil bSeq bTarget bTo bBack bUntil
theorem law29_like.eq (fuel : Nat) (aSeq : Int) (aTarget : Int) (aTo : Int) (aBack : Int) (aUntil : Int) (bSeq : Int) (bTarget : Int) (bTo : Int) (bBack : Int) (bUntil : Int) : (denF law29_like_E loopN fuel Try.f12 [.raw] [.agg [.d (.int .i64) aSeq, .d (.int .i64) aTarget, .d (.int .i64) aTo, .d (.int .i64) aBack, .d (.int .i64) aUntil], .agg [.d (.int .i64) bSeq, .d (.int .i64) bTarget, .d (.int .i64) bTo, .d (.int .i64) bBack, .d (.int .i64) bUntil]] [] law29_like.k) = law29_like.f fuel aSeq aTarget aTo aBack aUntil bSeq bTarget bTo bBack bUntil := by
  kernel_rfl
noncomputable def s_law29_like : Den.Sum := ⟨[.dat (.pair (.int .i64) (.pair (.int .i64) (.pair (.int .i64) (.pair (.int .i64) (.int .i64))))) true, .dat (.pair (.int .i64) (.pair (.int .i64) (.pair (.int .i64) (.pair (.int .i64) (.int .i64))))) true], fun args objs κ => match args, objs with
  | [.agg [.d (.int .i64) aSeq, .d (.int .i64) aTarget, .d (.int .i64) aTo, .d (.int .i64) aBack, .d (.int .i64) aUntil], .agg [.d (.int .i64) bSeq, .d (.int .i64) bTarget, .d (.int .i64) bTo, .d (.int .i64) bBack, .d (.int .i64) bUntil]], [] => (match veil (law29_like.f BIG aSeq aTarget aTo aBack aUntil bSeq bTarget bTo bBack bUntil) with | none => none | some y => κ [.d .bool y] [])
  | _, _ => none⟩
theorem s_law29_like_det : SumDet s_law29_like := fun avs objs R κ => by
  show s_law29_like.run avs objs (two κ) = (s_law29_like.run avs objs (two some)).bind κ
  unfold s_law29_like
  simp only [veil_eq]
  split
  · split <;> rfl
  · rfl
theorem s_law29_like_ok : SumOk Try.prog 12 s_law29_like := by
  have hE : EnvOk Try.prog law29_like_E := env_ok (l := []) th_ok any_ok trivial _
  refine sum_ok hE Try.func12 rfl (by kernel_rfl) s_law29_like [.raw] law29_like.k ?_
  intro R avs objs κ r h
  unfold s_law29_like at h
  simp only [veil_eq] at h
  split at h
  · rename_i aSeq aTarget aTo aBack aUntil bSeq bTarget bTo bBack bUntil
    split at h
    · cases h
    · rename_i y hy
      refine ⟨BIG, _, _, _, (law29_like.eq BIG aSeq aTarget aTo aBack aUntil bSeq bTarget bTo bBack bUntil).trans hy, ?_, h⟩
      intro rs ros hk
      unfold law29_like.k at hk
      split at hk
      · first | (cases hk; exact ⟨rfl, rfl⟩) | (have e := Option.some.inj hk; rw [← e]; exact ⟨rfl, rfl⟩)
      · cases hk
  · cases h
noncomputable def errand_List_All_E : Env := ⟨th, gam [], fun i => if i = 5 then ⟨[3, 11, 12, 13], [(3, 28, (.pair (.int .i64) (.pair (.int .i64) (.pair (.int .i64) (.pair (.int .i64) (.int .i64))))))], []⟩ else ⟨[], [], []⟩⟩
noncomputable def errand_List_All.k (rs : List AV) (os : List Den.Obj) : Option ((List (Int × (Int × (Int × (Int × Int))))) × (List (Int × (Int × (Int × (Int × Int)))))) :=
  match rs, os with
  | [.row 3], [.box [.row 2], .gone, .row 88 (.pair (.int .i64) (.pair (.int .i64) (.pair (.int .i64) (.pair (.int .i64) (.int .i64))))) r0 false, .row 28 (.pair (.int .i64) (.pair (.int .i64) (.pair (.int .i64) (.pair (.int .i64) (.int .i64))))) r1 false] => some (r0, r1)
  | _, _ => none
noncomputable def errand_List_All.s5 (l : List (Int × Int × Int × Int × Int)) (x0 : Int) (x1 : Int) (x2 : (List (Int × (Int × (Int × (Int × Int)))))) : St := ⟨[.dead, .dead, .dead, .row 64, .dead, .dead, .dead, .dead, .dead, .dead, .dead, .row 1, .d (.int .i64) x0, .d (.int .i64) x1, .dead, .dead, .dead, .dead, .dead, .dead, .dead, .dead, .dead, .dead], ofL [(0, .box [.row 1]), (1, .row 88 (.pair (.int .i64) (.pair (.int .i64) (.pair (.int .i64) (.pair (.int .i64) (.int .i64))))) (l) false), (64, .row 28 (.pair (.int .i64) (.pair (.int .i64) (.pair (.int .i64) (.pair (.int .i64) (.int .i64))))) x2 false)], 2⟩
noncomputable def errand_List_All.b5 (l : List (Int × Int × Int × Int × Int)) (A5 : Int → Int → (List (Int × (Int × (Int × (Int × Int))))) → Option ((List (Int × (Int × (Int × (Int × Int))))) × (List (Int × (Int × (Int × (Int × Int))))))) (x0 : Int) (x1 : Int) (x2 : (List (Int × (Int × (Int × (Int × Int)))))) : Option ((List (Int × (Int × (Int × (Int × Int))))) × (List (Int × (Int × (Int × (Int × Int)))))) :=
  (if (decide (x1 < x0)) then (match (idx l x1) with | none => none | some y3 => (match (idx l x1) with | none => none | some y4 => (if ((((List.length x2) + (List.length ((y4.1, (y4.2.1, (y4.2.2.1, (y4.2.2.2.1, y4.2.2.2.2)))) :: ([] : List (Int × (Int × (Int × (Int × Int)))))))) * (40 : Nat)) ≤ lim) then A5 x0 (Go.IntKind.wrap .i64 (x1 + (1 : Int))) (x2 ++ ((y4.1, (y4.2.1, (y4.2.2.1, (y4.2.2.2.1, y4.2.2.2.2)))) :: ([] : List (Int × (Int × (Int × (Int × Int))))))) else none))) else some (l, x2))
noncomputable def errand_List_All.l5 (fuel : Nat) (l : List (Int × Int × Int × Int × Int)) : Nat → Int → Int → (List (Int × (Int × (Int × (Int × Int))))) → Option ((List (Int × (Int × (Int × (Int × Int))))) × (List (Int × (Int × (Int × (Int × Int))))))
  | 0, _, _, _ => none
  | k + 1, x0, x1, x2 => errand_List_All.b5 l (errand_List_All.l5 fuel l k) x0 x1 x2
noncomputable def errand_List_All.b (l : List (Int × Int × Int × Int × Int)) (E5 : Int → Int → (List (Int × (Int × (Int × (Int × Int))))) → Option ((List (Int × (Int × (Int × (Int × Int))))) × (List (Int × (Int × (Int × (Int × Int))))))) : Option ((List (Int × (Int × (Int × (Int × Int))))) × (List (Int × (Int × (Int × (Int × Int)))))) :=
  E5 ((((List.length l)) : Nat) : Int) (0 : Int) ([] : List (Int × (Int × (Int × (Int × Int)))))
noncomputable def errand_List_All.f (fuel : Nat) (l : List (Int × Int × Int × Int × Int)) : Option ((List (Int × (Int × (Int × (Int × Int))))) × (List (Int × (Int × (Int × (Int × Int)))))) := errand_List_All.b l (errand_List_All.l5 fuel l fuel)
theorem errand_List_All.l5_eq (fuel : Nat) (l : List (Int × Int × Int × Int × Int)) : ∀ (k : Nat) (x0 : Int) (x1 : Int) (x2 : (List (Int × (Int × (Int × (Int × Int)))))), lp errand_List_All_E fuel Try.f14 [.own 28 (.pair (.int .i64) (.pair (.int .i64) (.pair (.int .i64) (.pair (.int .i64) (.int .i64))))), .pb [.own (some 0) [] 0 88 (.pair (.int .i64) (.pair (.int .i64) (.pair (.int .i64) (.pair (.int .i64) (.int .i64))))) true, .kill 1]] 2 errand_List_All.k 5 [] k (errand_List_All.s5 l x0 x1 x2) = errand_List_All.l5 fuel l k x0 x1 x2 := by
  intro k
  induction k with
  | zero => intro x0 x1 x2; rfl
  | succ k ih =>
    intro x0 x1 x2
    have h : lp errand_List_All_E fuel Try.f14 [.own 28 (.pair (.int .i64) (.pair (.int .i64) (.pair (.int .i64) (.pair (.int .i64) (.int .i64))))), .pb [.own (some 0) [] 0 88 (.pair (.int .i64) (.pair (.int .i64) (.pair (.int .i64) (.pair (.int .i64) (.int .i64))))) true, .kill 1]] 2 errand_List_All.k 5 [] (k + 1) (errand_List_All.s5 l x0 x1 x2) = errand_List_All.b5 l (fun x0 x1 x2 => lp errand_List_All_E fuel Try.f14 [.own 28 (.pair (.int .i64) (.pair (.int .i64) (.pair (.int .i64) (.pair (.int .i64) (.int .i64))))), .pb [.own (some 0) [] 0 88 (.pair (.int .i64) (.pair (.int .i64) (.pair (.int .i64) (.pair (.int .i64) (.int .i64))))) true, .kill 1]] 2 errand_List_All.k 5 [] k (errand_List_All.s5 l x0 x1 x2)) x0 x1 x2 := by kernel_rfl
    rw [h]
    have e5 : (fun x0 x1 x2 => lp errand_List_All_E fuel Try.f14 [.own 28 (.pair (.int .i64) (.pair (.int .i64) (.pair (.int .i64) (.pair (.int .i64) (.int .i64))))), .pb [.own (some 0) [] 0 88 (.pair (.int .i64) (.pair (.int .i64) (.pair (.int .i64) (.pair (.int .i64) (.int .i64))))) true, .kill 1]] 2 errand_List_All.k 5 [] k (errand_List_All.s5 l x0 x1 x2)) = errand_List_All.l5 fuel l k := (funext fun x0 => (funext fun x1 => (funext fun x2 => ih x0 x1 x2)))
    rw [e5]
    rfl
theorem errand_List_All.eq (fuel : Nat) (l : List (Int × Int × Int × Int × Int)) : (denF errand_List_All_E loopN fuel Try.f14 [.own 28 (.pair (.int .i64) (.pair (.int .i64) (.pair (.int .i64) (.pair (.int .i64) (.int .i64))))), .pb [.own (some 0) [] 0 88 (.pair (.int .i64) (.pair (.int .i64) (.pair (.int .i64) (.pair (.int .i64) (.int .i64))))) true, .kill 1]] [.ptr 0 0] [.box [.row 1], .row 88 (.pair (.int .i64) (.pair (.int .i64) (.pair (.int .i64) (.pair (.int .i64) (.int .i64))))) l false] errand_List_All.k) = errand_List_All.f fuel l := by
  have h : (denF errand_List_All_E loopN fuel Try.f14 [.own 28 (.pair (.int .i64) (.pair (.int .i64) (.pair (.int .i64) (.pair (.int .i64) (.int .i64))))), .pb [.own (some 0) [] 0 88 (.pair (.int .i64) (.pair (.int .i64) (.pair (.int .i64) (.pair (.int .i64) (.int .i64))))) true, .kill 1]] [.ptr 0 0] [.box [.row 1], .row 88 (.pair (.int .i64) (.pair (.int .i64) (.pair (.int .i64) (.pair (.int .i64) (.int .i64))))) l false] errand_List_All.k) = errand_List_All.b l (fun x0 x1 x2 => lp errand_List_All_E fuel Try.f14 [.own 28 (.pair (.int .i64) (.pair (.int .i64) (.pair (.int .i64) (.pair (.int .i64) (.int .i64))))), .pb [.own (some 0) [] 0 88 (.pair (.int .i64) (.pair (.int .i64) (.pair (.int .i64) (.pair (.int .i64) (.int .i64))))) true, .kill 1]] 2 errand_List_All.k 5 [] fuel (errand_List_All.s5 l x0 x1 x2)) := by kernel_rfl
  rw [h]
  have e5 : (fun x0 x1 x2 => lp errand_List_All_E fuel Try.f14 [.own 28 (.pair (.int .i64) (.pair (.int .i64) (.pair (.int .i64) (.pair (.int .i64) (.int .i64))))), .pb [.own (some 0) [] 0 88 (.pair (.int .i64) (.pair (.int .i64) (.pair (.int .i64) (.pair (.int .i64) (.int .i64))))) true, .kill 1]] 2 errand_List_All.k 5 [] fuel (errand_List_All.s5 l x0 x1 x2)) = errand_List_All.l5 fuel l fuel := (funext fun x0 => (funext fun x1 => (funext fun x2 => errand_List_All.l5_eq fuel l fuel x0 x1 x2)))
  rw [e5]
  rfl
theorem errand_List_All.l5_at (fuel nN kK : Nat) (hN : nN = kK + 1) (l : List (Int × Int × Int × Int × Int)) (x0 : Int) (x1 : Int) (x2 : (List (Int × (Int × (Int × (Int × Int)))))) : errand_List_All.l5 fuel l nN x0 x1 x2 = errand_List_All.b5 l (errand_List_All.l5 fuel l kK) x0 x1 x2 := by
  subst hN
  rfl
noncomputable def s_errand_List_All : Den.Sum := ⟨[.pb [.own none [] 0 88 (.pair (.int .i64) (.pair (.int .i64) (.pair (.int .i64) (.pair (.int .i64) (.int .i64))))) false]], fun args objs κ => match args, objs with
  | [.ptr 0 0], [.box [.row 1], .row 88 (.pair (.int .i64) (.pair (.int .i64) (.pair (.int .i64) (.pair (.int .i64) (.int .i64))))) l false] => (match veil (errand_List_All.f BIG l) with | none => none | some y => κ [.row 3] [.box [.row 2], .gone, .row 88 (.pair (.int .i64) (.pair (.int .i64) (.pair (.int .i64) (.pair (.int .i64) (.int .i64))))) y.1 false, .row 28 (.pair (.int .i64) (.pair (.int .i64) (.pair (.int .i64) (.pair (.int .i64) (.int .i64))))) y.2 false])
  | _, _ => none⟩
theorem s_errand_List_All_det : SumDet s_errand_List_All := fun avs objs R κ => by
  show s_errand_List_All.run avs objs (two κ) = (s_errand_List_All.run avs objs (two some)).bind κ
  unfold s_errand_List_All
  simp only [veil_eq]
  split
  · split <;> rfl
  · rfl
theorem s_errand_List_All_ok : SumOk Try.prog 14 s_errand_List_All := by
  have hE : EnvOk Try.prog errand_List_All_E := env_ok (l := []) th_ok any_ok trivial _
  refine sum_ok hE Try.func14 rfl (by kernel_rfl) s_errand_List_All [.own 28 (.pair (.int .i64) (.pair (.int .i64) (.pair (.int .i64) (.pair (.int .i64) (.int .i64))))), .pb [.own (some 0) [] 0 88 (.pair (.int .i64) (.pair (.int .i64) (.pair (.int .i64) (.pair (.int .i64) (.int .i64))))) true, .kill 1]] errand_List_All.k ?_
  intro R avs objs κ r h
  unfold s_errand_List_All at h
  simp only [veil_eq] at h
  split at h
  · rename_i l
    split at h
    · cases h
    · rename_i y hy
      refine ⟨BIG, _, _, _, (errand_List_All.eq BIG l).trans hy, ?_, h⟩
      intro rs ros hk
      unfold errand_List_All.k at hk
      split at hk
      · first | (cases hk; exact ⟨rfl, rfl⟩) | (have e := Option.some.inj hk; rw [← e]; exact ⟨rfl, rfl⟩)
      · cases hk
  · cases h
noncomputable def errand_List_Put_c1_E : Env := ⟨th, gam [], fun i => ⟨[], [], []⟩⟩
noncomputable def errand_List_Put_c1.k (rs : List AV) (os : List Den.Obj) : Option (Bool × Int × Int × Int × Int × Int) :=
  match rs, os with
  | [.d .bool r0], [.box [.d (.int .i64) r1, .d (.int .i64) r2, .d (.int .i64) r3, .d (.int .i64) r4, .d (.int .i64) r5]] => some (r0, r1, r2, r3, r4, r5)
  | _, _ => none
noncomputable def errand_List_Put_c1.b (r0ErrandSeq : Int) (r0ErrandTarget : Int) (r0ErrandTo : Int) (r0ErrandBack : Int) (r0ErrandUntil : Int) (eSeq : Int) (eTarget : Int) (eTo : Int) (eBack : Int) (eUntil : Int) : Option (Bool × Int × Int × Int × Int × Int) :=
  some ((r0ErrandSeq == eSeq), eSeq, eTarget, eTo, eBack, eUntil)
noncomputable def errand_List_Put_c1.f (fuel : Nat) (r0ErrandSeq : Int) (r0ErrandTarget : Int) (r0ErrandTo : Int) (r0ErrandBack : Int) (r0ErrandUntil : Int) (eSeq : Int) (eTarget : Int) (eTo : Int) (eBack : Int) (eUntil : Int) : Option (Bool × Int × Int × Int × Int × Int) := errand_List_Put_c1.b r0ErrandSeq r0ErrandTarget r0ErrandTo r0ErrandBack r0ErrandUntil eSeq eTarget eTo eBack eUntil
theorem errand_List_Put_c1.eq (fuel : Nat) (r0ErrandSeq : Int) (r0ErrandTarget : Int) (r0ErrandTo : Int) (r0ErrandBack : Int) (r0ErrandUntil : Int) (eSeq : Int) (eTarget : Int) (eTo : Int) (eBack : Int) (eUntil : Int) : (denF errand_List_Put_c1_E loopN fuel Try.f37 [.raw] [.agg [.d (.int .i64) r0ErrandSeq, .d (.int .i64) r0ErrandTarget, .d (.int .i64) r0ErrandTo, .d (.int .i64) r0ErrandBack, .d (.int .i64) r0ErrandUntil], .ptr 0 0] [.box [.d (.int .i64) eSeq, .d (.int .i64) eTarget, .d (.int .i64) eTo, .d (.int .i64) eBack, .d (.int .i64) eUntil]] errand_List_Put_c1.k) = errand_List_Put_c1.f fuel r0ErrandSeq r0ErrandTarget r0ErrandTo r0ErrandBack r0ErrandUntil eSeq eTarget eTo eBack eUntil := by
  kernel_rfl
noncomputable def s_errand_List_Put_c1 : Den.Sum := ⟨[.dat (.pair (.int .i64) (.pair (.int .i64) (.pair (.int .i64) (.pair (.int .i64) (.int .i64))))) true, .raw], fun args objs κ => match args, objs with
  | [.agg [.d (.int .i64) r0ErrandSeq, .d (.int .i64) r0ErrandTarget, .d (.int .i64) r0ErrandTo, .d (.int .i64) r0ErrandBack, .d (.int .i64) r0ErrandUntil], .ptr 0 0], [.box [.d (.int .i64) eSeq, .d (.int .i64) eTarget, .d (.int .i64) eTo, .d (.int .i64) eBack, .d (.int .i64) eUntil]] => (match veil (errand_List_Put_c1.f BIG r0ErrandSeq r0ErrandTarget r0ErrandTo r0ErrandBack r0ErrandUntil eSeq eTarget eTo eBack eUntil) with | none => none | some y => κ [.d .bool y.1] [.box [.d (.int .i64) y.2.1, .d (.int .i64) y.2.2.1, .d (.int .i64) y.2.2.2.1, .d (.int .i64) y.2.2.2.2.1, .d (.int .i64) y.2.2.2.2.2]])
  | _, _ => none⟩
theorem s_errand_List_Put_c1_det : SumDet s_errand_List_Put_c1 := fun avs objs R κ => by
  show s_errand_List_Put_c1.run avs objs (two κ) = (s_errand_List_Put_c1.run avs objs (two some)).bind κ
  unfold s_errand_List_Put_c1
  simp only [veil_eq]
  split
  · split <;> rfl
  · rfl
theorem s_errand_List_Put_c1_ok : SumOk Try.prog 37 s_errand_List_Put_c1 := by
  have hE : EnvOk Try.prog errand_List_Put_c1_E := env_ok (l := []) th_ok any_ok trivial _
  refine sum_ok hE Try.func37 rfl (by kernel_rfl) s_errand_List_Put_c1 [.raw] errand_List_Put_c1.k ?_
  intro R avs objs κ r h
  unfold s_errand_List_Put_c1 at h
  simp only [veil_eq] at h
  split at h
  · rename_i r0ErrandSeq r0ErrandTarget r0ErrandTo r0ErrandBack r0ErrandUntil eSeq eTarget eTo eBack eUntil
    split at h
    · cases h
    · rename_i y hy
      refine ⟨BIG, _, _, _, (errand_List_Put_c1.eq BIG r0ErrandSeq r0ErrandTarget r0ErrandTo r0ErrandBack r0ErrandUntil eSeq eTarget eTo eBack eUntil).trans hy, ?_, h⟩
      intro rs ros hk
      unfold errand_List_Put_c1.k at hk
      split at hk
      · first | (cases hk; exact ⟨rfl, rfl⟩) | (have e := Option.some.inj hk; rw [← e]; exact ⟨rfl, rfl⟩)
      · cases hk
  · cases h
noncomputable def slices_Delete_errand_row_errand_row_E : Env := ⟨th, gam [], fun i => if i = 888888 then ⟨[1], [], []⟩ else ⟨[], [], []⟩⟩
noncomputable def slices_Delete_errand_row_errand_row.k (rs : List AV) (os : List Den.Obj) : Option (List (Int × (Int × (Int × (Int × Int))))) :=
  match rs, os with
  | [.row 1], [.gone, .row 88 (.pair (.int .i64) (.pair (.int .i64) (.pair (.int .i64) (.pair (.int .i64) (.int .i64))))) r0 false] => some r0
  | _, _ => none
noncomputable def slices_Delete_errand_row_errand_row.b (s : List (Int × Int × Int × Int × Int)) (i : Int) (j : Int) : Option (List (Int × (Int × (Int × (Int × Int))))) :=
  (if (((0 : Int) ≤ j) ∧ ((j ≤ ((((List.length s)) : Nat) : Int)) ∧ (((((List.length s)) : Nat) : Int) ≤ ((((List.length s)) : Nat) : Int)))) then (if (((0 : Int) ≤ i) ∧ (i ≤ j)) then (if (i == j) then some (s) else (if (((0 : Int) ≤ i) ∧ (i ≤ ((((List.length s)) : Nat) : Int))) then (if (((0 : Int) ≤ j) ∧ (j ≤ ((((List.length s)) : Nat) : Int))) then (if (((Int.toNat j) ≤ (List.length s)) ∧ ((List.length s) ≤ (List.length s))) then (if (((Int.toNat i) + (List.length (List.drop (Int.toNat j) (List.take (List.length s) s)))) ≤ (List.length s)) then (if (((0 : Nat) ≤ ((Int.toNat i) + (List.length (List.drop (Int.toNat j) (List.take (List.length s) s))))) ∧ (((Int.toNat i) + (List.length (List.drop (Int.toNat j) (List.take (List.length s) s)))) ≤ (List.length (((List.take (Int.toNat i) s) ++ (List.drop (Int.toNat j) (List.take (List.length s) s))) ++ (List.drop ((Int.toNat i) + (List.length (List.drop (Int.toNat j) (List.take (List.length s) s)))) s))))) then (if (((0 : Int) ≤ ((((((Int.toNat i) + (List.length (List.drop (Int.toNat j) (List.take (List.length s) s)))) - (0 : Nat))) : Nat) : Int)) ∧ ((((((((Int.toNat i) + (List.length (List.drop (Int.toNat j) (List.take (List.length s) s)))) - (0 : Nat))) : Nat) : Int) ≤ ((((List.length s)) : Nat) : Int)) ∧ (((((List.length s)) : Nat) : Int) ≤ (((((List.length (((List.take (Int.toNat i) s) ++ (List.drop (Int.toNat j) (List.take (List.length s) s))) ++ (List.drop ((Int.toNat i) + (List.length (List.drop (Int.toNat j) (List.take (List.length s) s)))) s))) - (0 : Nat))) : Nat) : Int)))) then (if ((((0 : Nat) + (Int.toNat ((((((Int.toNat i) + (List.length (List.drop (Int.toNat j) (List.take (List.length s) s)))) - (0 : Nat))) : Nat) : Int))) ≤ ((0 : Nat) + (Int.toNat ((((List.length s)) : Nat) : Int)))) ∧ (((0 : Nat) + (Int.toNat ((((List.length s)) : Nat) : Int))) ≤ (List.length (((List.take (Int.toNat i) s) ++ (List.drop (Int.toNat j) (List.take (List.length s) s))) ++ (List.drop ((Int.toNat i) + (List.length (List.drop (Int.toNat j) (List.take (List.length s) s)))) s))))) then (if (((0 : Nat) = (0 : Nat)) ∧ (((Int.toNat i) + (List.length (List.drop (Int.toNat j) (List.take (List.length s) s)))) ≤ (List.length (((List.take ((0 : Nat) + (Int.toNat ((((((Int.toNat i) + (List.length (List.drop (Int.toNat j) (List.take (List.length s) s)))) - (0 : Nat))) : Nat) : Int))) (((List.take (Int.toNat i) s) ++ (List.drop (Int.toNat j) (List.take (List.length s) s))) ++ (List.drop ((Int.toNat i) + (List.length (List.drop (Int.toNat j) (List.take (List.length s) s)))) s))) ++ (List.replicate (((0 : Nat) + (Int.toNat ((((List.length s)) : Nat) : Int))) - ((0 : Nat) + (Int.toNat ((((((Int.toNat i) + (List.length (List.drop (Int.toNat j) (List.take (List.length s) s)))) - (0 : Nat))) : Nat) : Int)))) (zeroI (Go.Den.Ty.pair (Go.Den.Ty.int .i64) (Go.Den.Ty.pair (Go.Den.Ty.int .i64) (Go.Den.Ty.pair (Go.Den.Ty.int .i64) (Go.Den.Ty.pair (Go.Den.Ty.int .i64) (Go.Den.Ty.int .i64)))))))) ++ (List.drop ((0 : Nat) + (Int.toNat ((((List.length s)) : Nat) : Int))) (((List.take (Int.toNat i) s) ++ (List.drop (Int.toNat j) (List.take (List.length s) s))) ++ (List.drop ((Int.toNat i) + (List.length (List.drop (Int.toNat j) (List.take (List.length s) s)))) s))))))) then some ((List.take ((Int.toNat i) + (List.length (List.drop (Int.toNat j) (List.take (List.length s) s)))) (((List.take ((0 : Nat) + (Int.toNat ((((((Int.toNat i) + (List.length (List.drop (Int.toNat j) (List.take (List.length s) s)))) - (0 : Nat))) : Nat) : Int))) (((List.take (Int.toNat i) s) ++ (List.drop (Int.toNat j) (List.take (List.length s) s))) ++ (List.drop ((Int.toNat i) + (List.length (List.drop (Int.toNat j) (List.take (List.length s) s)))) s))) ++ (List.replicate (((0 : Nat) + (Int.toNat ((((List.length s)) : Nat) : Int))) - ((0 : Nat) + (Int.toNat ((((((Int.toNat i) + (List.length (List.drop (Int.toNat j) (List.take (List.length s) s)))) - (0 : Nat))) : Nat) : Int)))) (zeroI (Go.Den.Ty.pair (Go.Den.Ty.int .i64) (Go.Den.Ty.pair (Go.Den.Ty.int .i64) (Go.Den.Ty.pair (Go.Den.Ty.int .i64) (Go.Den.Ty.pair (Go.Den.Ty.int .i64) (Go.Den.Ty.int .i64)))))))) ++ (List.drop ((0 : Nat) + (Int.toNat ((((List.length s)) : Nat) : Int))) (((List.take (Int.toNat i) s) ++ (List.drop (Int.toNat j) (List.take (List.length s) s))) ++ (List.drop ((Int.toNat i) + (List.length (List.drop (Int.toNat j) (List.take (List.length s) s)))) s)))))) else none) else none) else none) else none) else none) else none) else none) else none)) else none) else none)
noncomputable def slices_Delete_errand_row_errand_row.f (fuel : Nat) (s : List (Int × Int × Int × Int × Int)) (i : Int) (j : Int) : Option (List (Int × (Int × (Int × (Int × Int))))) := slices_Delete_errand_row_errand_row.b s i j
theorem slices_Delete_errand_row_errand_row.eq (fuel : Nat) (s : List (Int × Int × Int × Int × Int)) (i : Int) (j : Int) : (denF slices_Delete_errand_row_errand_row_E loopN fuel Try.f38 [.mv 88 (.pair (.int .i64) (.pair (.int .i64) (.pair (.int .i64) (.pair (.int .i64) (.int .i64)))))] [.row 0, .d (.int .i64) i, .d (.int .i64) j] [.row 88 (.pair (.int .i64) (.pair (.int .i64) (.pair (.int .i64) (.pair (.int .i64) (.int .i64))))) s false] slices_Delete_errand_row_errand_row.k) = slices_Delete_errand_row_errand_row.f fuel s i j := by
  kernel_rfl
noncomputable def s_slices_Delete_errand_row_errand_row : Den.Sum := ⟨[.own 88 (.pair (.int .i64) (.pair (.int .i64) (.pair (.int .i64) (.pair (.int .i64) (.int .i64))))), .raw, .raw], fun args objs κ => match args, objs with
  | [.row 0, .d (.int .i64) i, .d (.int .i64) j], [.row 88 (.pair (.int .i64) (.pair (.int .i64) (.pair (.int .i64) (.pair (.int .i64) (.int .i64))))) s false] => (match veil (slices_Delete_errand_row_errand_row.f BIG s i j) with | none => none | some y => κ [.row 1] [.gone, .row 88 (.pair (.int .i64) (.pair (.int .i64) (.pair (.int .i64) (.pair (.int .i64) (.int .i64))))) y false])
  | _, _ => none⟩
theorem s_slices_Delete_errand_row_errand_row_det : SumDet s_slices_Delete_errand_row_errand_row := fun avs objs R κ => by
  show s_slices_Delete_errand_row_errand_row.run avs objs (two κ) = (s_slices_Delete_errand_row_errand_row.run avs objs (two some)).bind κ
  unfold s_slices_Delete_errand_row_errand_row
  simp only [veil_eq]
  split
  · split <;> rfl
  · rfl
theorem s_slices_Delete_errand_row_errand_row_ok : SumOk Try.prog 38 s_slices_Delete_errand_row_errand_row := by
  have hE : EnvOk Try.prog slices_Delete_errand_row_errand_row_E := env_ok (l := []) th_ok any_ok trivial _
  refine sum_ok hE Try.func38 rfl (by kernel_rfl) s_slices_Delete_errand_row_errand_row [.mv 88 (.pair (.int .i64) (.pair (.int .i64) (.pair (.int .i64) (.pair (.int .i64) (.int .i64)))))] slices_Delete_errand_row_errand_row.k ?_
  intro R avs objs κ r h
  unfold s_slices_Delete_errand_row_errand_row at h
  simp only [veil_eq] at h
  split at h
  · rename_i i j s
    split at h
    · cases h
    · rename_i y hy
      refine ⟨BIG, _, _, _, (slices_Delete_errand_row_errand_row.eq BIG s i j).trans hy, ?_, h⟩
      intro rs ros hk
      unfold slices_Delete_errand_row_errand_row.k at hk
      split at hk
      · first | (cases hk; exact ⟨rfl, rfl⟩) | (have e := Option.some.inj hk; rw [← e]; exact ⟨rfl, rfl⟩)
      · cases hk
  · cases h
noncomputable def errand_List_Take_c1_E : Env := ⟨th, gam [], fun i => ⟨[], [], []⟩⟩
noncomputable def errand_List_Take_c1.k (rs : List AV) (os : List Den.Obj) : Option (Bool × Int × Int) :=
  match rs, os with
  | [.d .bool r0], [.box [.d (.int .i64) r1], .box [.d (.int .i64) r2]] => some (r0, r1, r2)
  | _, _ => none
noncomputable def errand_List_Take_c1.b (r0ErrandSeq : Int) (r0ErrandTarget : Int) (r0ErrandTo : Int) (r0ErrandBack : Int) (r0ErrandUntil : Int) (a0 : Int) (b0 : Int) : Option (Bool × Int × Int) :=
  (if (r0ErrandSeq == a0) then some ((r0ErrandTarget == b0), a0, b0) else some (false, a0, b0))
noncomputable def errand_List_Take_c1.f (fuel : Nat) (r0ErrandSeq : Int) (r0ErrandTarget : Int) (r0ErrandTo : Int) (r0ErrandBack : Int) (r0ErrandUntil : Int) (a0 : Int) (b0 : Int) : Option (Bool × Int × Int) := errand_List_Take_c1.b r0ErrandSeq r0ErrandTarget r0ErrandTo r0ErrandBack r0ErrandUntil a0 b0
theorem errand_List_Take_c1.eq (fuel : Nat) (r0ErrandSeq : Int) (r0ErrandTarget : Int) (r0ErrandTo : Int) (r0ErrandBack : Int) (r0ErrandUntil : Int) (a0 : Int) (b0 : Int) : (denF errand_List_Take_c1_E loopN fuel Try.f40 [.raw] [.agg [.d (.int .i64) r0ErrandSeq, .d (.int .i64) r0ErrandTarget, .d (.int .i64) r0ErrandTo, .d (.int .i64) r0ErrandBack, .d (.int .i64) r0ErrandUntil], .ptr 0 0, .ptr 1 0] [.box [.d (.int .i64) a0], .box [.d (.int .i64) b0]] errand_List_Take_c1.k) = errand_List_Take_c1.f fuel r0ErrandSeq r0ErrandTarget r0ErrandTo r0ErrandBack r0ErrandUntil a0 b0 := by
  kernel_rfl
noncomputable def s_errand_List_Take_c1 : Den.Sum := ⟨[.dat (.pair (.int .i64) (.pair (.int .i64) (.pair (.int .i64) (.pair (.int .i64) (.int .i64))))) true, .raw, .raw], fun args objs κ => match args, objs with
  | [.agg [.d (.int .i64) r0ErrandSeq, .d (.int .i64) r0ErrandTarget, .d (.int .i64) r0ErrandTo, .d (.int .i64) r0ErrandBack, .d (.int .i64) r0ErrandUntil], .ptr 0 0, .ptr 1 0], [.box [.d (.int .i64) a0], .box [.d (.int .i64) b0]] => (match veil (errand_List_Take_c1.f BIG r0ErrandSeq r0ErrandTarget r0ErrandTo r0ErrandBack r0ErrandUntil a0 b0) with | none => none | some y => κ [.d .bool y.1] [.box [.d (.int .i64) y.2.1], .box [.d (.int .i64) y.2.2]])
  | _, _ => none⟩
theorem s_errand_List_Take_c1_det : SumDet s_errand_List_Take_c1 := fun avs objs R κ => by
  show s_errand_List_Take_c1.run avs objs (two κ) = (s_errand_List_Take_c1.run avs objs (two some)).bind κ
  unfold s_errand_List_Take_c1
  simp only [veil_eq]
  split
  · split <;> rfl
  · rfl
theorem s_errand_List_Take_c1_ok : SumOk Try.prog 40 s_errand_List_Take_c1 := by
  have hE : EnvOk Try.prog errand_List_Take_c1_E := env_ok (l := []) th_ok any_ok trivial _
  refine sum_ok hE Try.func40 rfl (by kernel_rfl) s_errand_List_Take_c1 [.raw] errand_List_Take_c1.k ?_
  intro R avs objs κ r h
  unfold s_errand_List_Take_c1 at h
  simp only [veil_eq] at h
  split at h
  · rename_i r0ErrandSeq r0ErrandTarget r0ErrandTo r0ErrandBack r0ErrandUntil a0 b0
    split at h
    · cases h
    · rename_i y hy
      refine ⟨BIG, _, _, _, (errand_List_Take_c1.eq BIG r0ErrandSeq r0ErrandTarget r0ErrandTo r0ErrandBack r0ErrandUntil a0 b0).trans hy, ?_, h⟩
      intro rs ros hk
      unfold errand_List_Take_c1.k at hk
      split at hk
      · first | (cases hk; exact ⟨rfl, rfl⟩) | (have e := Option.some.inj hk; rw [← e]; exact ⟨rfl, rfl⟩)
      · cases hk
  · cases h
noncomputable def errand_List_Expire_c1_E : Env := ⟨th, gam [], fun i => ⟨[], [], []⟩⟩
noncomputable def errand_List_Expire_c1.k (rs : List AV) (os : List Den.Obj) : Option (Bool × Int) :=
  match rs, os with
  | [.d .bool r0], [.box [.d (.int .i64) r1]] => some (r0, r1)
  | _, _ => none
noncomputable def errand_List_Expire_c1.b (r0ErrandSeq : Int) (r0ErrandTarget : Int) (r0ErrandTo : Int) (r0ErrandBack : Int) (r0ErrandUntil : Int) (a0 : Int) : Option (Bool × Int) :=
  some ((decide (r0ErrandUntil < a0)), a0)
noncomputable def errand_List_Expire_c1.f (fuel : Nat) (r0ErrandSeq : Int) (r0ErrandTarget : Int) (r0ErrandTo : Int) (r0ErrandBack : Int) (r0ErrandUntil : Int) (a0 : Int) : Option (Bool × Int) := errand_List_Expire_c1.b r0ErrandSeq r0ErrandTarget r0ErrandTo r0ErrandBack r0ErrandUntil a0
theorem errand_List_Expire_c1.eq (fuel : Nat) (r0ErrandSeq : Int) (r0ErrandTarget : Int) (r0ErrandTo : Int) (r0ErrandBack : Int) (r0ErrandUntil : Int) (a0 : Int) : (denF errand_List_Expire_c1_E loopN fuel Try.f41 [.raw] [.agg [.d (.int .i64) r0ErrandSeq, .d (.int .i64) r0ErrandTarget, .d (.int .i64) r0ErrandTo, .d (.int .i64) r0ErrandBack, .d (.int .i64) r0ErrandUntil], .ptr 0 0] [.box [.d (.int .i64) a0]] errand_List_Expire_c1.k) = errand_List_Expire_c1.f fuel r0ErrandSeq r0ErrandTarget r0ErrandTo r0ErrandBack r0ErrandUntil a0 := by
  kernel_rfl
noncomputable def s_errand_List_Expire_c1 : Den.Sum := ⟨[.dat (.pair (.int .i64) (.pair (.int .i64) (.pair (.int .i64) (.pair (.int .i64) (.int .i64))))) true, .raw], fun args objs κ => match args, objs with
  | [.agg [.d (.int .i64) r0ErrandSeq, .d (.int .i64) r0ErrandTarget, .d (.int .i64) r0ErrandTo, .d (.int .i64) r0ErrandBack, .d (.int .i64) r0ErrandUntil], .ptr 0 0], [.box [.d (.int .i64) a0]] => (match veil (errand_List_Expire_c1.f BIG r0ErrandSeq r0ErrandTarget r0ErrandTo r0ErrandBack r0ErrandUntil a0) with | none => none | some y => κ [.d .bool y.1] [.box [.d (.int .i64) y.2]])
  | _, _ => none⟩
theorem s_errand_List_Expire_c1_det : SumDet s_errand_List_Expire_c1 := fun avs objs R κ => by
  show s_errand_List_Expire_c1.run avs objs (two κ) = (s_errand_List_Expire_c1.run avs objs (two some)).bind κ
  unfold s_errand_List_Expire_c1
  simp only [veil_eq]
  split
  · split <;> rfl
  · rfl
theorem s_errand_List_Expire_c1_ok : SumOk Try.prog 41 s_errand_List_Expire_c1 := by
  have hE : EnvOk Try.prog errand_List_Expire_c1_E := env_ok (l := []) th_ok any_ok trivial _
  refine sum_ok hE Try.func41 rfl (by kernel_rfl) s_errand_List_Expire_c1 [.raw] errand_List_Expire_c1.k ?_
  intro R avs objs κ r h
  unfold s_errand_List_Expire_c1 at h
  simp only [veil_eq] at h
  split at h
  · rename_i r0ErrandSeq r0ErrandTarget r0ErrandTo r0ErrandBack r0ErrandUntil a0
    split at h
    · cases h
    · rename_i y hy
      refine ⟨BIG, _, _, _, (errand_List_Expire_c1.eq BIG r0ErrandSeq r0ErrandTarget r0ErrandTo r0ErrandBack r0ErrandUntil a0).trans hy, ?_, h⟩
      intro rs ros hk
      unfold errand_List_Expire_c1.k at hk
      split at hk
      · first | (cases hk; exact ⟨rfl, rfl⟩) | (have e := Option.some.inj hk; rw [← e]; exact ⟨rfl, rfl⟩)
      · cases hk
  · cases h
noncomputable def slices_IndexFunc_errand_row_errand_row_put_E : Env := ⟨th, gam [(37, s_errand_List_Put_c1)], fun i => if i = 2 then ⟨[0, 1, 7, 8], [], []⟩ else ⟨[], [], []⟩⟩
noncomputable def slices_IndexFunc_errand_row_errand_row_put.k (rs : List AV) (os : List Den.Obj) : Option (Int × (List (Int × (Int × (Int × (Int × Int))))) × Int × Int × Int × Int × Int) :=
  match rs, os with
  | [.d (.int .i64) r0], [.row 88 (.pair (.int .i64) (.pair (.int .i64) (.pair (.int .i64) (.pair (.int .i64) (.int .i64))))) r1 false, .box [.d (.int .i64) r2, .d (.int .i64) r3, .d (.int .i64) r4, .d (.int .i64) r5, .d (.int .i64) r6]] => some (r0, r1, r2, r3, r4, r5, r6)
  | _, _ => none
noncomputable def slices_IndexFunc_errand_row_errand_row_put.s2 (s : List (Int × Int × Int × Int × Int)) (eSeq : Int) (eTarget : Int) (eTo : Int) (eBack : Int) (eUntil : Int) (x0 : Int) (x1 : Int) (x2 : Int) (x3 : Int) (x4 : Int) (x5 : Int) (x6 : Int) : St := ⟨[.row 0, .fn (.func 37) [] [.ptr 1 0], .dead, .dead, .dead, .dead, .dead, .d (.int .i64) x0, .d (.int .i64) x1, .dead, .dead, .dead, .dead, .dead, .dead, .dead, .dead, .dead, .dead], ofL [(0, .row 88 (.pair (.int .i64) (.pair (.int .i64) (.pair (.int .i64) (.pair (.int .i64) (.int .i64))))) (s) false), (1, .box [.d (.int .i64) x2, .d (.int .i64) x3, .d (.int .i64) x4, .d (.int .i64) x5, .d (.int .i64) x6])], 2⟩
noncomputable def slices_IndexFunc_errand_row_errand_row_put.b2 (s : List (Int × Int × Int × Int × Int)) (eSeq : Int) (eTarget : Int) (eTo : Int) (eBack : Int) (eUntil : Int) (A2 : Int → Int → Int → Int → Int → Int → Int → Option (Int × (List (Int × (Int × (Int × (Int × Int))))) × Int × Int × Int × Int × Int)) (x0 : Int) (x1 : Int) (x2 : Int) (x3 : Int) (x4 : Int) (x5 : Int) (x6 : Int) : Option (Int × (List (Int × (Int × (Int × (Int × Int))))) × Int × Int × Int × Int × Int) :=
  (if (decide (x1 < x0)) then (match (idx s x1) with | none => none | some y7 => (match (idx s x1) with | none => none | some y8 => (match (veil (errand_List_Put_c1.f BIG y8.1 y8.2.1 y8.2.2.1 y8.2.2.2.1 y8.2.2.2.2 x2 x3 x4 x5 x6)) with | none => none | some y9 => (if y9.1 then some (x1, s, y9.2.1, y9.2.2.1, y9.2.2.2.1, y9.2.2.2.2.1, y9.2.2.2.2.2) else A2 x0 (Go.IntKind.wrap .i64 (x1 + (1 : Int))) y9.2.1 y9.2.2.1 y9.2.2.2.1 y9.2.2.2.2.1 y9.2.2.2.2.2)))) else some ((-(1 : Int)), s, x2, x3, x4, x5, x6))
noncomputable def slices_IndexFunc_errand_row_errand_row_put.l2 (fuel : Nat) (s : List (Int × Int × Int × Int × Int)) (eSeq : Int) (eTarget : Int) (eTo : Int) (eBack : Int) (eUntil : Int) : Nat → Int → Int → Int → Int → Int → Int → Int → Option (Int × (List (Int × (Int × (Int × (Int × Int))))) × Int × Int × Int × Int × Int)
  | 0, _, _, _, _, _, _, _ => none
  | k + 1, x0, x1, x2, x3, x4, x5, x6 => slices_IndexFunc_errand_row_errand_row_put.b2 s eSeq eTarget eTo eBack eUntil (slices_IndexFunc_errand_row_errand_row_put.l2 fuel s eSeq eTarget eTo eBack eUntil k) x0 x1 x2 x3 x4 x5 x6
noncomputable def slices_IndexFunc_errand_row_errand_row_put.b (s : List (Int × Int × Int × Int × Int)) (eSeq : Int) (eTarget : Int) (eTo : Int) (eBack : Int) (eUntil : Int) (E2 : Int → Int → Int → Int → Int → Int → Int → Option (Int × (List (Int × (Int × (Int × (Int × Int))))) × Int × Int × Int × Int × Int)) : Option (Int × (List (Int × (Int × (Int × (Int × Int))))) × Int × Int × Int × Int × Int) :=
  E2 ((((List.length s)) : Nat) : Int) (0 : Int) eSeq eTarget eTo eBack eUntil
noncomputable def slices_IndexFunc_errand_row_errand_row_put.f (fuel : Nat) (s : List (Int × Int × Int × Int × Int)) (eSeq : Int) (eTarget : Int) (eTo : Int) (eBack : Int) (eUntil : Int) : Option (Int × (List (Int × (Int × (Int × (Int × Int))))) × Int × Int × Int × Int × Int) := slices_IndexFunc_errand_row_errand_row_put.b s eSeq eTarget eTo eBack eUntil (slices_IndexFunc_errand_row_errand_row_put.l2 fuel s eSeq eTarget eTo eBack eUntil fuel)
theorem slices_IndexFunc_errand_row_errand_row_put.l2_eq (fuel : Nat) (s : List (Int × Int × Int × Int × Int)) (eSeq : Int) (eTarget : Int) (eTo : Int) (eBack : Int) (eUntil : Int) : ∀ (k : Nat) (x0 : Int) (x1 : Int) (x2 : Int) (x3 : Int) (x4 : Int) (x5 : Int) (x6 : Int), lp slices_IndexFunc_errand_row_errand_row_put_E fuel Try.f39 [.raw] 2 slices_IndexFunc_errand_row_errand_row_put.k 2 [] k (slices_IndexFunc_errand_row_errand_row_put.s2 s eSeq eTarget eTo eBack eUntil x0 x1 x2 x3 x4 x5 x6) = slices_IndexFunc_errand_row_errand_row_put.l2 fuel s eSeq eTarget eTo eBack eUntil k x0 x1 x2 x3 x4 x5 x6 := by
  intro k
  induction k with
  | zero => intro x0 x1 x2 x3 x4 x5 x6; rfl
  | succ k ih =>
    intro x0 x1 x2 x3 x4 x5 x6
    have h : lp slices_IndexFunc_errand_row_errand_row_put_E fuel Try.f39 [.raw] 2 slices_IndexFunc_errand_row_errand_row_put.k 2 [] (k + 1) (slices_IndexFunc_errand_row_errand_row_put.s2 s eSeq eTarget eTo eBack eUntil x0 x1 x2 x3 x4 x5 x6) = slices_IndexFunc_errand_row_errand_row_put.b2 s eSeq eTarget eTo eBack eUntil (fun x0 x1 x2 x3 x4 x5 x6 => lp slices_IndexFunc_errand_row_errand_row_put_E fuel Try.f39 [.raw] 2 slices_IndexFunc_errand_row_errand_row_put.k 2 [] k (slices_IndexFunc_errand_row_errand_row_put.s2 s eSeq eTarget eTo eBack eUntil x0 x1 x2 x3 x4 x5 x6)) x0 x1 x2 x3 x4 x5 x6 := by kernel_rfl
    rw [h]
    have e2 : (fun x0 x1 x2 x3 x4 x5 x6 => lp slices_IndexFunc_errand_row_errand_row_put_E fuel Try.f39 [.raw] 2 slices_IndexFunc_errand_row_errand_row_put.k 2 [] k (slices_IndexFunc_errand_row_errand_row_put.s2 s eSeq eTarget eTo eBack eUntil x0 x1 x2 x3 x4 x5 x6)) = slices_IndexFunc_errand_row_errand_row_put.l2 fuel s eSeq eTarget eTo eBack eUntil k := (funext fun x0 => (funext fun x1 => (funext fun x2 => (funext fun x3 => (funext fun x4 => (funext fun x5 => (funext fun x6 => ih x0 x1 x2 x3 x4 x5 x6)))))))
    rw [e2]
    rfl
theorem slices_IndexFunc_errand_row_errand_row_put.eq (fuel : Nat) (s : List (Int × Int × Int × Int × Int)) (eSeq : Int) (eTarget : Int) (eTo : Int) (eBack : Int) (eUntil : Int) : (denF slices_IndexFunc_errand_row_errand_row_put_E loopN fuel Try.f39 [.raw] [.row 0, .fn (.func 37) [] [.ptr 1 0]] [.row 88 (.pair (.int .i64) (.pair (.int .i64) (.pair (.int .i64) (.pair (.int .i64) (.int .i64))))) s false, .box [.d (.int .i64) eSeq, .d (.int .i64) eTarget, .d (.int .i64) eTo, .d (.int .i64) eBack, .d (.int .i64) eUntil]] slices_IndexFunc_errand_row_errand_row_put.k) = slices_IndexFunc_errand_row_errand_row_put.f fuel s eSeq eTarget eTo eBack eUntil := by
  have h : (denF slices_IndexFunc_errand_row_errand_row_put_E loopN fuel Try.f39 [.raw] [.row 0, .fn (.func 37) [] [.ptr 1 0]] [.row 88 (.pair (.int .i64) (.pair (.int .i64) (.pair (.int .i64) (.pair (.int .i64) (.int .i64))))) s false, .box [.d (.int .i64) eSeq, .d (.int .i64) eTarget, .d (.int .i64) eTo, .d (.int .i64) eBack, .d (.int .i64) eUntil]] slices_IndexFunc_errand_row_errand_row_put.k) = slices_IndexFunc_errand_row_errand_row_put.b s eSeq eTarget eTo eBack eUntil (fun x0 x1 x2 x3 x4 x5 x6 => lp slices_IndexFunc_errand_row_errand_row_put_E fuel Try.f39 [.raw] 2 slices_IndexFunc_errand_row_errand_row_put.k 2 [] fuel (slices_IndexFunc_errand_row_errand_row_put.s2 s eSeq eTarget eTo eBack eUntil x0 x1 x2 x3 x4 x5 x6)) := by kernel_rfl
  rw [h]
  have e2 : (fun x0 x1 x2 x3 x4 x5 x6 => lp slices_IndexFunc_errand_row_errand_row_put_E fuel Try.f39 [.raw] 2 slices_IndexFunc_errand_row_errand_row_put.k 2 [] fuel (slices_IndexFunc_errand_row_errand_row_put.s2 s eSeq eTarget eTo eBack eUntil x0 x1 x2 x3 x4 x5 x6)) = slices_IndexFunc_errand_row_errand_row_put.l2 fuel s eSeq eTarget eTo eBack eUntil fuel := (funext fun x0 => (funext fun x1 => (funext fun x2 => (funext fun x3 => (funext fun x4 => (funext fun x5 => (funext fun x6 => slices_IndexFunc_errand_row_errand_row_put.l2_eq fuel s eSeq eTarget eTo eBack eUntil fuel x0 x1 x2 x3 x4 x5 x6)))))))
  rw [e2]
  rfl
theorem slices_IndexFunc_errand_row_errand_row_put.l2_at (fuel nN kK : Nat) (hN : nN = kK + 1) (s : List (Int × Int × Int × Int × Int)) (eSeq : Int) (eTarget : Int) (eTo : Int) (eBack : Int) (eUntil : Int) (x0 : Int) (x1 : Int) (x2 : Int) (x3 : Int) (x4 : Int) (x5 : Int) (x6 : Int) : slices_IndexFunc_errand_row_errand_row_put.l2 fuel s eSeq eTarget eTo eBack eUntil nN x0 x1 x2 x3 x4 x5 x6 = slices_IndexFunc_errand_row_errand_row_put.b2 s eSeq eTarget eTo eBack eUntil (slices_IndexFunc_errand_row_errand_row_put.l2 fuel s eSeq eTarget eTo eBack eUntil kK) x0 x1 x2 x3 x4 x5 x6 := by
  subst hN
  rfl
noncomputable def s_slices_IndexFunc_errand_row_errand_row_put : Den.Sum := ⟨[.own 88 (.pair (.int .i64) (.pair (.int .i64) (.pair (.int .i64) (.pair (.int .i64) (.int .i64))))), .raw], fun args objs κ => match args, objs with
  | [.row 0, .fn (.func 37) [] [.ptr 1 0]], [.row 88 (.pair (.int .i64) (.pair (.int .i64) (.pair (.int .i64) (.pair (.int .i64) (.int .i64))))) s false, .box [.d (.int .i64) eSeq, .d (.int .i64) eTarget, .d (.int .i64) eTo, .d (.int .i64) eBack, .d (.int .i64) eUntil]] => (match veil (slices_IndexFunc_errand_row_errand_row_put.f BIG s eSeq eTarget eTo eBack eUntil) with | none => none | some y => κ [.d (.int .i64) y.1] [.row 88 (.pair (.int .i64) (.pair (.int .i64) (.pair (.int .i64) (.pair (.int .i64) (.int .i64))))) y.2.1 false, .box [.d (.int .i64) y.2.2.1, .d (.int .i64) y.2.2.2.1, .d (.int .i64) y.2.2.2.2.1, .d (.int .i64) y.2.2.2.2.2.1, .d (.int .i64) y.2.2.2.2.2.2]])
  | _, _ => none⟩
theorem s_slices_IndexFunc_errand_row_errand_row_put_det : SumDet s_slices_IndexFunc_errand_row_errand_row_put := fun avs objs R κ => by
  show s_slices_IndexFunc_errand_row_errand_row_put.run avs objs (two κ) = (s_slices_IndexFunc_errand_row_errand_row_put.run avs objs (two some)).bind κ
  unfold s_slices_IndexFunc_errand_row_errand_row_put
  simp only [veil_eq]
  split
  · split <;> rfl
  · rfl
theorem s_slices_IndexFunc_errand_row_errand_row_put_ok : SumOk Try.prog 39 s_slices_IndexFunc_errand_row_errand_row_put := by
  have hE : EnvOk Try.prog slices_IndexFunc_errand_row_errand_row_put_E := env_ok (l := [(37, s_errand_List_Put_c1)]) th_ok any_ok ⟨⟨s_errand_List_Put_c1_ok, s_errand_List_Put_c1_det⟩, trivial⟩ _
  refine sum_ok hE Try.func39 rfl (by kernel_rfl) s_slices_IndexFunc_errand_row_errand_row_put [.raw] slices_IndexFunc_errand_row_errand_row_put.k ?_
  intro R avs objs κ r h
  unfold s_slices_IndexFunc_errand_row_errand_row_put at h
  simp only [veil_eq] at h
  split at h
  · rename_i s eSeq eTarget eTo eBack eUntil
    split at h
    · cases h
    · rename_i y hy
      refine ⟨BIG, _, _, _, (slices_IndexFunc_errand_row_errand_row_put.eq BIG s eSeq eTarget eTo eBack eUntil).trans hy, ?_, h⟩
      intro rs ros hk
      unfold slices_IndexFunc_errand_row_errand_row_put.k at hk
      split at hk
      · first | (cases hk; exact ⟨rfl, rfl⟩) | (have e := Option.some.inj hk; rw [← e]; exact ⟨rfl, rfl⟩)
      · cases hk
  · cases h
noncomputable def slices_IndexFunc_errand_row_errand_row_take_E : Env := ⟨th, gam [(40, s_errand_List_Take_c1)], fun i => if i = 2 then ⟨[0, 1, 7, 8], [], []⟩ else ⟨[], [], []⟩⟩
noncomputable def slices_IndexFunc_errand_row_errand_row_take.k (rs : List AV) (os : List Den.Obj) : Option (Int × (List (Int × (Int × (Int × (Int × Int))))) × Int × Int) :=
  match rs, os with
  | [.d (.int .i64) r0], [.row 88 (.pair (.int .i64) (.pair (.int .i64) (.pair (.int .i64) (.pair (.int .i64) (.int .i64))))) r1 false, .box [.d (.int .i64) r2], .box [.d (.int .i64) r3]] => some (r0, r1, r2, r3)
  | _, _ => none
noncomputable def slices_IndexFunc_errand_row_errand_row_take.s2 (s : List (Int × Int × Int × Int × Int)) (a0 : Int) (b0 : Int) (x0 : Int) (x1 : Int) (x2 : Int) (x3 : Int) : St := ⟨[.row 0, .fn (.func 40) [] [.ptr 1 0, .ptr 2 0], .dead, .dead, .dead, .dead, .dead, .d (.int .i64) x0, .d (.int .i64) x1, .dead, .dead, .dead, .dead, .dead, .dead, .dead, .dead, .dead, .dead], ofL [(0, .row 88 (.pair (.int .i64) (.pair (.int .i64) (.pair (.int .i64) (.pair (.int .i64) (.int .i64))))) (s) false), (1, .box [.d (.int .i64) x2]), (2, .box [.d (.int .i64) x3])], 3⟩
noncomputable def slices_IndexFunc_errand_row_errand_row_take.b2 (s : List (Int × Int × Int × Int × Int)) (a0 : Int) (b0 : Int) (A2 : Int → Int → Int → Int → Option (Int × (List (Int × (Int × (Int × (Int × Int))))) × Int × Int)) (x0 : Int) (x1 : Int) (x2 : Int) (x3 : Int) : Option (Int × (List (Int × (Int × (Int × (Int × Int))))) × Int × Int) :=
  (if (decide (x1 < x0)) then (match (idx s x1) with | none => none | some y4 => (match (idx s x1) with | none => none | some y5 => (match (veil (errand_List_Take_c1.f BIG y5.1 y5.2.1 y5.2.2.1 y5.2.2.2.1 y5.2.2.2.2 x2 x3)) with | none => none | some y6 => (if y6.1 then some (x1, s, y6.2.1, y6.2.2) else A2 x0 (Go.IntKind.wrap .i64 (x1 + (1 : Int))) y6.2.1 y6.2.2)))) else some ((-(1 : Int)), s, x2, x3))
noncomputable def slices_IndexFunc_errand_row_errand_row_take.l2 (fuel : Nat) (s : List (Int × Int × Int × Int × Int)) (a0 : Int) (b0 : Int) : Nat → Int → Int → Int → Int → Option (Int × (List (Int × (Int × (Int × (Int × Int))))) × Int × Int)
  | 0, _, _, _, _ => none
  | k + 1, x0, x1, x2, x3 => slices_IndexFunc_errand_row_errand_row_take.b2 s a0 b0 (slices_IndexFunc_errand_row_errand_row_take.l2 fuel s a0 b0 k) x0 x1 x2 x3
noncomputable def slices_IndexFunc_errand_row_errand_row_take.b (s : List (Int × Int × Int × Int × Int)) (a0 : Int) (b0 : Int) (E2 : Int → Int → Int → Int → Option (Int × (List (Int × (Int × (Int × (Int × Int))))) × Int × Int)) : Option (Int × (List (Int × (Int × (Int × (Int × Int))))) × Int × Int) :=
  E2 ((((List.length s)) : Nat) : Int) (0 : Int) a0 b0
noncomputable def slices_IndexFunc_errand_row_errand_row_take.f (fuel : Nat) (s : List (Int × Int × Int × Int × Int)) (a0 : Int) (b0 : Int) : Option (Int × (List (Int × (Int × (Int × (Int × Int))))) × Int × Int) := slices_IndexFunc_errand_row_errand_row_take.b s a0 b0 (slices_IndexFunc_errand_row_errand_row_take.l2 fuel s a0 b0 fuel)
theorem slices_IndexFunc_errand_row_errand_row_take.l2_eq (fuel : Nat) (s : List (Int × Int × Int × Int × Int)) (a0 : Int) (b0 : Int) : ∀ (k : Nat) (x0 : Int) (x1 : Int) (x2 : Int) (x3 : Int), lp slices_IndexFunc_errand_row_errand_row_take_E fuel Try.f39 [.raw] 3 slices_IndexFunc_errand_row_errand_row_take.k 2 [] k (slices_IndexFunc_errand_row_errand_row_take.s2 s a0 b0 x0 x1 x2 x3) = slices_IndexFunc_errand_row_errand_row_take.l2 fuel s a0 b0 k x0 x1 x2 x3 := by
  intro k
  induction k with
  | zero => intro x0 x1 x2 x3; rfl
  | succ k ih =>
    intro x0 x1 x2 x3
    have h : lp slices_IndexFunc_errand_row_errand_row_take_E fuel Try.f39 [.raw] 3 slices_IndexFunc_errand_row_errand_row_take.k 2 [] (k + 1) (slices_IndexFunc_errand_row_errand_row_take.s2 s a0 b0 x0 x1 x2 x3) = slices_IndexFunc_errand_row_errand_row_take.b2 s a0 b0 (fun x0 x1 x2 x3 => lp slices_IndexFunc_errand_row_errand_row_take_E fuel Try.f39 [.raw] 3 slices_IndexFunc_errand_row_errand_row_take.k 2 [] k (slices_IndexFunc_errand_row_errand_row_take.s2 s a0 b0 x0 x1 x2 x3)) x0 x1 x2 x3 := by kernel_rfl
    rw [h]
    have e2 : (fun x0 x1 x2 x3 => lp slices_IndexFunc_errand_row_errand_row_take_E fuel Try.f39 [.raw] 3 slices_IndexFunc_errand_row_errand_row_take.k 2 [] k (slices_IndexFunc_errand_row_errand_row_take.s2 s a0 b0 x0 x1 x2 x3)) = slices_IndexFunc_errand_row_errand_row_take.l2 fuel s a0 b0 k := (funext fun x0 => (funext fun x1 => (funext fun x2 => (funext fun x3 => ih x0 x1 x2 x3))))
    rw [e2]
    rfl
theorem slices_IndexFunc_errand_row_errand_row_take.eq (fuel : Nat) (s : List (Int × Int × Int × Int × Int)) (a0 : Int) (b0 : Int) : (denF slices_IndexFunc_errand_row_errand_row_take_E loopN fuel Try.f39 [.raw] [.row 0, .fn (.func 40) [] [.ptr 1 0, .ptr 2 0]] [.row 88 (.pair (.int .i64) (.pair (.int .i64) (.pair (.int .i64) (.pair (.int .i64) (.int .i64))))) s false, .box [.d (.int .i64) a0], .box [.d (.int .i64) b0]] slices_IndexFunc_errand_row_errand_row_take.k) = slices_IndexFunc_errand_row_errand_row_take.f fuel s a0 b0 := by
  have h : (denF slices_IndexFunc_errand_row_errand_row_take_E loopN fuel Try.f39 [.raw] [.row 0, .fn (.func 40) [] [.ptr 1 0, .ptr 2 0]] [.row 88 (.pair (.int .i64) (.pair (.int .i64) (.pair (.int .i64) (.pair (.int .i64) (.int .i64))))) s false, .box [.d (.int .i64) a0], .box [.d (.int .i64) b0]] slices_IndexFunc_errand_row_errand_row_take.k) = slices_IndexFunc_errand_row_errand_row_take.b s a0 b0 (fun x0 x1 x2 x3 => lp slices_IndexFunc_errand_row_errand_row_take_E fuel Try.f39 [.raw] 3 slices_IndexFunc_errand_row_errand_row_take.k 2 [] fuel (slices_IndexFunc_errand_row_errand_row_take.s2 s a0 b0 x0 x1 x2 x3)) := by kernel_rfl
  rw [h]
  have e2 : (fun x0 x1 x2 x3 => lp slices_IndexFunc_errand_row_errand_row_take_E fuel Try.f39 [.raw] 3 slices_IndexFunc_errand_row_errand_row_take.k 2 [] fuel (slices_IndexFunc_errand_row_errand_row_take.s2 s a0 b0 x0 x1 x2 x3)) = slices_IndexFunc_errand_row_errand_row_take.l2 fuel s a0 b0 fuel := (funext fun x0 => (funext fun x1 => (funext fun x2 => (funext fun x3 => slices_IndexFunc_errand_row_errand_row_take.l2_eq fuel s a0 b0 fuel x0 x1 x2 x3))))
  rw [e2]
  rfl
theorem slices_IndexFunc_errand_row_errand_row_take.l2_at (fuel nN kK : Nat) (hN : nN = kK + 1) (s : List (Int × Int × Int × Int × Int)) (a0 : Int) (b0 : Int) (x0 : Int) (x1 : Int) (x2 : Int) (x3 : Int) : slices_IndexFunc_errand_row_errand_row_take.l2 fuel s a0 b0 nN x0 x1 x2 x3 = slices_IndexFunc_errand_row_errand_row_take.b2 s a0 b0 (slices_IndexFunc_errand_row_errand_row_take.l2 fuel s a0 b0 kK) x0 x1 x2 x3 := by
  subst hN
  rfl
noncomputable def s_slices_IndexFunc_errand_row_errand_row_take : Den.Sum := ⟨[.own 88 (.pair (.int .i64) (.pair (.int .i64) (.pair (.int .i64) (.pair (.int .i64) (.int .i64))))), .raw], fun args objs κ => match args, objs with
  | [.row 0, .fn (.func 40) [] [.ptr 1 0, .ptr 2 0]], [.row 88 (.pair (.int .i64) (.pair (.int .i64) (.pair (.int .i64) (.pair (.int .i64) (.int .i64))))) s false, .box [.d (.int .i64) a0], .box [.d (.int .i64) b0]] => (match veil (slices_IndexFunc_errand_row_errand_row_take.f BIG s a0 b0) with | none => none | some y => κ [.d (.int .i64) y.1] [.row 88 (.pair (.int .i64) (.pair (.int .i64) (.pair (.int .i64) (.pair (.int .i64) (.int .i64))))) y.2.1 false, .box [.d (.int .i64) y.2.2.1], .box [.d (.int .i64) y.2.2.2]])
  | _, _ => none⟩
theorem s_slices_IndexFunc_errand_row_errand_row_take_det : SumDet s_slices_IndexFunc_errand_row_errand_row_take := fun avs objs R κ => by
  show s_slices_IndexFunc_errand_row_errand_row_take.run avs objs (two κ) = (s_slices_IndexFunc_errand_row_errand_row_take.run avs objs (two some)).bind κ
  unfold s_slices_IndexFunc_errand_row_errand_row_take
  simp only [veil_eq]
  split
  · split <;> rfl
  · rfl
theorem s_slices_IndexFunc_errand_row_errand_row_take_ok : SumOk Try.prog 39 s_slices_IndexFunc_errand_row_errand_row_take := by
  have hE : EnvOk Try.prog slices_IndexFunc_errand_row_errand_row_take_E := env_ok (l := [(40, s_errand_List_Take_c1)]) th_ok any_ok ⟨⟨s_errand_List_Take_c1_ok, s_errand_List_Take_c1_det⟩, trivial⟩ _
  refine sum_ok hE Try.func39 rfl (by kernel_rfl) s_slices_IndexFunc_errand_row_errand_row_take [.raw] slices_IndexFunc_errand_row_errand_row_take.k ?_
  intro R avs objs κ r h
  unfold s_slices_IndexFunc_errand_row_errand_row_take at h
  simp only [veil_eq] at h
  split at h
  · rename_i s a0 b0
    split at h
    · cases h
    · rename_i y hy
      refine ⟨BIG, _, _, _, (slices_IndexFunc_errand_row_errand_row_take.eq BIG s a0 b0).trans hy, ?_, h⟩
      intro rs ros hk
      unfold slices_IndexFunc_errand_row_errand_row_take.k at hk
      split at hk
      · first | (cases hk; exact ⟨rfl, rfl⟩) | (have e := Option.some.inj hk; rw [← e]; exact ⟨rfl, rfl⟩)
      · cases hk
  · cases h
noncomputable def slices_IndexFunc_errand_row_errand_row_exp_E : Env := ⟨th, gam [(41, s_errand_List_Expire_c1)], fun i => if i = 2 then ⟨[0, 1, 7, 8], [], []⟩ else ⟨[], [], []⟩⟩
noncomputable def slices_IndexFunc_errand_row_errand_row_exp.k (rs : List AV) (os : List Den.Obj) : Option (Int × (List (Int × (Int × (Int × (Int × Int))))) × Int) :=
  match rs, os with
  | [.d (.int .i64) r0], [.row 88 (.pair (.int .i64) (.pair (.int .i64) (.pair (.int .i64) (.pair (.int .i64) (.int .i64))))) r1 false, .box [.d (.int .i64) r2]] => some (r0, r1, r2)
  | _, _ => none
noncomputable def slices_IndexFunc_errand_row_errand_row_exp.s2 (s : List (Int × Int × Int × Int × Int)) (a0 : Int) (x0 : Int) (x1 : Int) (x2 : Int) : St := ⟨[.row 0, .fn (.func 41) [] [.ptr 1 0], .dead, .dead, .dead, .dead, .dead, .d (.int .i64) x0, .d (.int .i64) x1, .dead, .dead, .dead, .dead, .dead, .dead, .dead, .dead, .dead, .dead], ofL [(0, .row 88 (.pair (.int .i64) (.pair (.int .i64) (.pair (.int .i64) (.pair (.int .i64) (.int .i64))))) (s) false), (1, .box [.d (.int .i64) x2])], 2⟩
noncomputable def slices_IndexFunc_errand_row_errand_row_exp.b2 (s : List (Int × Int × Int × Int × Int)) (a0 : Int) (A2 : Int → Int → Int → Option (Int × (List (Int × (Int × (Int × (Int × Int))))) × Int)) (x0 : Int) (x1 : Int) (x2 : Int) : Option (Int × (List (Int × (Int × (Int × (Int × Int))))) × Int) :=
  (if (decide (x1 < x0)) then (match (idx s x1) with | none => none | some y3 => (match (idx s x1) with | none => none | some y4 => (match (veil (errand_List_Expire_c1.f BIG y4.1 y4.2.1 y4.2.2.1 y4.2.2.2.1 y4.2.2.2.2 x2)) with | none => none | some y5 => (if y5.1 then some (x1, s, y5.2) else A2 x0 (Go.IntKind.wrap .i64 (x1 + (1 : Int))) y5.2)))) else some ((-(1 : Int)), s, x2))
noncomputable def slices_IndexFunc_errand_row_errand_row_exp.l2 (fuel : Nat) (s : List (Int × Int × Int × Int × Int)) (a0 : Int) : Nat → Int → Int → Int → Option (Int × (List (Int × (Int × (Int × (Int × Int))))) × Int)
  | 0, _, _, _ => none
  | k + 1, x0, x1, x2 => slices_IndexFunc_errand_row_errand_row_exp.b2 s a0 (slices_IndexFunc_errand_row_errand_row_exp.l2 fuel s a0 k) x0 x1 x2
noncomputable def slices_IndexFunc_errand_row_errand_row_exp.b (s : List (Int × Int × Int × Int × Int)) (a0 : Int) (E2 : Int → Int → Int → Option (Int × (List (Int × (Int × (Int × (Int × Int))))) × Int)) : Option (Int × (List (Int × (Int × (Int × (Int × Int))))) × Int) :=
  E2 ((((List.length s)) : Nat) : Int) (0 : Int) a0
noncomputable def slices_IndexFunc_errand_row_errand_row_exp.f (fuel : Nat) (s : List (Int × Int × Int × Int × Int)) (a0 : Int) : Option (Int × (List (Int × (Int × (Int × (Int × Int))))) × Int) := slices_IndexFunc_errand_row_errand_row_exp.b s a0 (slices_IndexFunc_errand_row_errand_row_exp.l2 fuel s a0 fuel)
theorem slices_IndexFunc_errand_row_errand_row_exp.l2_eq (fuel : Nat) (s : List (Int × Int × Int × Int × Int)) (a0 : Int) : ∀ (k : Nat) (x0 : Int) (x1 : Int) (x2 : Int), lp slices_IndexFunc_errand_row_errand_row_exp_E fuel Try.f39 [.raw] 2 slices_IndexFunc_errand_row_errand_row_exp.k 2 [] k (slices_IndexFunc_errand_row_errand_row_exp.s2 s a0 x0 x1 x2) = slices_IndexFunc_errand_row_errand_row_exp.l2 fuel s a0 k x0 x1 x2 := by
  intro k
  induction k with
  | zero => intro x0 x1 x2; rfl
  | succ k ih =>
    intro x0 x1 x2
    have h : lp slices_IndexFunc_errand_row_errand_row_exp_E fuel Try.f39 [.raw] 2 slices_IndexFunc_errand_row_errand_row_exp.k 2 [] (k + 1) (slices_IndexFunc_errand_row_errand_row_exp.s2 s a0 x0 x1 x2) = slices_IndexFunc_errand_row_errand_row_exp.b2 s a0 (fun x0 x1 x2 => lp slices_IndexFunc_errand_row_errand_row_exp_E fuel Try.f39 [.raw] 2 slices_IndexFunc_errand_row_errand_row_exp.k 2 [] k (slices_IndexFunc_errand_row_errand_row_exp.s2 s a0 x0 x1 x2)) x0 x1 x2 := by kernel_rfl
    rw [h]
    have e2 : (fun x0 x1 x2 => lp slices_IndexFunc_errand_row_errand_row_exp_E fuel Try.f39 [.raw] 2 slices_IndexFunc_errand_row_errand_row_exp.k 2 [] k (slices_IndexFunc_errand_row_errand_row_exp.s2 s a0 x0 x1 x2)) = slices_IndexFunc_errand_row_errand_row_exp.l2 fuel s a0 k := (funext fun x0 => (funext fun x1 => (funext fun x2 => ih x0 x1 x2)))
    rw [e2]
    rfl
theorem slices_IndexFunc_errand_row_errand_row_exp.eq (fuel : Nat) (s : List (Int × Int × Int × Int × Int)) (a0 : Int) : (denF slices_IndexFunc_errand_row_errand_row_exp_E loopN fuel Try.f39 [.raw] [.row 0, .fn (.func 41) [] [.ptr 1 0]] [.row 88 (.pair (.int .i64) (.pair (.int .i64) (.pair (.int .i64) (.pair (.int .i64) (.int .i64))))) s false, .box [.d (.int .i64) a0]] slices_IndexFunc_errand_row_errand_row_exp.k) = slices_IndexFunc_errand_row_errand_row_exp.f fuel s a0 := by
  have h : (denF slices_IndexFunc_errand_row_errand_row_exp_E loopN fuel Try.f39 [.raw] [.row 0, .fn (.func 41) [] [.ptr 1 0]] [.row 88 (.pair (.int .i64) (.pair (.int .i64) (.pair (.int .i64) (.pair (.int .i64) (.int .i64))))) s false, .box [.d (.int .i64) a0]] slices_IndexFunc_errand_row_errand_row_exp.k) = slices_IndexFunc_errand_row_errand_row_exp.b s a0 (fun x0 x1 x2 => lp slices_IndexFunc_errand_row_errand_row_exp_E fuel Try.f39 [.raw] 2 slices_IndexFunc_errand_row_errand_row_exp.k 2 [] fuel (slices_IndexFunc_errand_row_errand_row_exp.s2 s a0 x0 x1 x2)) := by kernel_rfl
  rw [h]
  have e2 : (fun x0 x1 x2 => lp slices_IndexFunc_errand_row_errand_row_exp_E fuel Try.f39 [.raw] 2 slices_IndexFunc_errand_row_errand_row_exp.k 2 [] fuel (slices_IndexFunc_errand_row_errand_row_exp.s2 s a0 x0 x1 x2)) = slices_IndexFunc_errand_row_errand_row_exp.l2 fuel s a0 fuel := (funext fun x0 => (funext fun x1 => (funext fun x2 => slices_IndexFunc_errand_row_errand_row_exp.l2_eq fuel s a0 fuel x0 x1 x2)))
  rw [e2]
  rfl
theorem slices_IndexFunc_errand_row_errand_row_exp.l2_at (fuel nN kK : Nat) (hN : nN = kK + 1) (s : List (Int × Int × Int × Int × Int)) (a0 : Int) (x0 : Int) (x1 : Int) (x2 : Int) : slices_IndexFunc_errand_row_errand_row_exp.l2 fuel s a0 nN x0 x1 x2 = slices_IndexFunc_errand_row_errand_row_exp.b2 s a0 (slices_IndexFunc_errand_row_errand_row_exp.l2 fuel s a0 kK) x0 x1 x2 := by
  subst hN
  rfl
noncomputable def s_slices_IndexFunc_errand_row_errand_row_exp : Den.Sum := ⟨[.own 88 (.pair (.int .i64) (.pair (.int .i64) (.pair (.int .i64) (.pair (.int .i64) (.int .i64))))), .raw], fun args objs κ => match args, objs with
  | [.row 0, .fn (.func 41) [] [.ptr 1 0]], [.row 88 (.pair (.int .i64) (.pair (.int .i64) (.pair (.int .i64) (.pair (.int .i64) (.int .i64))))) s false, .box [.d (.int .i64) a0]] => (match veil (slices_IndexFunc_errand_row_errand_row_exp.f BIG s a0) with | none => none | some y => κ [.d (.int .i64) y.1] [.row 88 (.pair (.int .i64) (.pair (.int .i64) (.pair (.int .i64) (.pair (.int .i64) (.int .i64))))) y.2.1 false, .box [.d (.int .i64) y.2.2]])
  | _, _ => none⟩
theorem s_slices_IndexFunc_errand_row_errand_row_exp_det : SumDet s_slices_IndexFunc_errand_row_errand_row_exp := fun avs objs R κ => by
  show s_slices_IndexFunc_errand_row_errand_row_exp.run avs objs (two κ) = (s_slices_IndexFunc_errand_row_errand_row_exp.run avs objs (two some)).bind κ
  unfold s_slices_IndexFunc_errand_row_errand_row_exp
  simp only [veil_eq]
  split
  · split <;> rfl
  · rfl
theorem s_slices_IndexFunc_errand_row_errand_row_exp_ok : SumOk Try.prog 39 s_slices_IndexFunc_errand_row_errand_row_exp := by
  have hE : EnvOk Try.prog slices_IndexFunc_errand_row_errand_row_exp_E := env_ok (l := [(41, s_errand_List_Expire_c1)]) th_ok any_ok ⟨⟨s_errand_List_Expire_c1_ok, s_errand_List_Expire_c1_det⟩, trivial⟩ _
  refine sum_ok hE Try.func39 rfl (by kernel_rfl) s_slices_IndexFunc_errand_row_errand_row_exp [.raw] slices_IndexFunc_errand_row_errand_row_exp.k ?_
  intro R avs objs κ r h
  unfold s_slices_IndexFunc_errand_row_errand_row_exp at h
  simp only [veil_eq] at h
  split at h
  · rename_i s a0
    split at h
    · cases h
    · rename_i y hy
      refine ⟨BIG, _, _, _, (slices_IndexFunc_errand_row_errand_row_exp.eq BIG s a0).trans hy, ?_, h⟩
      intro rs ros hk
      unfold slices_IndexFunc_errand_row_errand_row_exp.k at hk
      split at hk
      · first | (cases hk; exact ⟨rfl, rfl⟩) | (have e := Option.some.inj hk; rw [← e]; exact ⟨rfl, rfl⟩)
      · cases hk
  · cases h
noncomputable def s_slices_IndexFunc_errand_row_errand_row : Den.Sum := ⟨[.own 88 (.pair (.int .i64) (.pair (.int .i64) (.pair (.int .i64) (.pair (.int .i64) (.int .i64))))), .raw], fun args objs κ => match args, objs with
  | [.row 0, .fn (.func 37) [] [.ptr 1 0]], [.row 88 (.pair (.int .i64) (.pair (.int .i64) (.pair (.int .i64) (.pair (.int .i64) (.int .i64))))) s false, .box [.d (.int .i64) eSeq, .d (.int .i64) eTarget, .d (.int .i64) eTo, .d (.int .i64) eBack, .d (.int .i64) eUntil]] => s_slices_IndexFunc_errand_row_errand_row_put.run [.row 0, .fn (.func 37) [] [.ptr 1 0]] [.row 88 (.pair (.int .i64) (.pair (.int .i64) (.pair (.int .i64) (.pair (.int .i64) (.int .i64))))) s false, .box [.d (.int .i64) eSeq, .d (.int .i64) eTarget, .d (.int .i64) eTo, .d (.int .i64) eBack, .d (.int .i64) eUntil]] κ
  | [.row 0, .fn (.func 40) [] [.ptr 1 0, .ptr 2 0]], [.row 88 (.pair (.int .i64) (.pair (.int .i64) (.pair (.int .i64) (.pair (.int .i64) (.int .i64))))) s false, .box [.d (.int .i64) a0], .box [.d (.int .i64) b0]] => s_slices_IndexFunc_errand_row_errand_row_take.run [.row 0, .fn (.func 40) [] [.ptr 1 0, .ptr 2 0]] [.row 88 (.pair (.int .i64) (.pair (.int .i64) (.pair (.int .i64) (.pair (.int .i64) (.int .i64))))) s false, .box [.d (.int .i64) a0], .box [.d (.int .i64) b0]] κ
  | [.row 0, .fn (.func 41) [] [.ptr 1 0]], [.row 88 (.pair (.int .i64) (.pair (.int .i64) (.pair (.int .i64) (.pair (.int .i64) (.int .i64))))) s false, .box [.d (.int .i64) a0]] => s_slices_IndexFunc_errand_row_errand_row_exp.run [.row 0, .fn (.func 41) [] [.ptr 1 0]] [.row 88 (.pair (.int .i64) (.pair (.int .i64) (.pair (.int .i64) (.pair (.int .i64) (.int .i64))))) s false, .box [.d (.int .i64) a0]] κ
  | _, _ => none⟩
theorem s_slices_IndexFunc_errand_row_errand_row_det : SumDet s_slices_IndexFunc_errand_row_errand_row := fun avs objs R κ => by
  show s_slices_IndexFunc_errand_row_errand_row.run avs objs (two κ) = (s_slices_IndexFunc_errand_row_errand_row.run avs objs (two some)).bind κ
  unfold s_slices_IndexFunc_errand_row_errand_row
  simp only
  split
  · exact s_slices_IndexFunc_errand_row_errand_row_put_det _ _ R κ
  · exact s_slices_IndexFunc_errand_row_errand_row_take_det _ _ R κ
  · exact s_slices_IndexFunc_errand_row_errand_row_exp_det _ _ R κ
  · rfl
theorem s_slices_IndexFunc_errand_row_errand_row_ok : SumOk Try.prog 39 s_slices_IndexFunc_errand_row_errand_row := by
  refine ⟨s_slices_IndexFunc_errand_row_errand_row_put_ok.1, ?_⟩
  intro R avs objs κ r h
  unfold s_slices_IndexFunc_errand_row_errand_row at h
  simp only at h
  split at h
  · exact s_slices_IndexFunc_errand_row_errand_row_put_ok.2 _ _ κ r h
  · exact s_slices_IndexFunc_errand_row_errand_row_take_ok.2 _ _ κ r h
  · exact s_slices_IndexFunc_errand_row_errand_row_exp_ok.2 _ _ κ r h
  · cases h
noncomputable def errand_List_Take_E : Env := ⟨th, gam [(38, s_slices_Delete_errand_row_errand_row), (39, s_slices_IndexFunc_errand_row_errand_row), (40, s_errand_List_Take_c1)], fun i => ⟨[], [], []⟩⟩
noncomputable def errand_List_Take.k (rs : List AV) (os : List Den.Obj) : Option (Int × Int × Int × Int × Int × Bool × (List (Int × (Int × (Int × (Int × Int)))))) :=
  match rs, os with
  | [.agg [.d (.int .i64) r0, .d (.int .i64) r1, .d (.int .i64) r2, .d (.int .i64) r3, .d (.int .i64) r4], .d .bool r5], [.box [.row 2], .gone, .row 88 (.pair (.int .i64) (.pair (.int .i64) (.pair (.int .i64) (.pair (.int .i64) (.int .i64))))) r6 false] => some (r0, r1, r2, r3, r4, r5, r6)
  | _, _ => none
noncomputable def errand_List_Take.b (l : List (Int × Int × Int × Int × Int)) (from0 : Int) (seq : Int) : Option (Int × Int × Int × Int × Int × Bool × (List (Int × (Int × (Int × (Int × Int)))))) :=
  (match (veil (slices_IndexFunc_errand_row_errand_row_take.f BIG l seq from0)) with | none => none | some y0 => (if (decide (y0.1 < (0 : Int))) then some (0, 0, 0, 0, 0, false, y0.2.1) else (match (idx y0.2.1 y0.1) with | none => none | some y1 => (match (idx y0.2.1 y0.1) with | none => none | some y2 => (match (veil (slices_Delete_errand_row_errand_row.f BIG y0.2.1 y0.1 (Go.IntKind.wrap .i64 (y0.1 + (1 : Int))))) with | none => none | some y3 => some (y2.1, y2.2.1, y2.2.2.1, y2.2.2.2.1, y2.2.2.2.2, true, y3))))))
noncomputable def errand_List_Take.f (fuel : Nat) (l : List (Int × Int × Int × Int × Int)) (from0 : Int) (seq : Int) : Option (Int × Int × Int × Int × Int × Bool × (List (Int × (Int × (Int × (Int × Int)))))) := errand_List_Take.b l from0 seq
theorem errand_List_Take.eq (fuel : Nat) (l : List (Int × Int × Int × Int × Int)) (from0 : Int) (seq : Int) : (denF errand_List_Take_E loopN fuel Try.f11 [.dat (.pair (.int .i64) (.pair (.int .i64) (.pair (.int .i64) (.pair (.int .i64) (.int .i64))))) true, .raw, .pb [.own (some 0) [] 0 88 (.pair (.int .i64) (.pair (.int .i64) (.pair (.int .i64) (.pair (.int .i64) (.int .i64))))) true, .kill 1]] [.ptr 0 0, .d (.int .i64) from0, .d (.int .i64) seq] [.box [.row 1], .row 88 (.pair (.int .i64) (.pair (.int .i64) (.pair (.int .i64) (.pair (.int .i64) (.int .i64))))) l false] errand_List_Take.k) = errand_List_Take.f fuel l from0 seq := by
  kernel_rfl
noncomputable def s_errand_List_Take : Den.Sum := ⟨[.pb [.own none [] 0 88 (.pair (.int .i64) (.pair (.int .i64) (.pair (.int .i64) (.pair (.int .i64) (.int .i64))))) false], .raw, .raw], fun args objs κ => match args, objs with
  | [.ptr 0 0, .d (.int .i64) from0, .d (.int .i64) seq], [.box [.row 1], .row 88 (.pair (.int .i64) (.pair (.int .i64) (.pair (.int .i64) (.pair (.int .i64) (.int .i64))))) l false] => (match veil (errand_List_Take.f BIG l from0 seq) with | none => none | some y => κ [.agg [.d (.int .i64) y.1, .d (.int .i64) y.2.1, .d (.int .i64) y.2.2.1, .d (.int .i64) y.2.2.2.1, .d (.int .i64) y.2.2.2.2.1], .d .bool y.2.2.2.2.2.1] [.box [.row 2], .gone, .row 88 (.pair (.int .i64) (.pair (.int .i64) (.pair (.int .i64) (.pair (.int .i64) (.int .i64))))) y.2.2.2.2.2.2 false])
  | _, _ => none⟩
theorem s_errand_List_Take_det : SumDet s_errand_List_Take := fun avs objs R κ => by
  show s_errand_List_Take.run avs objs (two κ) = (s_errand_List_Take.run avs objs (two some)).bind κ
  unfold s_errand_List_Take
  simp only [veil_eq]
  split
  · split <;> rfl
  · rfl
theorem s_errand_List_Take_ok : SumOk Try.prog 11 s_errand_List_Take := by
  have hE : EnvOk Try.prog errand_List_Take_E := env_ok (l := [(38, s_slices_Delete_errand_row_errand_row), (39, s_slices_IndexFunc_errand_row_errand_row), (40, s_errand_List_Take_c1)]) th_ok any_ok ⟨⟨s_slices_Delete_errand_row_errand_row_ok, s_slices_Delete_errand_row_errand_row_det⟩, ⟨s_slices_IndexFunc_errand_row_errand_row_ok, s_slices_IndexFunc_errand_row_errand_row_det⟩, ⟨s_errand_List_Take_c1_ok, s_errand_List_Take_c1_det⟩, trivial⟩ _
  refine sum_ok hE Try.func11 rfl (by kernel_rfl) s_errand_List_Take [.dat (.pair (.int .i64) (.pair (.int .i64) (.pair (.int .i64) (.pair (.int .i64) (.int .i64))))) true, .raw, .pb [.own (some 0) [] 0 88 (.pair (.int .i64) (.pair (.int .i64) (.pair (.int .i64) (.pair (.int .i64) (.int .i64))))) true, .kill 1]] errand_List_Take.k ?_
  intro R avs objs κ r h
  unfold s_errand_List_Take at h
  simp only [veil_eq] at h
  split at h
  · rename_i from0 seq l
    split at h
    · cases h
    · rename_i y hy
      refine ⟨BIG, _, _, _, (errand_List_Take.eq BIG l from0 seq).trans hy, ?_, h⟩
      intro rs ros hk
      unfold errand_List_Take.k at hk
      split at hk
      · first | (cases hk; exact ⟨rfl, rfl⟩) | (have e := Option.some.inj hk; rw [← e]; exact ⟨rfl, rfl⟩)
      · cases hk
  · cases h
noncomputable def slices_DeleteFunc_errand_row_errand_row_put_E : Env := ⟨th, gam [(37, s_errand_List_Put_c1), (39, s_slices_IndexFunc_errand_row_errand_row)], fun i => if i = 888888 then ⟨[1], [], []⟩ else if i = 5 then ⟨[0, 1, 5, 6], [], []⟩ else ⟨[], [], []⟩⟩
noncomputable def slices_DeleteFunc_errand_row_errand_row_put.k (rs : List AV) (os : List Den.Obj) : Option (Int × Int × Int × Int × Int × (List (Int × (Int × (Int × (Int × Int)))))) :=
  match rs, os with
  | [.row 2], [.gone, .box [.d (.int .i64) r0, .d (.int .i64) r1, .d (.int .i64) r2, .d (.int .i64) r3, .d (.int .i64) r4], .row 88 (.pair (.int .i64) (.pair (.int .i64) (.pair (.int .i64) (.pair (.int .i64) (.int .i64))))) r5 false] => some (r0, r1, r2, r3, r4, r5)
  | _, _ => none
noncomputable def slices_DeleteFunc_errand_row_errand_row_put.s5 (s : List (Int × Int × Int × Int × Int)) (eSeq : Int) (eTarget : Int) (eTo : Int) (eBack : Int) (eUntil : Int) (x1 : Int) (x2 : Int) (x3 : (List (Int × (Int × (Int × (Int × Int)))))) (x4 : Int) (x5 : Int) (x6 : Int) (x7 : Int) (x8 : Int) : St := ⟨[.row 0, .fn (.func 37) [] [.ptr 1 0], .dead, .dead, .dead, .d (.int .i64) x1, .d (.int .i64) x2, .dead, .dead, .dead, .dead, .dead, .dead, .dead, .dead, .dead, .dead, .dead, .dead, .dead, .dead, .dead, .dead, .dead, .dead, .dead, .dead, .dead, .dead, .dead, .dead, .dead, .dead, .dead, .dead, .dead, .dead, .dead, .dead, .dead, .dead, .dead], ofL [(0, .row 88 (.pair (.int .i64) (.pair (.int .i64) (.pair (.int .i64) (.pair (.int .i64) (.int .i64))))) x3 false), (1, .box [.d (.int .i64) x4, .d (.int .i64) x5, .d (.int .i64) x6, .d (.int .i64) x7, .d (.int .i64) x8])], 2⟩
noncomputable def slices_DeleteFunc_errand_row_errand_row_put.b5 (s : List (Int × Int × Int × Int × Int)) (eSeq : Int) (eTarget : Int) (eTo : Int) (eBack : Int) (eUntil : Int) (A5 : Int → Int → (List (Int × (Int × (Int × (Int × Int))))) → Int → Int → Int → Int → Int → Option (Int × Int × Int × Int × Int × (List (Int × (Int × (Int × (Int × Int))))))) (x1 : Int) (x2 : Int) (x3 : (List (Int × (Int × (Int × (Int × Int)))))) (x4 : Int) (x5 : Int) (x6 : Int) (x7 : Int) (x8 : Int) : Option (Int × Int × Int × Int × Int × (List (Int × (Int × (Int × (Int × Int)))))) :=
  (if (decide (x2 < ((((List.length x3)) : Nat) : Int))) then (match (idx x3 x2) with | none => none | some y9 => (match (idx x3 x2) with | none => none | some y10 => (match (veil (errand_List_Put_c1.f BIG y10.1 y10.2.1 y10.2.2.1 y10.2.2.2.1 y10.2.2.2.2 x4 x5 x6 x7 x8)) with | none => none | some y11 => (if (!y11.1) then (match (idx x3 x1) with | none => none | some y12 => (match (idx x3 x1) with | none => none | some y13 => A5 (Go.IntKind.wrap .i64 (x1 + (1 : Int))) (Go.IntKind.wrap .i64 (x2 + (1 : Int))) (List.set x3 (Int.toNat x1) (y10.1, (y10.2.1, (y10.2.2.1, (y10.2.2.2.1, y10.2.2.2.2))))) y11.2.1 y11.2.2.1 y11.2.2.2.1 y11.2.2.2.2.1 y11.2.2.2.2.2)) else A5 x1 (Go.IntKind.wrap .i64 (x2 + (1 : Int))) x3 y11.2.1 y11.2.2.1 y11.2.2.2.1 y11.2.2.2.2.1 y11.2.2.2.2.2)))) else (if (((0 : Int) ≤ x1) ∧ (x1 ≤ ((((List.length x3)) : Nat) : Int))) then (if (((Int.toNat x1) ≤ (List.length x3)) ∧ ((List.length x3) ≤ (List.length x3))) then (if (((0 : Int) ≤ x1) ∧ (x1 ≤ ((((List.length (((List.take (Int.toNat x1) x3) ++ (List.replicate ((List.length x3) - (Int.toNat x1)) (zeroI (Go.Den.Ty.pair (Go.Den.Ty.int .i64) (Go.Den.Ty.pair (Go.Den.Ty.int .i64) (Go.Den.Ty.pair (Go.Den.Ty.int .i64) (Go.Den.Ty.pair (Go.Den.Ty.int .i64) (Go.Den.Ty.int .i64)))))))) ++ (List.drop (List.length x3) x3)))) : Nat) : Int))) then (if (((0 : Nat) = (0 : Nat)) ∧ ((Int.toNat x1) ≤ (List.length (((List.take (Int.toNat x1) x3) ++ (List.replicate ((List.length x3) - (Int.toNat x1)) (zeroI (Go.Den.Ty.pair (Go.Den.Ty.int .i64) (Go.Den.Ty.pair (Go.Den.Ty.int .i64) (Go.Den.Ty.pair (Go.Den.Ty.int .i64) (Go.Den.Ty.pair (Go.Den.Ty.int .i64) (Go.Den.Ty.int .i64)))))))) ++ (List.drop (List.length x3) x3))))) then some (x4, x5, x6, x7, x8, (List.take (Int.toNat x1) (((List.take (Int.toNat x1) x3) ++ (List.replicate ((List.length x3) - (Int.toNat x1)) (zeroI (Go.Den.Ty.pair (Go.Den.Ty.int .i64) (Go.Den.Ty.pair (Go.Den.Ty.int .i64) (Go.Den.Ty.pair (Go.Den.Ty.int .i64) (Go.Den.Ty.pair (Go.Den.Ty.int .i64) (Go.Den.Ty.int .i64)))))))) ++ (List.drop (List.length x3) x3)))) else none) else none) else none) else none))
noncomputable def slices_DeleteFunc_errand_row_errand_row_put.l5 (fuel : Nat) (s : List (Int × Int × Int × Int × Int)) (eSeq : Int) (eTarget : Int) (eTo : Int) (eBack : Int) (eUntil : Int) : Nat → Int → Int → (List (Int × (Int × (Int × (Int × Int))))) → Int → Int → Int → Int → Int → Option (Int × Int × Int × Int × Int × (List (Int × (Int × (Int × (Int × Int))))))
  | 0, _, _, _, _, _, _, _, _ => none
  | k + 1, x1, x2, x3, x4, x5, x6, x7, x8 => slices_DeleteFunc_errand_row_errand_row_put.b5 s eSeq eTarget eTo eBack eUntil (slices_DeleteFunc_errand_row_errand_row_put.l5 fuel s eSeq eTarget eTo eBack eUntil k) x1 x2 x3 x4 x5 x6 x7 x8
noncomputable def slices_DeleteFunc_errand_row_errand_row_put.b (s : List (Int × Int × Int × Int × Int)) (eSeq : Int) (eTarget : Int) (eTo : Int) (eBack : Int) (eUntil : Int) (E5 : Int → Int → (List (Int × (Int × (Int × (Int × Int))))) → Int → Int → Int → Int → Int → Option (Int × Int × Int × Int × Int × (List (Int × (Int × (Int × (Int × Int))))))) : Option (Int × Int × Int × Int × Int × (List (Int × (Int × (Int × (Int × Int)))))) :=
  (match (veil (slices_IndexFunc_errand_row_errand_row_put.f BIG s eSeq eTarget eTo eBack eUntil)) with | none => none | some y0 => (if (y0.1 == (-(1 : Int))) then some (y0.2.2.1, y0.2.2.2.1, y0.2.2.2.2.1, y0.2.2.2.2.2.1, y0.2.2.2.2.2.2, y0.2.1) else E5 y0.1 (Go.IntKind.wrap .i64 (y0.1 + (1 : Int))) y0.2.1 y0.2.2.1 y0.2.2.2.1 y0.2.2.2.2.1 y0.2.2.2.2.2.1 y0.2.2.2.2.2.2))
noncomputable def slices_DeleteFunc_errand_row_errand_row_put.f (fuel : Nat) (s : List (Int × Int × Int × Int × Int)) (eSeq : Int) (eTarget : Int) (eTo : Int) (eBack : Int) (eUntil : Int) : Option (Int × Int × Int × Int × Int × (List (Int × (Int × (Int × (Int × Int)))))) := slices_DeleteFunc_errand_row_errand_row_put.b s eSeq eTarget eTo eBack eUntil (slices_DeleteFunc_errand_row_errand_row_put.l5 fuel s eSeq eTarget eTo eBack eUntil fuel)
theorem slices_DeleteFunc_errand_row_errand_row_put.l5_eq (fuel : Nat) (s : List (Int × Int × Int × Int × Int)) (eSeq : Int) (eTarget : Int) (eTo : Int) (eBack : Int) (eUntil : Int) : ∀ (k : Nat) (x1 : Int) (x2 : Int) (x3 : (List (Int × (Int × (Int × (Int × Int)))))) (x4 : Int) (x5 : Int) (x6 : Int) (x7 : Int) (x8 : Int), lp slices_DeleteFunc_errand_row_errand_row_put_E fuel Try.f36 [.mv 88 (.pair (.int .i64) (.pair (.int .i64) (.pair (.int .i64) (.pair (.int .i64) (.int .i64)))))] 2 slices_DeleteFunc_errand_row_errand_row_put.k 5 [] k (slices_DeleteFunc_errand_row_errand_row_put.s5 s eSeq eTarget eTo eBack eUntil x1 x2 x3 x4 x5 x6 x7 x8) = slices_DeleteFunc_errand_row_errand_row_put.l5 fuel s eSeq eTarget eTo eBack eUntil k x1 x2 x3 x4 x5 x6 x7 x8 := by
  intro k
  induction k with
  | zero => intro x1 x2 x3 x4 x5 x6 x7 x8; rfl
  | succ k ih =>
    intro x1 x2 x3 x4 x5 x6 x7 x8
    have h : lp slices_DeleteFunc_errand_row_errand_row_put_E fuel Try.f36 [.mv 88 (.pair (.int .i64) (.pair (.int .i64) (.pair (.int .i64) (.pair (.int .i64) (.int .i64)))))] 2 slices_DeleteFunc_errand_row_errand_row_put.k 5 [] (k + 1) (slices_DeleteFunc_errand_row_errand_row_put.s5 s eSeq eTarget eTo eBack eUntil x1 x2 x3 x4 x5 x6 x7 x8) = slices_DeleteFunc_errand_row_errand_row_put.b5 s eSeq eTarget eTo eBack eUntil (fun x1 x2 x3 x4 x5 x6 x7 x8 => lp slices_DeleteFunc_errand_row_errand_row_put_E fuel Try.f36 [.mv 88 (.pair (.int .i64) (.pair (.int .i64) (.pair (.int .i64) (.pair (.int .i64) (.int .i64)))))] 2 slices_DeleteFunc_errand_row_errand_row_put.k 5 [] k (slices_DeleteFunc_errand_row_errand_row_put.s5 s eSeq eTarget eTo eBack eUntil x1 x2 x3 x4 x5 x6 x7 x8)) x1 x2 x3 x4 x5 x6 x7 x8 := by kernel_rfl
    rw [h]
    have e5 : (fun x1 x2 x3 x4 x5 x6 x7 x8 => lp slices_DeleteFunc_errand_row_errand_row_put_E fuel Try.f36 [.mv 88 (.pair (.int .i64) (.pair (.int .i64) (.pair (.int .i64) (.pair (.int .i64) (.int .i64)))))] 2 slices_DeleteFunc_errand_row_errand_row_put.k 5 [] k (slices_DeleteFunc_errand_row_errand_row_put.s5 s eSeq eTarget eTo eBack eUntil x1 x2 x3 x4 x5 x6 x7 x8)) = slices_DeleteFunc_errand_row_errand_row_put.l5 fuel s eSeq eTarget eTo eBack eUntil k := (funext fun x1 => (funext fun x2 => (funext fun x3 => (funext fun x4 => (funext fun x5 => (funext fun x6 => (funext fun x7 => (funext fun x8 => ih x1 x2 x3 x4 x5 x6 x7 x8))))))))
    rw [e5]
    rfl
theorem slices_DeleteFunc_errand_row_errand_row_put.eq (fuel : Nat) (s : List (Int × Int × Int × Int × Int)) (eSeq : Int) (eTarget : Int) (eTo : Int) (eBack : Int) (eUntil : Int) : (denF slices_DeleteFunc_errand_row_errand_row_put_E loopN fuel Try.f36 [.mv 88 (.pair (.int .i64) (.pair (.int .i64) (.pair (.int .i64) (.pair (.int .i64) (.int .i64)))))] [.row 0, .fn (.func 37) [] [.ptr 1 0]] [.row 88 (.pair (.int .i64) (.pair (.int .i64) (.pair (.int .i64) (.pair (.int .i64) (.int .i64))))) s false, .box [.d (.int .i64) eSeq, .d (.int .i64) eTarget, .d (.int .i64) eTo, .d (.int .i64) eBack, .d (.int .i64) eUntil]] slices_DeleteFunc_errand_row_errand_row_put.k) = slices_DeleteFunc_errand_row_errand_row_put.f fuel s eSeq eTarget eTo eBack eUntil := by
  have h : (denF slices_DeleteFunc_errand_row_errand_row_put_E loopN fuel Try.f36 [.mv 88 (.pair (.int .i64) (.pair (.int .i64) (.pair (.int .i64) (.pair (.int .i64) (.int .i64)))))] [.row 0, .fn (.func 37) [] [.ptr 1 0]] [.row 88 (.pair (.int .i64) (.pair (.int .i64) (.pair (.int .i64) (.pair (.int .i64) (.int .i64))))) s false, .box [.d (.int .i64) eSeq, .d (.int .i64) eTarget, .d (.int .i64) eTo, .d (.int .i64) eBack, .d (.int .i64) eUntil]] slices_DeleteFunc_errand_row_errand_row_put.k) = slices_DeleteFunc_errand_row_errand_row_put.b s eSeq eTarget eTo eBack eUntil (fun x1 x2 x3 x4 x5 x6 x7 x8 => lp slices_DeleteFunc_errand_row_errand_row_put_E fuel Try.f36 [.mv 88 (.pair (.int .i64) (.pair (.int .i64) (.pair (.int .i64) (.pair (.int .i64) (.int .i64)))))] 2 slices_DeleteFunc_errand_row_errand_row_put.k 5 [] fuel (slices_DeleteFunc_errand_row_errand_row_put.s5 s eSeq eTarget eTo eBack eUntil x1 x2 x3 x4 x5 x6 x7 x8)) := by kernel_rfl
  rw [h]
  have e5 : (fun x1 x2 x3 x4 x5 x6 x7 x8 => lp slices_DeleteFunc_errand_row_errand_row_put_E fuel Try.f36 [.mv 88 (.pair (.int .i64) (.pair (.int .i64) (.pair (.int .i64) (.pair (.int .i64) (.int .i64)))))] 2 slices_DeleteFunc_errand_row_errand_row_put.k 5 [] fuel (slices_DeleteFunc_errand_row_errand_row_put.s5 s eSeq eTarget eTo eBack eUntil x1 x2 x3 x4 x5 x6 x7 x8)) = slices_DeleteFunc_errand_row_errand_row_put.l5 fuel s eSeq eTarget eTo eBack eUntil fuel := (funext fun x1 => (funext fun x2 => (funext fun x3 => (funext fun x4 => (funext fun x5 => (funext fun x6 => (funext fun x7 => (funext fun x8 => slices_DeleteFunc_errand_row_errand_row_put.l5_eq fuel s eSeq eTarget eTo eBack eUntil fuel x1 x2 x3 x4 x5 x6 x7 x8))))))))
  rw [e5]
  rfl
theorem slices_DeleteFunc_errand_row_errand_row_put.l5_at (fuel nN kK : Nat) (hN : nN = kK + 1) (s : List (Int × Int × Int × Int × Int)) (eSeq : Int) (eTarget : Int) (eTo : Int) (eBack : Int) (eUntil : Int) (x1 : Int) (x2 : Int) (x3 : (List (Int × (Int × (Int × (Int × Int)))))) (x4 : Int) (x5 : Int) (x6 : Int) (x7 : Int) (x8 : Int) : slices_DeleteFunc_errand_row_errand_row_put.l5 fuel s eSeq eTarget eTo eBack eUntil nN x1 x2 x3 x4 x5 x6 x7 x8 = slices_DeleteFunc_errand_row_errand_row_put.b5 s eSeq eTarget eTo eBack eUntil (slices_DeleteFunc_errand_row_errand_row_put.l5 fuel s eSeq eTarget eTo eBack eUntil kK) x1 x2 x3 x4 x5 x6 x7 x8 := by
  subst hN
  rfl
noncomputable def s_slices_DeleteFunc_errand_row_errand_row_put : Den.Sum := ⟨[.own 88 (.pair (.int .i64) (.pair (.int .i64) (.pair (.int .i64) (.pair (.int .i64) (.int .i64))))), .raw], fun args objs κ => match args, objs with
  | [.row 0, .fn (.func 37) [] [.ptr 1 0]], [.row 88 (.pair (.int .i64) (.pair (.int .i64) (.pair (.int .i64) (.pair (.int .i64) (.int .i64))))) s false, .box [.d (.int .i64) eSeq, .d (.int .i64) eTarget, .d (.int .i64) eTo, .d (.int .i64) eBack, .d (.int .i64) eUntil]] => (match veil (slices_DeleteFunc_errand_row_errand_row_put.f BIG s eSeq eTarget eTo eBack eUntil) with | none => none | some y => κ [.row 2] [.gone, .box [.d (.int .i64) y.1, .d (.int .i64) y.2.1, .d (.int .i64) y.2.2.1, .d (.int .i64) y.2.2.2.1, .d (.int .i64) y.2.2.2.2.1], .row 88 (.pair (.int .i64) (.pair (.int .i64) (.pair (.int .i64) (.pair (.int .i64) (.int .i64))))) y.2.2.2.2.2 false])
  | _, _ => none⟩
theorem s_slices_DeleteFunc_errand_row_errand_row_put_det : SumDet s_slices_DeleteFunc_errand_row_errand_row_put := fun avs objs R κ => by
  show s_slices_DeleteFunc_errand_row_errand_row_put.run avs objs (two κ) = (s_slices_DeleteFunc_errand_row_errand_row_put.run avs objs (two some)).bind κ
  unfold s_slices_DeleteFunc_errand_row_errand_row_put
  simp only [veil_eq]
  split
  · split <;> rfl
  · rfl
theorem s_slices_DeleteFunc_errand_row_errand_row_put_ok : SumOk Try.prog 36 s_slices_DeleteFunc_errand_row_errand_row_put := by
  have hE : EnvOk Try.prog slices_DeleteFunc_errand_row_errand_row_put_E := env_ok (l := [(37, s_errand_List_Put_c1), (39, s_slices_IndexFunc_errand_row_errand_row)]) th_ok any_ok ⟨⟨s_errand_List_Put_c1_ok, s_errand_List_Put_c1_det⟩, ⟨s_slices_IndexFunc_errand_row_errand_row_ok, s_slices_IndexFunc_errand_row_errand_row_det⟩, trivial⟩ _
  refine sum_ok hE Try.func36 rfl (by kernel_rfl) s_slices_DeleteFunc_errand_row_errand_row_put [.mv 88 (.pair (.int .i64) (.pair (.int .i64) (.pair (.int .i64) (.pair (.int .i64) (.int .i64)))))] slices_DeleteFunc_errand_row_errand_row_put.k ?_
  intro R avs objs κ r h
  unfold s_slices_DeleteFunc_errand_row_errand_row_put at h
  simp only [veil_eq] at h
  split at h
  · rename_i s eSeq eTarget eTo eBack eUntil
    split at h
    · cases h
    · rename_i y hy
      refine ⟨BIG, _, _, _, (slices_DeleteFunc_errand_row_errand_row_put.eq BIG s eSeq eTarget eTo eBack eUntil).trans hy, ?_, h⟩
      intro rs ros hk
      unfold slices_DeleteFunc_errand_row_errand_row_put.k at hk
      split at hk
      · first | (cases hk; exact ⟨rfl, rfl⟩) | (have e := Option.some.inj hk; rw [← e]; exact ⟨rfl, rfl⟩)
      · cases hk
  · cases h
noncomputable def slices_DeleteFunc_errand_row_errand_row_exp_E : Env := ⟨th, gam [(41, s_errand_List_Expire_c1), (39, s_slices_IndexFunc_errand_row_errand_row)], fun i => if i = 888888 then ⟨[1], [], []⟩ else if i = 5 then ⟨[0, 1, 5, 6], [], []⟩ else ⟨[], [], []⟩⟩
noncomputable def slices_DeleteFunc_errand_row_errand_row_exp.k (rs : List AV) (os : List Den.Obj) : Option (Int × (List (Int × (Int × (Int × (Int × Int)))))) :=
  match rs, os with
  | [.row 2], [.gone, .box [.d (.int .i64) r0], .row 88 (.pair (.int .i64) (.pair (.int .i64) (.pair (.int .i64) (.pair (.int .i64) (.int .i64))))) r1 false] => some (r0, r1)
  | _, _ => none
noncomputable def slices_DeleteFunc_errand_row_errand_row_exp.s5 (s : List (Int × Int × Int × Int × Int)) (a0 : Int) (x1 : Int) (x2 : Int) (x3 : (List (Int × (Int × (Int × (Int × Int)))))) (x4 : Int) : St := ⟨[.row 0, .fn (.func 41) [] [.ptr 1 0], .dead, .dead, .dead, .d (.int .i64) x1, .d (.int .i64) x2, .dead, .dead, .dead, .dead, .dead, .dead, .dead, .dead, .dead, .dead, .dead, .dead, .dead, .dead, .dead, .dead, .dead, .dead, .dead, .dead, .dead, .dead, .dead, .dead, .dead, .dead, .dead, .dead, .dead, .dead, .dead, .dead, .dead, .dead, .dead], ofL [(0, .row 88 (.pair (.int .i64) (.pair (.int .i64) (.pair (.int .i64) (.pair (.int .i64) (.int .i64))))) x3 false), (1, .box [.d (.int .i64) x4])], 2⟩
noncomputable def slices_DeleteFunc_errand_row_errand_row_exp.b5 (s : List (Int × Int × Int × Int × Int)) (a0 : Int) (A5 : Int → Int → (List (Int × (Int × (Int × (Int × Int))))) → Int → Option (Int × (List (Int × (Int × (Int × (Int × Int))))))) (x1 : Int) (x2 : Int) (x3 : (List (Int × (Int × (Int × (Int × Int)))))) (x4 : Int) : Option (Int × (List (Int × (Int × (Int × (Int × Int)))))) :=
  (if (decide (x2 < ((((List.length x3)) : Nat) : Int))) then (match (idx x3 x2) with | none => none | some y5 => (match (idx x3 x2) with | none => none | some y6 => (match (veil (errand_List_Expire_c1.f BIG y6.1 y6.2.1 y6.2.2.1 y6.2.2.2.1 y6.2.2.2.2 x4)) with | none => none | some y7 => (if (!y7.1) then (match (idx x3 x1) with | none => none | some y8 => (match (idx x3 x1) with | none => none | some y9 => A5 (Go.IntKind.wrap .i64 (x1 + (1 : Int))) (Go.IntKind.wrap .i64 (x2 + (1 : Int))) (List.set x3 (Int.toNat x1) (y6.1, (y6.2.1, (y6.2.2.1, (y6.2.2.2.1, y6.2.2.2.2))))) y7.2)) else A5 x1 (Go.IntKind.wrap .i64 (x2 + (1 : Int))) x3 y7.2)))) else (if (((0 : Int) ≤ x1) ∧ (x1 ≤ ((((List.length x3)) : Nat) : Int))) then (if (((Int.toNat x1) ≤ (List.length x3)) ∧ ((List.length x3) ≤ (List.length x3))) then (if (((0 : Int) ≤ x1) ∧ (x1 ≤ ((((List.length (((List.take (Int.toNat x1) x3) ++ (List.replicate ((List.length x3) - (Int.toNat x1)) (zeroI (Go.Den.Ty.pair (Go.Den.Ty.int .i64) (Go.Den.Ty.pair (Go.Den.Ty.int .i64) (Go.Den.Ty.pair (Go.Den.Ty.int .i64) (Go.Den.Ty.pair (Go.Den.Ty.int .i64) (Go.Den.Ty.int .i64)))))))) ++ (List.drop (List.length x3) x3)))) : Nat) : Int))) then (if (((0 : Nat) = (0 : Nat)) ∧ ((Int.toNat x1) ≤ (List.length (((List.take (Int.toNat x1) x3) ++ (List.replicate ((List.length x3) - (Int.toNat x1)) (zeroI (Go.Den.Ty.pair (Go.Den.Ty.int .i64) (Go.Den.Ty.pair (Go.Den.Ty.int .i64) (Go.Den.Ty.pair (Go.Den.Ty.int .i64) (Go.Den.Ty.pair (Go.Den.Ty.int .i64) (Go.Den.Ty.int .i64)))))))) ++ (List.drop (List.length x3) x3))))) then some (x4, (List.take (Int.toNat x1) (((List.take (Int.toNat x1) x3) ++ (List.replicate ((List.length x3) - (Int.toNat x1)) (zeroI (Go.Den.Ty.pair (Go.Den.Ty.int .i64) (Go.Den.Ty.pair (Go.Den.Ty.int .i64) (Go.Den.Ty.pair (Go.Den.Ty.int .i64) (Go.Den.Ty.pair (Go.Den.Ty.int .i64) (Go.Den.Ty.int .i64)))))))) ++ (List.drop (List.length x3) x3)))) else none) else none) else none) else none))
noncomputable def slices_DeleteFunc_errand_row_errand_row_exp.l5 (fuel : Nat) (s : List (Int × Int × Int × Int × Int)) (a0 : Int) : Nat → Int → Int → (List (Int × (Int × (Int × (Int × Int))))) → Int → Option (Int × (List (Int × (Int × (Int × (Int × Int))))))
  | 0, _, _, _, _ => none
  | k + 1, x1, x2, x3, x4 => slices_DeleteFunc_errand_row_errand_row_exp.b5 s a0 (slices_DeleteFunc_errand_row_errand_row_exp.l5 fuel s a0 k) x1 x2 x3 x4
noncomputable def slices_DeleteFunc_errand_row_errand_row_exp.b (s : List (Int × Int × Int × Int × Int)) (a0 : Int) (E5 : Int → Int → (List (Int × (Int × (Int × (Int × Int))))) → Int → Option (Int × (List (Int × (Int × (Int × (Int × Int))))))) : Option (Int × (List (Int × (Int × (Int × (Int × Int)))))) :=
  (match (veil (slices_IndexFunc_errand_row_errand_row_exp.f BIG s a0)) with | none => none | some y0 => (if (y0.1 == (-(1 : Int))) then some (y0.2.2, y0.2.1) else E5 y0.1 (Go.IntKind.wrap .i64 (y0.1 + (1 : Int))) y0.2.1 y0.2.2))
noncomputable def slices_DeleteFunc_errand_row_errand_row_exp.f (fuel : Nat) (s : List (Int × Int × Int × Int × Int)) (a0 : Int) : Option (Int × (List (Int × (Int × (Int × (Int × Int)))))) := slices_DeleteFunc_errand_row_errand_row_exp.b s a0 (slices_DeleteFunc_errand_row_errand_row_exp.l5 fuel s a0 fuel)
theorem slices_DeleteFunc_errand_row_errand_row_exp.l5_eq (fuel : Nat) (s : List (Int × Int × Int × Int × Int)) (a0 : Int) : ∀ (k : Nat) (x1 : Int) (x2 : Int) (x3 : (List (Int × (Int × (Int × (Int × Int)))))) (x4 : Int), lp slices_DeleteFunc_errand_row_errand_row_exp_E fuel Try.f36 [.mv 88 (.pair (.int .i64) (.pair (.int .i64) (.pair (.int .i64) (.pair (.int .i64) (.int .i64)))))] 2 slices_DeleteFunc_errand_row_errand_row_exp.k 5 [] k (slices_DeleteFunc_errand_row_errand_row_exp.s5 s a0 x1 x2 x3 x4) = slices_DeleteFunc_errand_row_errand_row_exp.l5 fuel s a0 k x1 x2 x3 x4 := by
  intro k
  induction k with
  | zero => intro x1 x2 x3 x4; rfl
  | succ k ih =>
    intro x1 x2 x3 x4
    have h : lp slices_DeleteFunc_errand_row_errand_row_exp_E fuel Try.f36 [.mv 88 (.pair (.int .i64) (.pair (.int .i64) (.pair (.int .i64) (.pair (.int .i64) (.int .i64)))))] 2 slices_DeleteFunc_errand_row_errand_row_exp.k 5 [] (k + 1) (slices_DeleteFunc_errand_row_errand_row_exp.s5 s a0 x1 x2 x3 x4) = slices_DeleteFunc_errand_row_errand_row_exp.b5 s a0 (fun x1 x2 x3 x4 => lp slices_DeleteFunc_errand_row_errand_row_exp_E fuel Try.f36 [.mv 88 (.pair (.int .i64) (.pair (.int .i64) (.pair (.int .i64) (.pair (.int .i64) (.int .i64)))))] 2 slices_DeleteFunc_errand_row_errand_row_exp.k 5 [] k (slices_DeleteFunc_errand_row_errand_row_exp.s5 s a0 x1 x2 x3 x4)) x1 x2 x3 x4 := by kernel_rfl
    rw [h]
    have e5 : (fun x1 x2 x3 x4 => lp slices_DeleteFunc_errand_row_errand_row_exp_E fuel Try.f36 [.mv 88 (.pair (.int .i64) (.pair (.int .i64) (.pair (.int .i64) (.pair (.int .i64) (.int .i64)))))] 2 slices_DeleteFunc_errand_row_errand_row_exp.k 5 [] k (slices_DeleteFunc_errand_row_errand_row_exp.s5 s a0 x1 x2 x3 x4)) = slices_DeleteFunc_errand_row_errand_row_exp.l5 fuel s a0 k := (funext fun x1 => (funext fun x2 => (funext fun x3 => (funext fun x4 => ih x1 x2 x3 x4))))
    rw [e5]
    rfl
theorem slices_DeleteFunc_errand_row_errand_row_exp.eq (fuel : Nat) (s : List (Int × Int × Int × Int × Int)) (a0 : Int) : (denF slices_DeleteFunc_errand_row_errand_row_exp_E loopN fuel Try.f36 [.mv 88 (.pair (.int .i64) (.pair (.int .i64) (.pair (.int .i64) (.pair (.int .i64) (.int .i64)))))] [.row 0, .fn (.func 41) [] [.ptr 1 0]] [.row 88 (.pair (.int .i64) (.pair (.int .i64) (.pair (.int .i64) (.pair (.int .i64) (.int .i64))))) s false, .box [.d (.int .i64) a0]] slices_DeleteFunc_errand_row_errand_row_exp.k) = slices_DeleteFunc_errand_row_errand_row_exp.f fuel s a0 := by
  have h : (denF slices_DeleteFunc_errand_row_errand_row_exp_E loopN fuel Try.f36 [.mv 88 (.pair (.int .i64) (.pair (.int .i64) (.pair (.int .i64) (.pair (.int .i64) (.int .i64)))))] [.row 0, .fn (.func 41) [] [.ptr 1 0]] [.row 88 (.pair (.int .i64) (.pair (.int .i64) (.pair (.int .i64) (.pair (.int .i64) (.int .i64))))) s false, .box [.d (.int .i64) a0]] slices_DeleteFunc_errand_row_errand_row_exp.k) = slices_DeleteFunc_errand_row_errand_row_exp.b s a0 (fun x1 x2 x3 x4 => lp slices_DeleteFunc_errand_row_errand_row_exp_E fuel Try.f36 [.mv 88 (.pair (.int .i64) (.pair (.int .i64) (.pair (.int .i64) (.pair (.int .i64) (.int .i64)))))] 2 slices_DeleteFunc_errand_row_errand_row_exp.k 5 [] fuel (slices_DeleteFunc_errand_row_errand_row_exp.s5 s a0 x1 x2 x3 x4)) := by kernel_rfl
  rw [h]
  have e5 : (fun x1 x2 x3 x4 => lp slices_DeleteFunc_errand_row_errand_row_exp_E fuel Try.f36 [.mv 88 (.pair (.int .i64) (.pair (.int .i64) (.pair (.int .i64) (.pair (.int .i64) (.int .i64)))))] 2 slices_DeleteFunc_errand_row_errand_row_exp.k 5 [] fuel (slices_DeleteFunc_errand_row_errand_row_exp.s5 s a0 x1 x2 x3 x4)) = slices_DeleteFunc_errand_row_errand_row_exp.l5 fuel s a0 fuel := (funext fun x1 => (funext fun x2 => (funext fun x3 => (funext fun x4 => slices_DeleteFunc_errand_row_errand_row_exp.l5_eq fuel s a0 fuel x1 x2 x3 x4))))
  rw [e5]
  rfl
theorem slices_DeleteFunc_errand_row_errand_row_exp.l5_at (fuel nN kK : Nat) (hN : nN = kK + 1) (s : List (Int × Int × Int × Int × Int)) (a0 : Int) (x1 : Int) (x2 : Int) (x3 : (List (Int × (Int × (Int × (Int × Int)))))) (x4 : Int) : slices_DeleteFunc_errand_row_errand_row_exp.l5 fuel s a0 nN x1 x2 x3 x4 = slices_DeleteFunc_errand_row_errand_row_exp.b5 s a0 (slices_DeleteFunc_errand_row_errand_row_exp.l5 fuel s a0 kK) x1 x2 x3 x4 := by
  subst hN
  rfl
noncomputable def s_slices_DeleteFunc_errand_row_errand_row_exp : Den.Sum := ⟨[.own 88 (.pair (.int .i64) (.pair (.int .i64) (.pair (.int .i64) (.pair (.int .i64) (.int .i64))))), .raw], fun args objs κ => match args, objs with
  | [.row 0, .fn (.func 41) [] [.ptr 1 0]], [.row 88 (.pair (.int .i64) (.pair (.int .i64) (.pair (.int .i64) (.pair (.int .i64) (.int .i64))))) s false, .box [.d (.int .i64) a0]] => (match veil (slices_DeleteFunc_errand_row_errand_row_exp.f BIG s a0) with | none => none | some y => κ [.row 2] [.gone, .box [.d (.int .i64) y.1], .row 88 (.pair (.int .i64) (.pair (.int .i64) (.pair (.int .i64) (.pair (.int .i64) (.int .i64))))) y.2 false])
  | _, _ => none⟩
theorem s_slices_DeleteFunc_errand_row_errand_row_exp_det : SumDet s_slices_DeleteFunc_errand_row_errand_row_exp := fun avs objs R κ => by
  show s_slices_DeleteFunc_errand_row_errand_row_exp.run avs objs (two κ) = (s_slices_DeleteFunc_errand_row_errand_row_exp.run avs objs (two some)).bind κ
  unfold s_slices_DeleteFunc_errand_row_errand_row_exp
  simp only [veil_eq]
  split
  · split <;> rfl
  · rfl
theorem s_slices_DeleteFunc_errand_row_errand_row_exp_ok : SumOk Try.prog 36 s_slices_DeleteFunc_errand_row_errand_row_exp := by
  have hE : EnvOk Try.prog slices_DeleteFunc_errand_row_errand_row_exp_E := env_ok (l := [(41, s_errand_List_Expire_c1), (39, s_slices_IndexFunc_errand_row_errand_row)]) th_ok any_ok ⟨⟨s_errand_List_Expire_c1_ok, s_errand_List_Expire_c1_det⟩, ⟨s_slices_IndexFunc_errand_row_errand_row_ok, s_slices_IndexFunc_errand_row_errand_row_det⟩, trivial⟩ _
  refine sum_ok hE Try.func36 rfl (by kernel_rfl) s_slices_DeleteFunc_errand_row_errand_row_exp [.mv 88 (.pair (.int .i64) (.pair (.int .i64) (.pair (.int .i64) (.pair (.int .i64) (.int .i64)))))] slices_DeleteFunc_errand_row_errand_row_exp.k ?_
  intro R avs objs κ r h
  unfold s_slices_DeleteFunc_errand_row_errand_row_exp at h
  simp only [veil_eq] at h
  split at h
  · rename_i s a0
    split at h
    · cases h
    · rename_i y hy
      refine ⟨BIG, _, _, _, (slices_DeleteFunc_errand_row_errand_row_exp.eq BIG s a0).trans hy, ?_, h⟩
      intro rs ros hk
      unfold slices_DeleteFunc_errand_row_errand_row_exp.k at hk
      split at hk
      · first | (cases hk; exact ⟨rfl, rfl⟩) | (have e := Option.some.inj hk; rw [← e]; exact ⟨rfl, rfl⟩)
      · cases hk
  · cases h
noncomputable def s_slices_DeleteFunc_errand_row_errand_row : Den.Sum := ⟨[.own 88 (.pair (.int .i64) (.pair (.int .i64) (.pair (.int .i64) (.pair (.int .i64) (.int .i64))))), .raw], fun args objs κ => match args, objs with
  | [.row 0, .fn (.func 37) [] [.ptr 1 0]], [.row 88 (.pair (.int .i64) (.pair (.int .i64) (.pair (.int .i64) (.pair (.int .i64) (.int .i64))))) s false, .box [.d (.int .i64) eSeq, .d (.int .i64) eTarget, .d (.int .i64) eTo, .d (.int .i64) eBack, .d (.int .i64) eUntil]] => s_slices_DeleteFunc_errand_row_errand_row_put.run [.row 0, .fn (.func 37) [] [.ptr 1 0]] [.row 88 (.pair (.int .i64) (.pair (.int .i64) (.pair (.int .i64) (.pair (.int .i64) (.int .i64))))) s false, .box [.d (.int .i64) eSeq, .d (.int .i64) eTarget, .d (.int .i64) eTo, .d (.int .i64) eBack, .d (.int .i64) eUntil]] κ
  | [.row 0, .fn (.func 41) [] [.ptr 1 0]], [.row 88 (.pair (.int .i64) (.pair (.int .i64) (.pair (.int .i64) (.pair (.int .i64) (.int .i64))))) s false, .box [.d (.int .i64) a0]] => s_slices_DeleteFunc_errand_row_errand_row_exp.run [.row 0, .fn (.func 41) [] [.ptr 1 0]] [.row 88 (.pair (.int .i64) (.pair (.int .i64) (.pair (.int .i64) (.pair (.int .i64) (.int .i64))))) s false, .box [.d (.int .i64) a0]] κ
  | _, _ => none⟩
theorem s_slices_DeleteFunc_errand_row_errand_row_det : SumDet s_slices_DeleteFunc_errand_row_errand_row := fun avs objs R κ => by
  show s_slices_DeleteFunc_errand_row_errand_row.run avs objs (two κ) = (s_slices_DeleteFunc_errand_row_errand_row.run avs objs (two some)).bind κ
  unfold s_slices_DeleteFunc_errand_row_errand_row
  simp only
  split
  · exact s_slices_DeleteFunc_errand_row_errand_row_put_det _ _ R κ
  · exact s_slices_DeleteFunc_errand_row_errand_row_exp_det _ _ R κ
  · rfl
theorem s_slices_DeleteFunc_errand_row_errand_row_ok : SumOk Try.prog 36 s_slices_DeleteFunc_errand_row_errand_row := by
  refine ⟨s_slices_DeleteFunc_errand_row_errand_row_put_ok.1, ?_⟩
  intro R avs objs κ r h
  unfold s_slices_DeleteFunc_errand_row_errand_row at h
  simp only at h
  split at h
  · exact s_slices_DeleteFunc_errand_row_errand_row_put_ok.2 _ _ κ r h
  · exact s_slices_DeleteFunc_errand_row_errand_row_exp_ok.2 _ _ κ r h
  · cases h
noncomputable def errand_List_Put_E : Env := ⟨th, gam [(36, s_slices_DeleteFunc_errand_row_errand_row), (37, s_errand_List_Put_c1), (38, s_slices_Delete_errand_row_errand_row)], fun i => ⟨[], [], []⟩⟩
noncomputable def errand_List_Put.k (rs : List AV) (os : List Den.Obj) : Option (List (Int × (Int × (Int × (Int × Int))))) :=
  match rs, os with
  | [], [.box [.row 2], .gone, .row 88 (.pair (.int .i64) (.pair (.int .i64) (.pair (.int .i64) (.pair (.int .i64) (.int .i64))))) r0 false] => some r0
  | _, _ => none
noncomputable def errand_List_Put.b (l : List (Int × Int × Int × Int × Int)) (eSeq : Int) (eTarget : Int) (eTo : Int) (eBack : Int) (eUntil : Int) : Option (List (Int × (Int × (Int × (Int × Int))))) :=
  (match (veil (slices_DeleteFunc_errand_row_errand_row_put.f BIG l eSeq eTarget eTo eBack eUntil)) with | none => none | some y0 => (if ((((List.length y0.2.2.2.2.2) + (List.length ((y0.1, (y0.2.1, (y0.2.2.1, (y0.2.2.2.1, y0.2.2.2.2.1)))) :: ([] : List (Int × (Int × (Int × (Int × Int)))))))) * (40 : Nat)) ≤ lim) then (if (decide (((((List.length (y0.2.2.2.2.2 ++ ((y0.1, (y0.2.1, (y0.2.2.1, (y0.2.2.2.1, y0.2.2.2.2.1)))) :: ([] : List (Int × (Int × (Int × (Int × Int))))))))) : Nat) : Int) > (16 : Int))) then (match (veil (slices_Delete_errand_row_errand_row.f BIG (y0.2.2.2.2.2 ++ ((y0.1, (y0.2.1, (y0.2.2.1, (y0.2.2.2.1, y0.2.2.2.2.1)))) :: ([] : List (Int × (Int × (Int × (Int × Int))))))) (0 : Int) (1 : Int))) with | none => none | some y1 => some (y1)) else some ((y0.2.2.2.2.2 ++ ((y0.1, (y0.2.1, (y0.2.2.1, (y0.2.2.2.1, y0.2.2.2.2.1)))) :: ([] : List (Int × (Int × (Int × (Int × Int))))))))) else none))
noncomputable def errand_List_Put.f (fuel : Nat) (l : List (Int × Int × Int × Int × Int)) (eSeq : Int) (eTarget : Int) (eTo : Int) (eBack : Int) (eUntil : Int) : Option (List (Int × (Int × (Int × (Int × Int))))) := errand_List_Put.b l eSeq eTarget eTo eBack eUntil
theorem errand_List_Put.eq (fuel : Nat) (l : List (Int × Int × Int × Int × Int)) (eSeq : Int) (eTarget : Int) (eTo : Int) (eBack : Int) (eUntil : Int) : (denF errand_List_Put_E loopN fuel Try.f10 [.pb [.own (some 0) [] 0 88 (.pair (.int .i64) (.pair (.int .i64) (.pair (.int .i64) (.pair (.int .i64) (.int .i64))))) true, .kill 1]] [.ptr 0 0, .agg [.d (.int .i64) eSeq, .d (.int .i64) eTarget, .d (.int .i64) eTo, .d (.int .i64) eBack, .d (.int .i64) eUntil]] [.box [.row 1], .row 88 (.pair (.int .i64) (.pair (.int .i64) (.pair (.int .i64) (.pair (.int .i64) (.int .i64))))) l false] errand_List_Put.k) = errand_List_Put.f fuel l eSeq eTarget eTo eBack eUntil := by
  kernel_rfl
noncomputable def s_errand_List_Put : Den.Sum := ⟨[.pb [.own none [] 0 88 (.pair (.int .i64) (.pair (.int .i64) (.pair (.int .i64) (.pair (.int .i64) (.int .i64))))) false], .dat (.pair (.int .i64) (.pair (.int .i64) (.pair (.int .i64) (.pair (.int .i64) (.int .i64))))) true], fun args objs κ => match args, objs with
  | [.ptr 0 0, .agg [.d (.int .i64) eSeq, .d (.int .i64) eTarget, .d (.int .i64) eTo, .d (.int .i64) eBack, .d (.int .i64) eUntil]], [.box [.row 1], .row 88 (.pair (.int .i64) (.pair (.int .i64) (.pair (.int .i64) (.pair (.int .i64) (.int .i64))))) l false] => (match veil (errand_List_Put.f BIG l eSeq eTarget eTo eBack eUntil) with | none => none | some y => κ [] [.box [.row 2], .gone, .row 88 (.pair (.int .i64) (.pair (.int .i64) (.pair (.int .i64) (.pair (.int .i64) (.int .i64))))) y false])
  | _, _ => none⟩
theorem s_errand_List_Put_det : SumDet s_errand_List_Put := fun avs objs R κ => by
  show s_errand_List_Put.run avs objs (two κ) = (s_errand_List_Put.run avs objs (two some)).bind κ
  unfold s_errand_List_Put
  simp only [veil_eq]
  split
  · split <;> rfl
  · rfl
theorem s_errand_List_Put_ok : SumOk Try.prog 10 s_errand_List_Put := by
  have hE : EnvOk Try.prog errand_List_Put_E := env_ok (l := [(36, s_slices_DeleteFunc_errand_row_errand_row), (37, s_errand_List_Put_c1), (38, s_slices_Delete_errand_row_errand_row)]) th_ok any_ok ⟨⟨s_slices_DeleteFunc_errand_row_errand_row_ok, s_slices_DeleteFunc_errand_row_errand_row_det⟩, ⟨s_errand_List_Put_c1_ok, s_errand_List_Put_c1_det⟩, ⟨s_slices_Delete_errand_row_errand_row_ok, s_slices_Delete_errand_row_errand_row_det⟩, trivial⟩ _
  refine sum_ok hE Try.func10 rfl (by kernel_rfl) s_errand_List_Put [.pb [.own (some 0) [] 0 88 (.pair (.int .i64) (.pair (.int .i64) (.pair (.int .i64) (.pair (.int .i64) (.int .i64))))) true, .kill 1]] errand_List_Put.k ?_
  intro R avs objs κ r h
  unfold s_errand_List_Put at h
  simp only [veil_eq] at h
  split at h
  · rename_i eSeq eTarget eTo eBack eUntil l
    split at h
    · cases h
    · rename_i y hy
      refine ⟨BIG, _, _, _, (errand_List_Put.eq BIG l eSeq eTarget eTo eBack eUntil).trans hy, ?_, h⟩
      intro rs ros hk
      unfold errand_List_Put.k at hk
      split at hk
      · first | (cases hk; exact ⟨rfl, rfl⟩) | (have e := Option.some.inj hk; rw [← e]; exact ⟨rfl, rfl⟩)
      · cases hk
  · cases h
noncomputable def errand_List_Expire_E : Env := ⟨th, gam [(36, s_slices_DeleteFunc_errand_row_errand_row), (41, s_errand_List_Expire_c1)], fun i => ⟨[], [], []⟩⟩
noncomputable def errand_List_Expire.k (rs : List AV) (os : List Den.Obj) : Option (Int × (List (Int × (Int × (Int × (Int × Int)))))) :=
  match rs, os with
  | [.d (.int .i64) r0], [.box [.row 2], .gone, .row 88 (.pair (.int .i64) (.pair (.int .i64) (.pair (.int .i64) (.pair (.int .i64) (.int .i64))))) r1 false] => some (r0, r1)
  | _, _ => none
noncomputable def errand_List_Expire.b (l : List (Int × Int × Int × Int × Int)) (now : Int) : Option (Int × (List (Int × (Int × (Int × (Int × Int)))))) :=
  (match (veil (slices_DeleteFunc_errand_row_errand_row_exp.f BIG l now)) with | none => none | some y0 => some ((Go.IntKind.wrap .i64 (((((List.length l)) : Nat) : Int) - ((((List.length y0.2)) : Nat) : Int))), y0.2))
noncomputable def errand_List_Expire.f (fuel : Nat) (l : List (Int × Int × Int × Int × Int)) (now : Int) : Option (Int × (List (Int × (Int × (Int × (Int × Int)))))) := errand_List_Expire.b l now
theorem errand_List_Expire.eq (fuel : Nat) (l : List (Int × Int × Int × Int × Int)) (now : Int) : (denF errand_List_Expire_E loopN fuel Try.f13 [.raw, .pb [.own (some 0) [] 0 88 (.pair (.int .i64) (.pair (.int .i64) (.pair (.int .i64) (.pair (.int .i64) (.int .i64))))) true, .kill 1]] [.ptr 0 0, .d (.int .i64) now] [.box [.row 1], .row 88 (.pair (.int .i64) (.pair (.int .i64) (.pair (.int .i64) (.pair (.int .i64) (.int .i64))))) l false] errand_List_Expire.k) = errand_List_Expire.f fuel l now := by
  kernel_rfl
noncomputable def s_errand_List_Expire : Den.Sum := ⟨[.pb [.own none [] 0 88 (.pair (.int .i64) (.pair (.int .i64) (.pair (.int .i64) (.pair (.int .i64) (.int .i64))))) false], .raw], fun args objs κ => match args, objs with
  | [.ptr 0 0, .d (.int .i64) now], [.box [.row 1], .row 88 (.pair (.int .i64) (.pair (.int .i64) (.pair (.int .i64) (.pair (.int .i64) (.int .i64))))) l false] => (match veil (errand_List_Expire.f BIG l now) with | none => none | some y => κ [.d (.int .i64) y.1] [.box [.row 2], .gone, .row 88 (.pair (.int .i64) (.pair (.int .i64) (.pair (.int .i64) (.pair (.int .i64) (.int .i64))))) y.2 false])
  | _, _ => none⟩
theorem s_errand_List_Expire_det : SumDet s_errand_List_Expire := fun avs objs R κ => by
  show s_errand_List_Expire.run avs objs (two κ) = (s_errand_List_Expire.run avs objs (two some)).bind κ
  unfold s_errand_List_Expire
  simp only [veil_eq]
  split
  · split <;> rfl
  · rfl
theorem s_errand_List_Expire_ok : SumOk Try.prog 13 s_errand_List_Expire := by
  have hE : EnvOk Try.prog errand_List_Expire_E := env_ok (l := [(36, s_slices_DeleteFunc_errand_row_errand_row), (41, s_errand_List_Expire_c1)]) th_ok any_ok ⟨⟨s_slices_DeleteFunc_errand_row_errand_row_ok, s_slices_DeleteFunc_errand_row_errand_row_det⟩, ⟨s_errand_List_Expire_c1_ok, s_errand_List_Expire_c1_det⟩, trivial⟩ _
  refine sum_ok hE Try.func13 rfl (by kernel_rfl) s_errand_List_Expire [.raw, .pb [.own (some 0) [] 0 88 (.pair (.int .i64) (.pair (.int .i64) (.pair (.int .i64) (.pair (.int .i64) (.int .i64))))) true, .kill 1]] errand_List_Expire.k ?_
  intro R avs objs κ r h
  unfold s_errand_List_Expire at h
  simp only [veil_eq] at h
  split at h
  · rename_i now l
    split at h
    · cases h
    · rename_i y hy
      refine ⟨BIG, _, _, _, (errand_List_Expire.eq BIG l now).trans hy, ?_, h⟩
      intro rs ros hk
      unfold errand_List_Expire.k at hk
      split at hk
      · first | (cases hk; exact ⟨rfl, rfl⟩) | (have e := Option.some.inj hk; rw [← e]; exact ⟨rfl, rfl⟩)
      · cases hk
  · cases h
def fidx {α : Type} (p : α → Bool) : List α → Nat → Int
  | [], _ => -1
  | x :: xs, k => if p x = true then (k : Int) else fidx p xs (k + 1)
theorem idx_mid {α : Type} (a : List α) (v : α) (b : List α) : idx (a ++ v :: b) ((a.length : Nat) : Int) = some v := by
  rw [idx_at]; simp
theorem fidx_cutk {α : Type} (p : α → Bool) : ∀ (s : List α) (k : Nat), (fidx p s k = -1 ∧ s.filter (fun v => !(p v)) = s ∧ ∀ x ∈ s, p x = false) ∨ ∃ a v b, s = a ++ v :: b ∧ (a.filter (fun v => !(p v)) = a) ∧ (∀ x ∈ a, p x = false) ∧ p v = true ∧ fidx p s k = (k : Int) + a.length
  | [], k => Or.inl ⟨rfl, rfl, by simp⟩
  | x :: s, k => by
    rw [fidx]
    cases hp : p x with
    | true => exact Or.inr ⟨[], x, s, rfl, rfl, by simp, hp, by simp⟩
    | false =>
      rw [if_neg (by simp)]
      rcases fidx_cutk p s (k + 1) with ⟨h, hf, ha⟩ | ⟨a, v, b, e, ha, ha2, hv, hi⟩
      · exact Or.inl ⟨h, by simp [hp, hf], by simp [hp]; exact ha⟩
      · exact Or.inr ⟨x :: a, v, b, by rw [e]; rfl, by simp [hp, ha], by simp [hp]; exact ha2, hv, by rw [hi]; simp <;> omega⟩
theorem fidx_cut {α : Type} (p : α → Bool) (s : List α) : (fidx p s 0 = -1 ∧ s.filter (fun v => !(p v)) = s) ∨ ∃ a v b, s = a ++ v :: b ∧ (a.filter (fun v => !(p v)) = a) ∧ p v = true ∧ fidx p s 0 = (a.length : Int) := by
  rcases fidx_cutk p s 0 with ⟨h, hf, _⟩ | ⟨a, v, b, e, ha, _, hv, hi⟩
  · exact Or.inl ⟨h, hf⟩
  · exact Or.inr ⟨a, v, b, e, ha, hv, by rw [hi]; simp⟩
def pPut (eSeq : Int) (v : (Int × Int × Int × Int × Int)) : Bool := v.1 == eSeq
def pTake (a0 b0 : Int) (v : (Int × Int × Int × Int × Int)) : Bool := v.1 == a0 && v.2.1 == b0
def pExp (a0 : Int) (v : (Int × Int × Int × Int × Int)) : Bool := decide (v.2.2.2.2 < a0)
theorem errand_List_Put_c1.pure (v : (Int × Int × Int × Int × Int)) (eSeq : Int) (eTarget : Int) (eTo : Int) (eBack : Int) (eUntil : Int) : errand_List_Put_c1.f BIG v.1 v.2.1 v.2.2.1 v.2.2.2.1 v.2.2.2.2 eSeq eTarget eTo eBack eUntil = some ((pPut eSeq) v, eSeq, eTarget, eTo, eBack, eUntil) := by
  unfold errand_List_Put_c1.f errand_List_Put_c1.b
  first
  | rfl
  | (unfold pPut; split <;> simp_all)
theorem slices_IndexFunc_errand_row_errand_row_put.loop (fuel : Nat) (eSeq : Int) (eTarget : Int) (eTo : Int) (eBack : Int) (eUntil : Int) : ∀ (suf pre : List (Int × Int × Int × Int × Int)) (n : Nat), suf.length < n → (pre ++ suf).length ≤ 1000000 →
    slices_IndexFunc_errand_row_errand_row_put.l2 fuel (pre ++ suf) eSeq eTarget eTo eBack eUntil n (((pre ++ suf).length : Nat) : Int) ((pre.length : Nat) : Int) eSeq eTarget eTo eBack eUntil = some (fidx (pPut eSeq) suf pre.length, pre ++ suf, eSeq, eTarget, eTo, eBack, eUntil)
  | suf, pre, 0, h, hl => absurd h (by omega)
  | [], pre, n + 1, h, hl => by
    rw [slices_IndexFunc_errand_row_errand_row_put.l2_at fuel (n + 1) n rfl]
    unfold slices_IndexFunc_errand_row_errand_row_put.b2
    rw [if_neg (by simp)]
    rfl
  | v :: suf, pre, n + 1, h, hl => by
    have h' : suf.length < n := by simp at h; omega
    have hl' : pre.length + (suf.length + 1) ≤ 1000000 := by simp at hl; omega
    rw [slices_IndexFunc_errand_row_errand_row_put.l2_at fuel (n + 1) n rfl]
    unfold slices_IndexFunc_errand_row_errand_row_put.b2
    rw [if_pos (by simp <;> omega), idx_mid]
    dsimp only
    rw [errand_List_Put_c1.pure v eSeq eTarget eTo eBack eUntil]
    simp only [veil_eq]
    rw [fidx]
    cases hp : (pPut eSeq) v with
    | true => rw [if_pos rfl, if_pos rfl]
    | false =>
      rw [if_neg (by simp), if_neg (by simp), wrap_small _ (by omega) (by omega)]
      have e := slices_IndexFunc_errand_row_errand_row_put.loop fuel eSeq eTarget eTo eBack eUntil suf (pre ++ [v]) n h' (by simp <;> omega)
      rw [List.append_assoc, List.singleton_append] at e
      have e2 : (((pre ++ [v]).length : Nat) : Int) = (pre.length : Int) + 1 := by simp
      rw [e2] at e
      have e3 : (pre ++ [v]).length = pre.length + 1 := by simp
      rw [e3] at e
      exact e
theorem slices_IndexFunc_errand_row_errand_row_put.pure (s : List (Int × Int × Int × Int × Int)) (eSeq : Int) (eTarget : Int) (eTo : Int) (eBack : Int) (eUntil : Int) (hs : s.length ≤ 1000000) : slices_IndexFunc_errand_row_errand_row_put.f BIG s eSeq eTarget eTo eBack eUntil = some (fidx (pPut eSeq) s 0, s, eSeq, eTarget, eTo, eBack, eUntil) := by
  unfold slices_IndexFunc_errand_row_errand_row_put.f slices_IndexFunc_errand_row_errand_row_put.b
  exact slices_IndexFunc_errand_row_errand_row_put.loop BIG eSeq eTarget eTo eBack eUntil s [] BIG (by rw [BIG_eq]; omega) hs
theorem errand_List_Take_c1.pure (v : (Int × Int × Int × Int × Int)) (a0 : Int) (b0 : Int) : errand_List_Take_c1.f BIG v.1 v.2.1 v.2.2.1 v.2.2.2.1 v.2.2.2.2 a0 b0 = some ((pTake a0 b0) v, a0, b0) := by
  unfold errand_List_Take_c1.f errand_List_Take_c1.b
  first
  | rfl
  | (unfold pTake; split <;> simp_all)
theorem slices_IndexFunc_errand_row_errand_row_take.loop (fuel : Nat) (a0 : Int) (b0 : Int) : ∀ (suf pre : List (Int × Int × Int × Int × Int)) (n : Nat), suf.length < n → (pre ++ suf).length ≤ 1000000 →
    slices_IndexFunc_errand_row_errand_row_take.l2 fuel (pre ++ suf) a0 b0 n (((pre ++ suf).length : Nat) : Int) ((pre.length : Nat) : Int) a0 b0 = some (fidx (pTake a0 b0) suf pre.length, pre ++ suf, a0, b0)
  | suf, pre, 0, h, hl => absurd h (by omega)
  | [], pre, n + 1, h, hl => by
    rw [slices_IndexFunc_errand_row_errand_row_take.l2_at fuel (n + 1) n rfl]
    unfold slices_IndexFunc_errand_row_errand_row_take.b2
    rw [if_neg (by simp)]
    rfl
  | v :: suf, pre, n + 1, h, hl => by
    have h' : suf.length < n := by simp at h; omega
    have hl' : pre.length + (suf.length + 1) ≤ 1000000 := by simp at hl; omega
    rw [slices_IndexFunc_errand_row_errand_row_take.l2_at fuel (n + 1) n rfl]
    unfold slices_IndexFunc_errand_row_errand_row_take.b2
    rw [if_pos (by simp <;> omega), idx_mid]
    dsimp only
    rw [errand_List_Take_c1.pure v a0 b0]
    simp only [veil_eq]
    rw [fidx]
    cases hp : (pTake a0 b0) v with
    | true => rw [if_pos rfl, if_pos rfl]
    | false =>
      rw [if_neg (by simp), if_neg (by simp), wrap_small _ (by omega) (by omega)]
      have e := slices_IndexFunc_errand_row_errand_row_take.loop fuel a0 b0 suf (pre ++ [v]) n h' (by simp <;> omega)
      rw [List.append_assoc, List.singleton_append] at e
      have e2 : (((pre ++ [v]).length : Nat) : Int) = (pre.length : Int) + 1 := by simp
      rw [e2] at e
      have e3 : (pre ++ [v]).length = pre.length + 1 := by simp
      rw [e3] at e
      exact e
theorem slices_IndexFunc_errand_row_errand_row_take.pure (s : List (Int × Int × Int × Int × Int)) (a0 : Int) (b0 : Int) (hs : s.length ≤ 1000000) : slices_IndexFunc_errand_row_errand_row_take.f BIG s a0 b0 = some (fidx (pTake a0 b0) s 0, s, a0, b0) := by
  unfold slices_IndexFunc_errand_row_errand_row_take.f slices_IndexFunc_errand_row_errand_row_take.b
  exact slices_IndexFunc_errand_row_errand_row_take.loop BIG a0 b0 s [] BIG (by rw [BIG_eq]; omega) hs
theorem errand_List_Expire_c1.pure (v : (Int × Int × Int × Int × Int)) (a0 : Int) : errand_List_Expire_c1.f BIG v.1 v.2.1 v.2.2.1 v.2.2.2.1 v.2.2.2.2 a0 = some ((pExp a0) v, a0) := by
  unfold errand_List_Expire_c1.f errand_List_Expire_c1.b
  first
  | rfl
  | (unfold pExp; split <;> simp_all)
theorem slices_IndexFunc_errand_row_errand_row_exp.loop (fuel : Nat) (a0 : Int) : ∀ (suf pre : List (Int × Int × Int × Int × Int)) (n : Nat), suf.length < n → (pre ++ suf).length ≤ 1000000 →
    slices_IndexFunc_errand_row_errand_row_exp.l2 fuel (pre ++ suf) a0 n (((pre ++ suf).length : Nat) : Int) ((pre.length : Nat) : Int) a0 = some (fidx (pExp a0) suf pre.length, pre ++ suf, a0)
  | suf, pre, 0, h, hl => absurd h (by omega)
  | [], pre, n + 1, h, hl => by
    rw [slices_IndexFunc_errand_row_errand_row_exp.l2_at fuel (n + 1) n rfl]
    unfold slices_IndexFunc_errand_row_errand_row_exp.b2
    rw [if_neg (by simp)]
    rfl
  | v :: suf, pre, n + 1, h, hl => by
    have h' : suf.length < n := by simp at h; omega
    have hl' : pre.length + (suf.length + 1) ≤ 1000000 := by simp at hl; omega
    rw [slices_IndexFunc_errand_row_errand_row_exp.l2_at fuel (n + 1) n rfl]
    unfold slices_IndexFunc_errand_row_errand_row_exp.b2
    rw [if_pos (by simp <;> omega), idx_mid]
    dsimp only
    rw [errand_List_Expire_c1.pure v a0]
    simp only [veil_eq]
    rw [fidx]
    cases hp : (pExp a0) v with
    | true => rw [if_pos rfl, if_pos rfl]
    | false =>
      rw [if_neg (by simp), if_neg (by simp), wrap_small _ (by omega) (by omega)]
      have e := slices_IndexFunc_errand_row_errand_row_exp.loop fuel a0 suf (pre ++ [v]) n h' (by simp <;> omega)
      rw [List.append_assoc, List.singleton_append] at e
      have e2 : (((pre ++ [v]).length : Nat) : Int) = (pre.length : Int) + 1 := by simp
      rw [e2] at e
      have e3 : (pre ++ [v]).length = pre.length + 1 := by simp
      rw [e3] at e
      exact e
theorem slices_IndexFunc_errand_row_errand_row_exp.pure (s : List (Int × Int × Int × Int × Int)) (a0 : Int) (hs : s.length ≤ 1000000) : slices_IndexFunc_errand_row_errand_row_exp.f BIG s a0 = some (fidx (pExp a0) s 0, s, a0) := by
  unfold slices_IndexFunc_errand_row_errand_row_exp.f slices_IndexFunc_errand_row_errand_row_exp.b
  exact slices_IndexFunc_errand_row_errand_row_exp.loop BIG a0 s [] BIG (by rw [BIG_eq]; omega) hs
theorem slices_DeleteFunc_errand_row_errand_row_put.loop (fuel : Nat) (s : List (Int × Int × Int × Int × Int)) (eSeq : Int) (eTarget : Int) (eTo : Int) (eBack : Int) (eUntil : Int) : ∀ (rest kept junk : List (Int × Int × Int × Int × Int)) (n : Nat), rest.length < n → (kept ++ junk ++ rest).length ≤ 1000000 → junk ≠ [] →
    slices_DeleteFunc_errand_row_errand_row_put.l5 fuel s eSeq eTarget eTo eBack eUntil n ((kept.length : Nat) : Int) (((kept ++ junk).length : Nat) : Int) (kept ++ junk ++ rest) eSeq eTarget eTo eBack eUntil = some (eSeq, eTarget, eTo, eBack, eUntil, kept ++ rest.filter (fun v => !((pPut eSeq) v)))
  | rest, kept, junk, 0, h, hl, hj => absurd h (by omega)
  | [], kept, junk, n + 1, h, hl, hj => by
    rw [slices_DeleteFunc_errand_row_errand_row_put.l5_at fuel (n + 1) n rfl]
    unfold slices_DeleteFunc_errand_row_errand_row_put.b5
    rw [if_neg (by simp), if_pos (by simp <;> omega), if_pos (by simp <;> omega), if_pos (by simp <;> omega), if_pos (by simp <;> omega)]
    simp
  | v :: rest, kept, j :: junk, n + 1, h, hl, hj => by
    have h' : rest.length < n := by simp at h; omega
    have hl' : kept.length + (junk.length + 1) + (rest.length + 1) ≤ 1000000 := by simp at hl; omega
    have ej : ((((kept ++ j :: junk).length : Nat)) : Int) = (kept.length : Int) + junk.length + 1 := by simp <;> omega
    rw [slices_DeleteFunc_errand_row_errand_row_put.l5_at fuel (n + 1) n rfl]
    unfold slices_DeleteFunc_errand_row_errand_row_put.b5
    rw [if_pos (by simp <;> omega), idx_mid]
    dsimp only
    rw [errand_List_Put_c1.pure v eSeq eTarget eTo eBack eUntil]
    simp only [veil_eq]
    have ew : Go.IntKind.wrap .i64 ((((kept ++ j :: junk).length : Nat) : Int) + 1) = (((kept ++ j :: (junk ++ [v])).length : Nat) : Int) := by
      rw [wrap_small _ (by omega) (by omega)]; simp <;> omega
    cases hp : (pPut eSeq) v with
    | true =>
      rw [if_neg (by simp), ew]
      have e := slices_DeleteFunc_errand_row_errand_row_put.loop fuel s eSeq eTarget eTo eBack eUntil rest kept (j :: (junk ++ [v])) n h' (by simp <;> omega) (by simp)
      have e1 : kept ++ j :: (junk ++ [v]) ++ rest = kept ++ j :: junk ++ v :: rest := by simp
      rw [e1] at e
      rw [e]
      simp [hp]
    | false =>
      have ei : idx (kept ++ j :: junk ++ v :: rest) ((kept.length : Nat) : Int) = some j := by
        have e := idx_mid kept j (junk ++ v :: rest)
        have e1 : kept ++ j :: (junk ++ v :: rest) = kept ++ j :: junk ++ v :: rest := by simp
        rw [e1] at e
        exact e
      rw [if_pos (by simp), ei]
      simp only []
      rw [ew, wrap_small _ (by omega) (by omega)]
      have e := slices_DeleteFunc_errand_row_errand_row_put.loop fuel s eSeq eTarget eTo eBack eUntil rest (kept ++ [v]) (junk ++ [v]) n h' (by simp <;> omega) (by simp)
      have e1 : kept ++ [v] ++ (junk ++ [v]) ++ rest = List.set (kept ++ j :: junk ++ v :: rest) (Int.toNat ((kept.length : Nat) : Int)) v := by
        rw [Int.toNat_natCast]
        simp [List.set_append]
      have e2 : (((kept ++ [v]).length : Nat) : Int) = (kept.length : Int) + 1 := by simp
      have e3 : (((kept ++ [v] ++ (junk ++ [v])).length : Nat) : Int) = (((kept ++ j :: (junk ++ [v])).length : Nat) : Int) := by simp <;> omega
      rw [e1, e2, e3] at e
      refine Eq.trans e ?_
      simp [hp]
theorem slices_DeleteFunc_errand_row_errand_row_put.pure (s : List (Int × Int × Int × Int × Int)) (eSeq : Int) (eTarget : Int) (eTo : Int) (eBack : Int) (eUntil : Int) (hs : s.length ≤ 1000000) : slices_DeleteFunc_errand_row_errand_row_put.f BIG s eSeq eTarget eTo eBack eUntil = some (eSeq, eTarget, eTo, eBack, eUntil, s.filter (fun v => !((pPut eSeq) v))) := by
  unfold slices_DeleteFunc_errand_row_errand_row_put.f slices_DeleteFunc_errand_row_errand_row_put.b
  rw [slices_IndexFunc_errand_row_errand_row_put.pure s eSeq eTarget eTo eBack eUntil hs]
  simp only [veil_eq]
  rcases fidx_cut (pPut eSeq) s with ⟨h, hf⟩ | ⟨a, v, b, rfl, ha, hv, hi⟩
  · rw [h, if_pos (by rfl), hf]
  · rw [hi, if_neg (by simp <;> omega)]
    have e := slices_DeleteFunc_errand_row_errand_row_put.loop BIG (a ++ v :: b) eSeq eTarget eTo eBack eUntil b a [v] BIG (by rw [BIG_eq]; simp at hs; omega) (by simpa using hs) (by simp)
    have e1 : a ++ [v] ++ b = a ++ v :: b := by simp
    have e2 : (((a ++ [v]).length : Nat) : Int) = Go.IntKind.wrap .i64 ((a.length : Int) + 1) := by
      simp at hs; rw [wrap_small _ (by omega) (by omega)]; simp
    rw [e1, e2] at e
    refine Eq.trans e ?_
    simp [hv, ha]
theorem slices_DeleteFunc_errand_row_errand_row_exp.loop (fuel : Nat) (s : List (Int × Int × Int × Int × Int)) (a0 : Int) : ∀ (rest kept junk : List (Int × Int × Int × Int × Int)) (n : Nat), rest.length < n → (kept ++ junk ++ rest).length ≤ 1000000 → junk ≠ [] →
    slices_DeleteFunc_errand_row_errand_row_exp.l5 fuel s a0 n ((kept.length : Nat) : Int) (((kept ++ junk).length : Nat) : Int) (kept ++ junk ++ rest) a0 = some (a0, kept ++ rest.filter (fun v => !((pExp a0) v)))
  | rest, kept, junk, 0, h, hl, hj => absurd h (by omega)
  | [], kept, junk, n + 1, h, hl, hj => by
    rw [slices_DeleteFunc_errand_row_errand_row_exp.l5_at fuel (n + 1) n rfl]
    unfold slices_DeleteFunc_errand_row_errand_row_exp.b5
    rw [if_neg (by simp), if_pos (by simp <;> omega), if_pos (by simp <;> omega), if_pos (by simp <;> omega), if_pos (by simp <;> omega)]
    simp
  | v :: rest, kept, j :: junk, n + 1, h, hl, hj => by
    have h' : rest.length < n := by simp at h; omega
    have hl' : kept.length + (junk.length + 1) + (rest.length + 1) ≤ 1000000 := by simp at hl; omega
    have ej : ((((kept ++ j :: junk).length : Nat)) : Int) = (kept.length : Int) + junk.length + 1 := by simp <;> omega
    rw [slices_DeleteFunc_errand_row_errand_row_exp.l5_at fuel (n + 1) n rfl]
    unfold slices_DeleteFunc_errand_row_errand_row_exp.b5
    rw [if_pos (by simp <;> omega), idx_mid]
    dsimp only
    rw [errand_List_Expire_c1.pure v a0]
    simp only [veil_eq]
    have ew : Go.IntKind.wrap .i64 ((((kept ++ j :: junk).length : Nat) : Int) + 1) = (((kept ++ j :: (junk ++ [v])).length : Nat) : Int) := by
      rw [wrap_small _ (by omega) (by omega)]; simp <;> omega
    cases hp : (pExp a0) v with
    | true =>
      rw [if_neg (by simp), ew]
      have e := slices_DeleteFunc_errand_row_errand_row_exp.loop fuel s a0 rest kept (j :: (junk ++ [v])) n h' (by simp <;> omega) (by simp)
      have e1 : kept ++ j :: (junk ++ [v]) ++ rest = kept ++ j :: junk ++ v :: rest := by simp
      rw [e1] at e
      rw [e]
      simp [hp]
    | false =>
      have ei : idx (kept ++ j :: junk ++ v :: rest) ((kept.length : Nat) : Int) = some j := by
        have e := idx_mid kept j (junk ++ v :: rest)
        have e1 : kept ++ j :: (junk ++ v :: rest) = kept ++ j :: junk ++ v :: rest := by simp
        rw [e1] at e
        exact e
      rw [if_pos (by simp), ei]
      simp only []
      rw [ew, wrap_small _ (by omega) (by omega)]
      have e := slices_DeleteFunc_errand_row_errand_row_exp.loop fuel s a0 rest (kept ++ [v]) (junk ++ [v]) n h' (by simp <;> omega) (by simp)
      have e1 : kept ++ [v] ++ (junk ++ [v]) ++ rest = List.set (kept ++ j :: junk ++ v :: rest) (Int.toNat ((kept.length : Nat) : Int)) v := by
        rw [Int.toNat_natCast]
        simp [List.set_append]
      have e2 : (((kept ++ [v]).length : Nat) : Int) = (kept.length : Int) + 1 := by simp
      have e3 : (((kept ++ [v] ++ (junk ++ [v])).length : Nat) : Int) = (((kept ++ j :: (junk ++ [v])).length : Nat) : Int) := by simp <;> omega
      rw [e1, e2, e3] at e
      refine Eq.trans e ?_
      simp [hp]
theorem slices_DeleteFunc_errand_row_errand_row_exp.pure (s : List (Int × Int × Int × Int × Int)) (a0 : Int) (hs : s.length ≤ 1000000) : slices_DeleteFunc_errand_row_errand_row_exp.f BIG s a0 = some (a0, s.filter (fun v => !((pExp a0) v))) := by
  unfold slices_DeleteFunc_errand_row_errand_row_exp.f slices_DeleteFunc_errand_row_errand_row_exp.b
  rw [slices_IndexFunc_errand_row_errand_row_exp.pure s a0 hs]
  simp only [veil_eq]
  rcases fidx_cut (pExp a0) s with ⟨h, hf⟩ | ⟨a, v, b, rfl, ha, hv, hi⟩
  · rw [h, if_pos (by rfl), hf]
  · rw [hi, if_neg (by simp <;> omega)]
    have e := slices_DeleteFunc_errand_row_errand_row_exp.loop BIG (a ++ v :: b) a0 b a [v] BIG (by rw [BIG_eq]; simp at hs; omega) (by simpa using hs) (by simp)
    have e1 : a ++ [v] ++ b = a ++ v :: b := by simp
    have e2 : (((a ++ [v]).length : Nat) : Int) = Go.IntKind.wrap .i64 ((a.length : Int) + 1) := by
      simp at hs; rw [wrap_small _ (by omega) (by omega)]; simp
    rw [e1, e2] at e
    refine Eq.trans e ?_
    simp [hv, ha]
noncomputable def law29_awake_E : Env := ⟨th, gam [(9, s_errand_New), (10, s_errand_List_Put), (11, s_errand_List_Take)], fun i => ⟨[], [], []⟩⟩
noncomputable def law29_awake.k (rs : List AV) (os : List Den.Obj) : Option Bool :=
  match rs, os with
  | [.d .bool r0], [] => some r0
  | _, _ => none
noncomputable def law29_awake.b (u : Unit) : Option Bool :=
  (match (veil (errand_New.f BIG ())) with | none => none | some y0 => (match (veil (errand_List_Put.f BIG ([] : List (Int × (Int × (Int × (Int × Int))))) (5 : Int) (2 : Int) (1 : Int) (9 : Int) 0)) with | none => none | some y1 => (match (veil (errand_List_Take.f BIG y1 (3 : Int) (5 : Int))) with | none => none | some y2 => (match (veil (errand_List_Take.f BIG y2.2.2.2.2.2.2 (2 : Int) (5 : Int))) with | none => none | some y3 => (match (veil (errand_List_Take.f BIG y3.2.2.2.2.2.2 (2 : Int) (5 : Int))) with | none => none | some y4 => (if (!y2.2.2.2.2.2.1) then (if y3.2.2.2.2.2.1 then (if (!y4.2.2.2.2.2.1) then (if (y3.2.2.1 == (1 : Int)) then some ((y3.2.2.2.1 == (9 : Int))) else some (false)) else some (false)) else some (false)) else some (false)))))))
noncomputable def law29_awake.f (fuel : Nat) (u : Unit) : Option Bool := law29_awake.b u
theorem law29_awake.eq (fuel : Nat) (u : Unit) : (denF law29_awake_E loopN fuel Try.f8 [.raw] [] [] law29_awake.k) = law29_awake.f fuel u := by
  kernel_rfl
noncomputable def s_law29_awake : Den.Sum := ⟨[], fun args objs κ => match args, objs with
  | [], [] => (match veil (law29_awake.f BIG ()) with | none => none | some y => κ [.d .bool y] [])
  | _, _ => none⟩
theorem s_law29_awake_det : SumDet s_law29_awake := fun avs objs R κ => by
  show s_law29_awake.run avs objs (two κ) = (s_law29_awake.run avs objs (two some)).bind κ
  unfold s_law29_awake
  simp only [veil_eq]
  split
  · split <;> rfl
  · rfl
theorem s_law29_awake_ok : SumOk Try.prog 8 s_law29_awake := by
  have hE : EnvOk Try.prog law29_awake_E := env_ok (l := [(9, s_errand_New), (10, s_errand_List_Put), (11, s_errand_List_Take)]) th_ok any_ok ⟨⟨s_errand_New_ok, s_errand_New_det⟩, ⟨s_errand_List_Put_ok, s_errand_List_Put_det⟩, ⟨s_errand_List_Take_ok, s_errand_List_Take_det⟩, trivial⟩ _
  refine sum_ok hE Try.func8 rfl (by kernel_rfl) s_law29_awake [.raw] law29_awake.k ?_
  intro R avs objs κ r h
  unfold s_law29_awake at h
  simp only [veil_eq] at h
  split at h
  · skip
    split at h
    · cases h
    · rename_i y hy
      refine ⟨BIG, _, _, _, (law29_awake.eq BIG ()).trans hy, ?_, h⟩
      intro rs ros hk
      unfold law29_awake.k at hk
      split at hk
      · first | (cases hk; exact ⟨rfl, rfl⟩) | (have e := Option.some.inj hk; rw [← e]; exact ⟨rfl, rfl⟩)
      · cases hk
  · cases h
abbrev ET := Int × Int × Int × Int × Int
theorem slices_Delete_errand_row_errand_row.pure (s : List ET) (a b : Nat) (hab : a ≤ b) (hb : b ≤ s.length) :
    slices_Delete_errand_row_errand_row.f BIG s (a : Int) (b : Int) = some (s.take a ++ s.drop b) := by
  unfold slices_Delete_errand_row_errand_row.f slices_Delete_errand_row_errand_row.b
  rw [if_pos (by omega), if_pos (by omega)]
  by_cases h : a = b
  · subst h; rw [if_pos (by simp)]; simp
  rw [if_neg (by simp; omega)]
  rw [if_pos (by omega), if_pos (by omega), if_pos (by simp; omega)]
  have e1 : (List.drop (Int.toNat (b : Int)) (List.take s.length s)) = s.drop b := by simp
  have e2 : Int.toNat (a : Int) = a := by simp
  simp only [e1, e2]
  generalize hX : List.take a s ++ List.drop b s = X
  have hl : X.length = a + (s.length - b) := by rw [← hX]; simp; omega
  have hd : (List.drop b s).length = s.length - b := by simp
  have ht : ∀ Y : List ET, (List.take (0 + (((a + (List.drop b s).length - 0 : Nat) : Int)).toNat) (X ++ Y)) = X := by
    intro Y
    have : (0 + (((a + (List.drop b s).length - 0 : Nat) : Int)).toNat) = X.length := by rw [hl, hd]; omega
    rw [this, List.take_left]
  simp only [ht]
  rw [if_pos (by simp; omega), if_pos (by simp; omega), if_pos (by simp; omega), if_pos (by simp; omega), if_pos (by simp; omega)]
  rw [List.append_assoc, hd, ← hl, List.take_left]
theorem errand_List_Expire.pure (l : List ET) (now : Int) (hl : l.length ≤ 1000) :
    errand_List_Expire.f BIG l now = some ((l.length : Int) - ((l.filter (fun v => !(pExp now v))).length : Int), l.filter (fun v => !(pExp now v))) := by
  unfold errand_List_Expire.f errand_List_Expire.b
  rw [slices_DeleteFunc_errand_row_errand_row_exp.pure l now (by omega)]
  simp only [veil_eq]
  have := List.length_filter_le (fun v => !(pExp now v)) l
  rw [wrap_small _ (by omega) (by omega)]
def putF (l : List ET) (e : ET) : List ET := let r := l.filter (fun v => !(pPut e.1 v)) ++ [e]; if 16 < r.length then r.drop 1 else r
theorem errand_List_Put.pure (l : List ET) (e : ET) (hl : l.length ≤ 1000) : errand_List_Put.f BIG l e.1 e.2.1 e.2.2.1 e.2.2.2.1 e.2.2.2.2 = some (putF l e) := by
  unfold errand_List_Put.f errand_List_Put.b
  rw [slices_DeleteFunc_errand_row_errand_row_put.pure l _ _ _ _ _ (by omega)]
  simp only [veil_eq]
  have := List.length_filter_le (fun v => !(pPut e.1 v)) l
  rw [if_pos (by unfold lim; simp; omega)]
  unfold putF
  dsimp only
  by_cases h : 16 < (l.filter (fun v => !(pPut e.1 v)) ++ [e]).length
  · rw [if_pos h, if_pos (by simp at h ⊢; omega)]
    have e := slices_Delete_errand_row_errand_row.pure (l.filter (fun v => !(pPut e.1 v)) ++ [(e.1, e.2.1, e.2.2.1, e.2.2.2.1, e.2.2.2.2)]) 0 1 (by omega) (by simp)
    rw [show ((0 : Nat) : Int) = 0 from rfl, show ((1 : Nat) : Int) = 1 from rfl] at e
    rw [e]
    rfl
  · rw [if_neg h, if_neg (by simp at h ⊢; omega)]
theorem errand_List_Take.none (l : List ET) (from0 seq : Int) (hl : l.length ≤ 1000) (h : ∀ x ∈ l, pTake seq from0 x = false) : errand_List_Take.f BIG l from0 seq = some (0, 0, 0, 0, 0, false, l) := by
  unfold errand_List_Take.f errand_List_Take.b
  rw [slices_IndexFunc_errand_row_errand_row_take.pure l _ _ (by omega)]
  simp only [veil_eq]
  rcases fidx_cutk (pTake seq from0) l 0 with ⟨h1, _⟩ | ⟨a, v, b, rfl, _, _, hv, _⟩
  · rw [h1, if_pos (by rfl)]
  · have := h v (by simp)
    rw [this] at hv
    cases hv
theorem errand_List_Take.some (a : List ET) (v : ET) (b : List ET) (from0 seq : Int) (hl : (a ++ v :: b).length ≤ 1000) (ha : ∀ x ∈ a, pTake seq from0 x = false) (hv : pTake seq from0 v = true) :
    errand_List_Take.f BIG (a ++ v :: b) from0 seq = some (v.1, v.2.1, v.2.2.1, v.2.2.2.1, v.2.2.2.2, true, a ++ b) := by
  have hi : ∀ (a : List ET) (k : Nat), (∀ x ∈ a, pTake seq from0 x = false) → fidx (pTake seq from0) (a ++ v :: b) k = (k : Int) + a.length := by
    intro a
    induction a with
    | nil => intro k _; simp [fidx, hv]
    | cons x a ih =>
      intro k h
      have h1 := ih (k + 1) (fun y hy => h y (by simp [hy]))
      rw [List.cons_append, fidx, h x (by simp), if_neg (by simp), h1]
      simp; omega
  have hi := hi a 0 ha
  unfold errand_List_Take.f errand_List_Take.b
  rw [slices_IndexFunc_errand_row_errand_row_take.pure _ _ _ (by omega)]
  simp only [veil_eq]
  rw [hi]
  have e0 : ((0 : Nat) : Int) + (a.length : Int) = (a.length : Int) := by simp
  rw [e0, if_neg (by simp <;> omega), idx_mid]
  simp only [veil_eq]
  simp at hl
  rw [wrap_small _ (by omega) (by omega)]
  have e := slices_Delete_errand_row_errand_row.pure (a ++ v :: b) a.length (a.length + 1) (by omega) (by simp)
  rw [show ((a.length + 1 : Nat) : Int) = (a.length : Int) + 1 by simp] at e
  rw [e]
  simp
theorem errand_List_All.loop (fuel : Nat) : ∀ (suf pre : List ET) (n : Nat), suf.length < n → (pre ++ suf).length ≤ 1000 →
    errand_List_All.l5 fuel (pre ++ suf) n (((pre ++ suf).length : Nat) : Int) ((pre.length : Nat) : Int) pre = Option.some (pre ++ suf, pre ++ suf)
  | suf, pre, 0, h, hl => absurd h (by omega)
  | [], pre, n + 1, h, hl => by
    rw [errand_List_All.l5_at fuel (n + 1) n rfl]
    unfold errand_List_All.b5
    rw [if_neg (by simp)]
    simp
  | v :: suf, pre, n + 1, h, hl => by
    have h' : suf.length < n := by simp at h; omega
    have hl' : pre.length + (suf.length + 1) ≤ 1000 := by simp at hl; omega
    rw [errand_List_All.l5_at fuel (n + 1) n rfl]
    unfold errand_List_All.b5
    rw [if_pos (by simp; omega), idx_mid]
    simp only [veil_eq]
    rw [if_pos (by unfold lim; simp; omega), wrap_small _ (by omega) (by omega)]
    have e := errand_List_All.loop fuel suf (pre ++ [v]) n h' (by simp <;> omega)
    rw [List.append_assoc, List.singleton_append] at e
    have e2 : (((pre ++ [v]).length : Nat) : Int) = (pre.length : Int) + 1 := by simp
    rw [e2] at e
    exact e
theorem errand_List_All.pure (l : List ET) (hl : l.length ≤ 1000) : errand_List_All.f BIG l = Option.some (l, l) := by
  unfold errand_List_All.f errand_List_All.b
  exact errand_List_All.loop BIG l [] BIG (by rw [BIG_eq]; omega) hl
theorem law29_like.pure (a b : ET) : law29_like.f BIG a.1 a.2.1 a.2.2.1 a.2.2.2.1 a.2.2.2.2 b.1 b.2.1 b.2.2.1 b.2.2.2.1 b.2.2.2.2 = Option.some (decide (a = b)) := by
  obtain ⟨a1, a2, a3, a4, a5⟩ := a
  obtain ⟨b1, b2, b3, b4, b5⟩ := b
  unfold law29_like.f law29_like.b
  dsimp only
  simp only [beq_iff_eq, Prod.mk.injEq]
  repeat' split
  all_goals simp_all
  all_goals rfl
theorem law29_awake.pure : law29_awake.f BIG () = Option.some true := by
  unfold law29_awake.f law29_awake.b
  have e1 := errand_List_Put.pure [] (5, 2, 1, 9, 0) (by simp)
  dsimp only at e1
  have e2 : putF [] (5, 2, 1, 9, 0) = [(5, 2, 1, 9, 0)] := by decide
  rw [e2] at e1
  rw [e1, show errand_New.f BIG () = Option.some () from rfl]
  simp only [veil_eq]
  have e3 := errand_List_Take.none [(5, 2, 1, 9, 0)] 3 5 (by simp) (by decide)
  have e4 := errand_List_Take.some [] (5, 2, 1, 9, 0) [] 2 5 (by simp) (by decide) (by decide)
  have e5 := errand_List_Take.none [] 2 5 (by simp) (by decide)
  simp only [List.nil_append] at e4
  rw [e3]; simp only [veil_eq]
  rw [e4]; simp only [veil_eq]
  rw [e5]; simp only [veil_eq]
  rfl
noncomputable def law29_ErrandPlays_E : Env := ⟨th, gam [(8, s_law29_awake), (9, s_errand_New), (10, s_errand_List_Put), (11, s_errand_List_Take), (12, s_law29_like), (13, s_errand_List_Expire), (14, s_errand_List_All)], fun i => if i = 6 then ⟨[0, 3, 4, 5], [(4, 28, (.pair (.int .i64) (.pair (.int .i64) (.pair (.int .i64) (.pair (.int .i64) (.int .i64)))))), (1192, 88, (.pair (.int .i64) (.pair (.int .i64) (.pair (.int .i64) (.pair (.int .i64) (.int .i64))))))], [4]⟩ else if i = 13 then ⟨[0, 3, 4, 5, 6, 7, 8], [(7, 28, (.pair (.int .i64) (.pair (.int .i64) (.pair (.int .i64) (.pair (.int .i64) (.int .i64))))))], []⟩ else if i = 23 then ⟨[0, 3, 4, 5, 6, 7, 9, 10], [(7, 28, (.pair (.int .i64) (.pair (.int .i64) (.pair (.int .i64) (.pair (.int .i64) (.int .i64))))))], []⟩ else if i = 32 then ⟨[0, 3, 4, 5, 6, 7, 13], [(7, 28, (.pair (.int .i64) (.pair (.int .i64) (.pair (.int .i64) (.pair (.int .i64) (.int .i64))))))], []⟩ else if i = 43 then ⟨[0, 3, 4, 5, 14, 15], [], []⟩ else if i = 7 then ⟨[0, 3, 4, 5], [], [777777]⟩ else if i = 38 then ⟨[0, 3, 5, 7], [], [7, 777777]⟩ else if i = 14 then ⟨[0, 3, 4, 5, 6, 7, 8], [], [777777]⟩ else if i = 24 then ⟨[0, 3, 4, 5, 6, 7, 9, 10], [(7, 28, (.pair (.int .i64) (.pair (.int .i64) (.pair (.int .i64) (.pair (.int .i64) (.int .i64))))))], [777777]⟩ else if i = 33 then ⟨[0, 3, 4, 5, 6, 7, 13], [], [777777]⟩ else ⟨[], [], []⟩⟩
noncomputable def law29_ErrandPlays.k (rs : List AV) (os : List Den.Obj) : Option Bool :=
  match rs, os with
  | [.d .bool r0], [] => some r0
  | _, _ => none
noncomputable def law29_ErrandPlays.s14 (l : List (Int × Int × Int × Int × Int × Int)) (x20 : (List (Int × (Int × (Int × (Int × Int)))))) (x21 : Int) (x22 : Int) (x23 : (List (Int × (Int × (Int × (Int × Int)))))) (x24 : Int) (x25 : Int) (x26 : Int) (x27 : Int) (x28 : Int) (x29 : (List (Int × (Int × (Int × (Int × Int)))))) : St := ⟨[.d (.sl (.pair (.int .i64) (.pair (.int .i64) (.pair (.int .i64) (.pair (.int .i64) (.pair (.int .i64) (.int .i64))))))) (l), .dead, .dead, .ptr 64 0, .d (.sl (.pair (.int .i64) (.pair (.int .i64) (.pair (.int .i64) (.pair (.int .i64) (.int .i64)))))) x20, .d (.int .i64) x21, .ptr 66 0, .row 67, .d (.int .i64) x22, .dead, .dead, .dead, .dead, .dead, .dead, .dead, .dead, .dead, .dead, .dead, .dead, .dead, .dead, .dead, .dead, .dead, .dead, .dead, .dead, .dead, .dead, .dead, .dead, .dead, .dead, .dead, .dead, .dead, .dead, .dead, .dead, .dead, .dead, .dead, .dead, .dead, .dead, .dead, .dead, .dead, .dead, .dead, .dead, .dead, .dead, .dead, .dead, .dead, .dead, .dead, .dead, .dead, .dead, .dead, .dead, .dead, .dead, .dead, .dead, .dead, .dead, .dead, .dead, .dead, .dead, .dead, .dead, .dead, .dead, .dead, .dead, .dead, .dead, .dead, .dead, .dead, .dead, .dead, .dead, .dead, .dead, .dead, .dead, .dead, .dead, .dead, .dead, .dead, .dead, .dead, .dead, .dead, .dead, .dead, .dead, .dead, .dead, .dead, .dead, .dead, .dead, .dead, .dead, .dead, .dead, .dead, .dead, .dead, .dead, .dead, .dead, .dead, .dead, .dead, .dead, .dead, .dead, .dead, .dead, .dead, .dead, .dead, .dead, .dead, .dead, .dead, .dead, .dead, .dead, .dead, .dead, .dead, .dead, .dead, .dead, .dead, .dead, .dead, .dead, .dead, .dead, .dead, .dead, .dead, .dead, .dead, .dead, .dead, .dead, .dead, .dead, .dead, .dead, .dead, .dead, .dead, .dead, .dead, .dead, .dead, .dead, .dead, .dead, .dead, .dead, .dead, .dead, .dead, .dead, .dead, .dead, .dead, .dead, .dead, .dead, .dead, .dead, .dead, .dead, .dead, .dead, .dead, .dead, .dead, .dead, .dead, .dead, .dead, .dead, .dead, .dead, .dead, .dead, .dead], ofL [(64, .box [.row 65]), (65, .row 88 (.pair (.int .i64) (.pair (.int .i64) (.pair (.int .i64) (.pair (.int .i64) (.int .i64))))) x23 false), (66, .box [.d (.int .i64) x24, .d (.int .i64) x25, .d (.int .i64) x26, .d (.int .i64) x27, .d (.int .i64) x28]), (67, .row 28 (.pair (.int .i64) (.pair (.int .i64) (.pair (.int .i64) (.pair (.int .i64) (.int .i64))))) x29 false)], 0⟩
noncomputable def law29_ErrandPlays.b14 (l : List (Int × Int × Int × Int × Int × Int)) (A6 : (List (Int × (Int × (Int × (Int × Int))))) → Int → (List (Int × (Int × (Int × (Int × Int))))) → Option Bool) (A13 : (List (Int × (Int × (Int × (Int × Int))))) → Int → Int → (List (Int × (Int × (Int × (Int × Int))))) → Int → Int → Int → Int → Int → (List (Int × (Int × (Int × (Int × Int))))) → Option Bool) (A14 : (List (Int × (Int × (Int × (Int × Int))))) → Int → Int → (List (Int × (Int × (Int × (Int × Int))))) → Int → Int → Int → Int → Int → (List (Int × (Int × (Int × (Int × Int))))) → Option Bool) (x20 : (List (Int × (Int × (Int × (Int × Int)))))) (x21 : Int) (x22 : Int) (x23 : (List (Int × (Int × (Int × (Int × Int)))))) (x24 : Int) (x25 : Int) (x26 : Int) (x27 : Int) (x28 : Int) (x29 : (List (Int × (Int × (Int × (Int × Int)))))) : Option Bool :=
  A13 x20 x21 (Go.IntKind.wrap .i64 (x22 + (1 : Int))) x23 x24 x25 x26 x27 x28 x29
noncomputable def law29_ErrandPlays.l14 (fuel : Nat) (l : List (Int × Int × Int × Int × Int × Int)) (A6 : (List (Int × (Int × (Int × (Int × Int))))) → Int → (List (Int × (Int × (Int × (Int × Int))))) → Option Bool) (A13 : (List (Int × (Int × (Int × (Int × Int))))) → Int → Int → (List (Int × (Int × (Int × (Int × Int))))) → Int → Int → Int → Int → Int → (List (Int × (Int × (Int × (Int × Int))))) → Option Bool) : Nat → (List (Int × (Int × (Int × (Int × Int))))) → Int → Int → (List (Int × (Int × (Int × (Int × Int))))) → Int → Int → Int → Int → Int → (List (Int × (Int × (Int × (Int × Int))))) → Option Bool
  | 0, _, _, _, _, _, _, _, _, _, _ => none
  | k + 1, x20, x21, x22, x23, x24, x25, x26, x27, x28, x29 => law29_ErrandPlays.b14 l A6 A13 (law29_ErrandPlays.l14 fuel l A6 A13 k) x20 x21 x22 x23 x24 x25 x26 x27 x28 x29
noncomputable def law29_ErrandPlays.s7 (l : List (Int × Int × Int × Int × Int × Int)) (x43 : (List (Int × (Int × (Int × (Int × Int)))))) (x44 : Int) (x45 : (List (Int × (Int × (Int × (Int × Int)))))) : St := ⟨[.d (.sl (.pair (.int .i64) (.pair (.int .i64) (.pair (.int .i64) (.pair (.int .i64) (.pair (.int .i64) (.int .i64))))))) (l), .dead, .dead, .ptr 64 0, .d (.sl (.pair (.int .i64) (.pair (.int .i64) (.pair (.int .i64) (.pair (.int .i64) (.int .i64)))))) x43, .d (.int .i64) x44, .dead, .dead, .dead, .dead, .dead, .dead, .dead, .dead, .dead, .dead, .dead, .dead, .dead, .dead, .dead, .dead, .dead, .dead, .dead, .dead, .dead, .dead, .dead, .dead, .dead, .dead, .dead, .dead, .dead, .dead, .dead, .dead, .dead, .dead, .dead, .dead, .dead, .dead, .dead, .dead, .dead, .dead, .dead, .dead, .dead, .dead, .dead, .dead, .dead, .dead, .dead, .dead, .dead, .dead, .dead, .dead, .dead, .dead, .dead, .dead, .dead, .dead, .dead, .dead, .dead, .dead, .dead, .dead, .dead, .dead, .dead, .dead, .dead, .dead, .dead, .dead, .dead, .dead, .dead, .dead, .dead, .dead, .dead, .dead, .dead, .dead, .dead, .dead, .dead, .dead, .dead, .dead, .dead, .dead, .dead, .dead, .dead, .dead, .dead, .dead, .dead, .dead, .dead, .dead, .dead, .dead, .dead, .dead, .dead, .dead, .dead, .dead, .dead, .dead, .dead, .dead, .dead, .dead, .dead, .dead, .dead, .dead, .dead, .dead, .dead, .dead, .dead, .dead, .dead, .dead, .dead, .dead, .dead, .dead, .dead, .dead, .dead, .dead, .dead, .dead, .dead, .dead, .dead, .dead, .dead, .dead, .dead, .dead, .dead, .dead, .dead, .dead, .dead, .dead, .dead, .dead, .dead, .dead, .dead, .dead, .dead, .dead, .dead, .dead, .dead, .dead, .dead, .dead, .dead, .dead, .dead, .dead, .dead, .dead, .dead, .dead, .dead, .dead, .dead, .dead, .dead, .dead, .dead, .dead, .dead, .dead, .dead, .dead, .dead, .dead, .dead, .dead, .dead, .dead, .dead, .dead, .dead, .dead], ofL [(64, .box [.row 65]), (65, .row 88 (.pair (.int .i64) (.pair (.int .i64) (.pair (.int .i64) (.pair (.int .i64) (.int .i64))))) x45 false)], 0⟩
noncomputable def law29_ErrandPlays.b7 (l : List (Int × Int × Int × Int × Int × Int)) (A6 : (List (Int × (Int × (Int × (Int × Int))))) → Int → (List (Int × (Int × (Int × (Int × Int))))) → Option Bool) (A7 : (List (Int × (Int × (Int × (Int × Int))))) → Int → (List (Int × (Int × (Int × (Int × Int))))) → Option Bool) (x43 : (List (Int × (Int × (Int × (Int × Int)))))) (x44 : Int) (x45 : (List (Int × (Int × (Int × (Int × Int)))))) : Option Bool :=
  A6 x43 (Go.IntKind.wrap .i64 (x44 + (1 : Int))) x45
noncomputable def law29_ErrandPlays.l7 (fuel : Nat) (l : List (Int × Int × Int × Int × Int × Int)) (A6 : (List (Int × (Int × (Int × (Int × Int))))) → Int → (List (Int × (Int × (Int × (Int × Int))))) → Option Bool) : Nat → (List (Int × (Int × (Int × (Int × Int))))) → Int → (List (Int × (Int × (Int × (Int × Int))))) → Option Bool
  | 0, _, _, _ => none
  | k + 1, x43, x44, x45 => law29_ErrandPlays.b7 l A6 (law29_ErrandPlays.l7 fuel l A6 k) x43 x44 x45
noncomputable def law29_ErrandPlays.s43 (l : List (Int × Int × Int × Int × Int × Int)) (x34 : (List (Int × (Int × (Int × (Int × Int)))))) (x35 : Int) (x36 : Int) (x37 : (List (Int × (Int × (Int × (Int × Int)))))) (x38 : (List (Int × (Int × (Int × (Int × Int)))))) : St := ⟨[.d (.sl (.pair (.int .i64) (.pair (.int .i64) (.pair (.int .i64) (.pair (.int .i64) (.pair (.int .i64) (.int .i64))))))) (l), .dead, .dead, .ptr 64 0, .d (.sl (.pair (.int .i64) (.pair (.int .i64) (.pair (.int .i64) (.pair (.int .i64) (.int .i64)))))) x34, .d (.int .i64) x35, .dead, .dead, .dead, .dead, .dead, .dead, .dead, .dead, .row 66, .d (.int .i64) x36, .dead, .dead, .dead, .dead, .dead, .dead, .dead, .dead, .dead, .dead, .dead, .dead, .dead, .dead, .dead, .dead, .dead, .dead, .dead, .dead, .dead, .dead, .dead, .dead, .dead, .dead, .dead, .dead, .dead, .dead, .dead, .dead, .dead, .dead, .dead, .dead, .dead, .dead, .dead, .dead, .dead, .dead, .dead, .dead, .dead, .dead, .dead, .dead, .dead, .dead, .dead, .dead, .dead, .dead, .dead, .dead, .dead, .dead, .dead, .dead, .dead, .dead, .dead, .dead, .dead, .dead, .dead, .dead, .dead, .dead, .dead, .dead, .dead, .dead, .dead, .dead, .dead, .dead, .dead, .dead, .dead, .dead, .dead, .dead, .dead, .dead, .dead, .dead, .dead, .dead, .dead, .dead, .dead, .dead, .dead, .dead, .dead, .dead, .dead, .dead, .dead, .dead, .dead, .dead, .dead, .dead, .dead, .dead, .dead, .dead, .dead, .dead, .dead, .dead, .dead, .dead, .dead, .dead, .dead, .dead, .dead, .dead, .dead, .dead, .dead, .dead, .dead, .dead, .dead, .dead, .dead, .dead, .dead, .dead, .dead, .dead, .dead, .dead, .dead, .dead, .dead, .dead, .dead, .dead, .dead, .dead, .dead, .dead, .dead, .dead, .dead, .dead, .dead, .dead, .dead, .dead, .dead, .dead, .dead, .dead, .dead, .dead, .dead, .dead, .dead, .dead, .dead, .dead, .dead, .dead, .dead, .dead, .dead, .dead, .dead, .dead, .dead, .dead, .dead, .dead, .dead, .dead, .dead, .dead, .dead, .dead, .dead, .dead], ofL [(64, .box [.row 65]), (65, .row 88 (.pair (.int .i64) (.pair (.int .i64) (.pair (.int .i64) (.pair (.int .i64) (.int .i64))))) x37 false), (66, .row 28 (.pair (.int .i64) (.pair (.int .i64) (.pair (.int .i64) (.pair (.int .i64) (.int .i64))))) x38 false)], 0⟩
noncomputable def law29_ErrandPlays.b43 (l : List (Int × Int × Int × Int × Int × Int)) (A6 : (List (Int × (Int × (Int × (Int × Int))))) → Int → (List (Int × (Int × (Int × (Int × Int))))) → Option Bool) (A43 : (List (Int × (Int × (Int × (Int × Int))))) → Int → Int → (List (Int × (Int × (Int × (Int × Int))))) → (List (Int × (Int × (Int × (Int × Int))))) → Option Bool) (E7 : (List (Int × (Int × (Int × (Int × Int))))) → Int → (List (Int × (Int × (Int × (Int × Int))))) → Option Bool) (x34 : (List (Int × (Int × (Int × (Int × Int)))))) (x35 : Int) (x36 : Int) (x37 : (List (Int × (Int × (Int × (Int × Int)))))) (x38 : (List (Int × (Int × (Int × (Int × Int)))))) : Option Bool :=
  (if (decide (x36 < ((((List.length x34)) : Nat) : Int))) then (match (idx x38 x36) with | none => none | some y39 => (match (idx x38 x36) with | none => none | some y40 => (match (idx x34 x36) with | none => none | some y41 => (match (veil (law29_like.f BIG y40.1 y40.2.1 y40.2.2.1 y40.2.2.2.1 y40.2.2.2.2 y41.1 y41.2.1 y41.2.2.1 y41.2.2.2.1 y41.2.2.2.2)) with | none => none | some y42 => (if (!y42) then some (false) else A43 x34 x35 (Go.IntKind.wrap .i64 (x36 + (1 : Int))) x37 x38))))) else E7 x34 x35 x37)
noncomputable def law29_ErrandPlays.l43 (fuel : Nat) (l : List (Int × Int × Int × Int × Int × Int)) (A6 : (List (Int × (Int × (Int × (Int × Int))))) → Int → (List (Int × (Int × (Int × (Int × Int))))) → Option Bool) : Nat → (List (Int × (Int × (Int × (Int × Int))))) → Int → Int → (List (Int × (Int × (Int × (Int × Int))))) → (List (Int × (Int × (Int × (Int × Int))))) → Option Bool
  | 0, _, _, _, _, _ => none
  | k + 1, x34, x35, x36, x37, x38 => law29_ErrandPlays.b43 l A6 (law29_ErrandPlays.l43 fuel l A6 k) (law29_ErrandPlays.l7 fuel l A6 fuel) x34 x35 x36 x37 x38
noncomputable def law29_ErrandPlays.s38 (l : List (Int × Int × Int × Int × Int × Int)) (x30 : Int) (x31 : (List (Int × (Int × (Int × (Int × Int)))))) (x32 : (List (Int × (Int × (Int × (Int × Int)))))) : St := ⟨[.d (.sl (.pair (.int .i64) (.pair (.int .i64) (.pair (.int .i64) (.pair (.int .i64) (.pair (.int .i64) (.int .i64))))))) (l), .dead, .dead, .ptr 64 0, .dead, .d (.int .i64) x30, .dead, .d (.sl (.pair (.int .i64) (.pair (.int .i64) (.pair (.int .i64) (.pair (.int .i64) (.int .i64)))))) x31, .dead, .dead, .dead, .dead, .dead, .dead, .dead, .dead, .dead, .dead, .dead, .dead, .dead, .dead, .dead, .dead, .dead, .dead, .dead, .dead, .dead, .dead, .dead, .dead, .dead, .dead, .dead, .dead, .dead, .dead, .dead, .dead, .dead, .dead, .dead, .dead, .dead, .dead, .dead, .dead, .dead, .dead, .dead, .dead, .dead, .dead, .dead, .dead, .dead, .dead, .dead, .dead, .dead, .dead, .dead, .dead, .dead, .dead, .dead, .dead, .dead, .dead, .dead, .dead, .dead, .dead, .dead, .dead, .dead, .dead, .dead, .dead, .dead, .dead, .dead, .dead, .dead, .dead, .dead, .dead, .dead, .dead, .dead, .dead, .dead, .dead, .dead, .dead, .dead, .dead, .dead, .dead, .dead, .dead, .dead, .dead, .dead, .dead, .dead, .dead, .dead, .dead, .dead, .dead, .dead, .dead, .dead, .dead, .dead, .dead, .dead, .dead, .dead, .dead, .dead, .dead, .dead, .dead, .dead, .dead, .dead, .dead, .dead, .dead, .dead, .dead, .dead, .dead, .dead, .dead, .dead, .dead, .dead, .dead, .dead, .dead, .dead, .dead, .dead, .dead, .dead, .dead, .dead, .dead, .dead, .dead, .dead, .dead, .dead, .dead, .dead, .dead, .dead, .dead, .dead, .dead, .dead, .dead, .dead, .dead, .dead, .dead, .dead, .dead, .dead, .dead, .dead, .dead, .dead, .dead, .dead, .dead, .dead, .dead, .dead, .dead, .dead, .dead, .dead, .dead, .dead, .dead, .dead, .dead, .dead, .dead, .dead, .dead, .dead, .dead, .dead, .dead, .dead, .dead, .dead, .dead], ofL [(64, .box [.row 65]), (65, .row 88 (.pair (.int .i64) (.pair (.int .i64) (.pair (.int .i64) (.pair (.int .i64) (.int .i64))))) x32 false)], 0⟩
noncomputable def law29_ErrandPlays.b38 (l : List (Int × Int × Int × Int × Int × Int)) (A6 : (List (Int × (Int × (Int × (Int × Int))))) → Int → (List (Int × (Int × (Int × (Int × Int))))) → Option Bool) (A38 : Int → (List (Int × (Int × (Int × (Int × Int))))) → (List (Int × (Int × (Int × (Int × Int))))) → Option Bool) (E43 : (List (Int × (Int × (Int × (Int × Int))))) → Int → Int → (List (Int × (Int × (Int × (Int × Int))))) → (List (Int × (Int × (Int × (Int × Int))))) → Option Bool) (x30 : Int) (x31 : (List (Int × (Int × (Int × (Int × Int)))))) (x32 : (List (Int × (Int × (Int × (Int × Int)))))) : Option Bool :=
  (match (veil (errand_List_All.f BIG x32)) with | none => none | some y33 => (if (((((List.length y33.2)) : Nat) : Int) != ((((List.length x31)) : Nat) : Int)) then some (false) else E43 x31 x30 (0 : Int) y33.1 y33.2))
noncomputable def law29_ErrandPlays.l38 (fuel : Nat) (l : List (Int × Int × Int × Int × Int × Int)) (A6 : (List (Int × (Int × (Int × (Int × Int))))) → Int → (List (Int × (Int × (Int × (Int × Int))))) → Option Bool) : Nat → Int → (List (Int × (Int × (Int × (Int × Int))))) → (List (Int × (Int × (Int × (Int × Int))))) → Option Bool
  | 0, _, _, _ => none
  | k + 1, x30, x31, x32 => law29_ErrandPlays.b38 l A6 (law29_ErrandPlays.l38 fuel l A6 k) (law29_ErrandPlays.l43 fuel l A6 fuel) x30 x31 x32
noncomputable def law29_ErrandPlays.s13 (l : List (Int × Int × Int × Int × Int × Int)) (x8 : (List (Int × (Int × (Int × (Int × Int)))))) (x9 : Int) (x10 : Int) (x11 : (List (Int × (Int × (Int × (Int × Int)))))) (x12 : Int) (x13 : Int) (x14 : Int) (x15 : Int) (x16 : Int) (x17 : (List (Int × (Int × (Int × (Int × Int)))))) : St := ⟨[.d (.sl (.pair (.int .i64) (.pair (.int .i64) (.pair (.int .i64) (.pair (.int .i64) (.pair (.int .i64) (.int .i64))))))) (l), .dead, .dead, .ptr 64 0, .d (.sl (.pair (.int .i64) (.pair (.int .i64) (.pair (.int .i64) (.pair (.int .i64) (.int .i64)))))) x8, .d (.int .i64) x9, .ptr 66 0, .row 67, .d (.int .i64) x10, .dead, .dead, .dead, .dead, .dead, .dead, .dead, .dead, .dead, .dead, .dead, .dead, .dead, .dead, .dead, .dead, .dead, .dead, .dead, .dead, .dead, .dead, .dead, .dead, .dead, .dead, .dead, .dead, .dead, .dead, .dead, .dead, .dead, .dead, .dead, .dead, .dead, .dead, .dead, .dead, .dead, .dead, .dead, .dead, .dead, .dead, .dead, .dead, .dead, .dead, .dead, .dead, .dead, .dead, .dead, .dead, .dead, .dead, .dead, .dead, .dead, .dead, .dead, .dead, .dead, .dead, .dead, .dead, .dead, .dead, .dead, .dead, .dead, .dead, .dead, .dead, .dead, .dead, .dead, .dead, .dead, .dead, .dead, .dead, .dead, .dead, .dead, .dead, .dead, .dead, .dead, .dead, .dead, .dead, .dead, .dead, .dead, .dead, .dead, .dead, .dead, .dead, .dead, .dead, .dead, .dead, .dead, .dead, .dead, .dead, .dead, .dead, .dead, .dead, .dead, .dead, .dead, .dead, .dead, .dead, .dead, .dead, .dead, .dead, .dead, .dead, .dead, .dead, .dead, .dead, .dead, .dead, .dead, .dead, .dead, .dead, .dead, .dead, .dead, .dead, .dead, .dead, .dead, .dead, .dead, .dead, .dead, .dead, .dead, .dead, .dead, .dead, .dead, .dead, .dead, .dead, .dead, .dead, .dead, .dead, .dead, .dead, .dead, .dead, .dead, .dead, .dead, .dead, .dead, .dead, .dead, .dead, .dead, .dead, .dead, .dead, .dead, .dead, .dead, .dead, .dead, .dead, .dead, .dead, .dead, .dead, .dead, .dead, .dead, .dead, .dead, .dead, .dead, .dead, .dead], ofL [(64, .box [.row 65]), (65, .row 88 (.pair (.int .i64) (.pair (.int .i64) (.pair (.int .i64) (.pair (.int .i64) (.int .i64))))) x11 false), (66, .box [.d (.int .i64) x12, .d (.int .i64) x13, .d (.int .i64) x14, .d (.int .i64) x15, .d (.int .i64) x16]), (67, .row 28 (.pair (.int .i64) (.pair (.int .i64) (.pair (.int .i64) (.pair (.int .i64) (.int .i64))))) x17 false)], 0⟩
noncomputable def law29_ErrandPlays.b13 (l : List (Int × Int × Int × Int × Int × Int)) (A6 : (List (Int × (Int × (Int × (Int × Int))))) → Int → (List (Int × (Int × (Int × (Int × Int))))) → Option Bool) (A13 : (List (Int × (Int × (Int × (Int × Int))))) → Int → Int → (List (Int × (Int × (Int × (Int × Int))))) → Int → Int → Int → Int → Int → (List (Int × (Int × (Int × (Int × Int))))) → Option Bool) (E14 : (List (Int × (Int × (Int × (Int × Int))))) → Int → Int → (List (Int × (Int × (Int × (Int × Int))))) → Int → Int → Int → Int → Int → (List (Int × (Int × (Int × (Int × Int))))) → Option Bool) (E38 : Int → (List (Int × (Int × (Int × (Int × Int))))) → (List (Int × (Int × (Int × (Int × Int))))) → Option Bool) (x8 : (List (Int × (Int × (Int × (Int × Int)))))) (x9 : Int) (x10 : Int) (x11 : (List (Int × (Int × (Int × (Int × Int)))))) (x12 : Int) (x13 : Int) (x14 : Int) (x15 : Int) (x16 : Int) (x17 : (List (Int × (Int × (Int × (Int × Int)))))) : Option Bool :=
  (if (decide (x10 < ((((List.length x8)) : Nat) : Int))) then (match (idx x8 x10) with | none => none | some y18 => (if (y18.1 != x12) then (match (idx x8 x10) with | none => none | some y19 => (if ((((List.length x17) + (List.length ((y19.1, (y19.2.1, (y19.2.2.1, (y19.2.2.2.1, y19.2.2.2.2)))) :: ([] : List (Int × (Int × (Int × (Int × Int)))))))) * (40 : Nat)) ≤ lim) then E14 x8 x9 x10 x11 x12 x13 x14 x15 x16 (x17 ++ ((y19.1, (y19.2.1, (y19.2.2.1, (y19.2.2.2.1, y19.2.2.2.2)))) :: ([] : List (Int × (Int × (Int × (Int × Int))))))) else none)) else E14 x8 x9 x10 x11 x12 x13 x14 x15 x16 x17)) else (if ((((List.length x17) + (List.length ((x12, (x13, (x14, (x15, x16)))) :: ([] : List (Int × (Int × (Int × (Int × Int)))))))) * (40 : Nat)) ≤ lim) then (if (decide (((((List.length (x17 ++ ((x12, (x13, (x14, (x15, x16)))) :: ([] : List (Int × (Int × (Int × (Int × Int))))))))) : Nat) : Int) > (16 : Int))) then (if (((0 : Int) ≤ (1 : Int)) ∧ ((1 : Int) ≤ ((((List.length (x17 ++ ((x12, (x13, (x14, (x15, x16)))) :: ([] : List (Int × (Int × (Int × (Int × Int))))))))) : Nat) : Int))) then E38 x9 (List.drop (Int.toNat (1 : Int)) (List.take (List.length (x17 ++ ((x12, (x13, (x14, (x15, x16)))) :: ([] : List (Int × (Int × (Int × (Int × Int)))))))) (x17 ++ ((x12, (x13, (x14, (x15, x16)))) :: ([] : List (Int × (Int × (Int × (Int × Int))))))))) x11 else none) else E38 x9 (x17 ++ ((x12, (x13, (x14, (x15, x16)))) :: ([] : List (Int × (Int × (Int × (Int × Int))))))) x11) else none))
noncomputable def law29_ErrandPlays.l13 (fuel : Nat) (l : List (Int × Int × Int × Int × Int × Int)) (A6 : (List (Int × (Int × (Int × (Int × Int))))) → Int → (List (Int × (Int × (Int × (Int × Int))))) → Option Bool) : Nat → (List (Int × (Int × (Int × (Int × Int))))) → Int → Int → (List (Int × (Int × (Int × (Int × Int))))) → Int → Int → Int → Int → Int → (List (Int × (Int × (Int × (Int × Int))))) → Option Bool
  | 0, _, _, _, _, _, _, _, _, _, _ => none
  | k + 1, x8, x9, x10, x11, x12, x13, x14, x15, x16, x17 => law29_ErrandPlays.b13 l A6 (law29_ErrandPlays.l13 fuel l A6 k) (law29_ErrandPlays.l14 fuel l A6 (law29_ErrandPlays.l13 fuel l A6 k) fuel) (law29_ErrandPlays.l38 fuel l A6 fuel) x8 x9 x10 x11 x12 x13 x14 x15 x16 x17
noncomputable def law29_ErrandPlays.s24 (l : List (Int × Int × Int × Int × Int × Int)) (x60 : (List (Int × (Int × (Int × (Int × Int)))))) (x61 : Int) (x62 : Int) (x63 : Int) (x64 : (List (Int × (Int × (Int × (Int × Int)))))) (x65 : Int) (x66 : Int) (x67 : Int) (x68 : Int) (x69 : Int) (x70 : (List (Int × (Int × (Int × (Int × Int)))))) : St := ⟨[.d (.sl (.pair (.int .i64) (.pair (.int .i64) (.pair (.int .i64) (.pair (.int .i64) (.pair (.int .i64) (.int .i64))))))) (l), .dead, .dead, .ptr 64 0, .d (.sl (.pair (.int .i64) (.pair (.int .i64) (.pair (.int .i64) (.pair (.int .i64) (.int .i64)))))) x60, .d (.int .i64) x61, .ptr 66 0, .row 67, .dead, .d (.int .i64) x62, .d (.int .i64) x63, .dead, .dead, .dead, .dead, .dead, .dead, .dead, .dead, .dead, .dead, .dead, .dead, .dead, .dead, .dead, .dead, .dead, .dead, .dead, .dead, .dead, .dead, .dead, .dead, .dead, .dead, .dead, .dead, .dead, .dead, .dead, .dead, .dead, .dead, .dead, .dead, .dead, .dead, .dead, .dead, .dead, .dead, .dead, .dead, .dead, .dead, .dead, .dead, .dead, .dead, .dead, .dead, .dead, .dead, .dead, .dead, .dead, .dead, .dead, .dead, .dead, .dead, .dead, .dead, .dead, .dead, .dead, .dead, .dead, .dead, .dead, .dead, .dead, .dead, .dead, .dead, .dead, .dead, .dead, .dead, .dead, .dead, .dead, .dead, .dead, .dead, .dead, .dead, .dead, .dead, .dead, .dead, .dead, .dead, .dead, .dead, .dead, .dead, .dead, .dead, .dead, .dead, .dead, .dead, .dead, .dead, .dead, .dead, .dead, .dead, .dead, .dead, .dead, .dead, .dead, .dead, .dead, .dead, .dead, .dead, .dead, .dead, .dead, .dead, .dead, .dead, .dead, .dead, .dead, .dead, .dead, .dead, .dead, .dead, .dead, .dead, .dead, .dead, .dead, .dead, .dead, .dead, .dead, .dead, .dead, .dead, .dead, .dead, .dead, .dead, .dead, .dead, .dead, .dead, .dead, .dead, .dead, .dead, .dead, .dead, .dead, .dead, .dead, .dead, .dead, .dead, .dead, .dead, .dead, .dead, .dead, .dead, .dead, .dead, .dead, .dead, .dead, .dead, .dead, .dead, .dead, .dead, .dead, .dead, .dead, .dead, .dead, .dead, .dead, .dead, .dead, .dead, .dead], ofL [(64, .box [.row 65]), (65, .row 88 (.pair (.int .i64) (.pair (.int .i64) (.pair (.int .i64) (.pair (.int .i64) (.int .i64))))) x64 false), (66, .box [.d (.int .i64) x65, .d (.int .i64) x66, .d (.int .i64) x67, .d (.int .i64) x68, .d (.int .i64) x69]), (67, .row 28 (.pair (.int .i64) (.pair (.int .i64) (.pair (.int .i64) (.pair (.int .i64) (.int .i64))))) x70 false)], 0⟩
noncomputable def law29_ErrandPlays.b24 (l : List (Int × Int × Int × Int × Int × Int)) (A6 : (List (Int × (Int × (Int × (Int × Int))))) → Int → (List (Int × (Int × (Int × (Int × Int))))) → Option Bool) (A23 : (List (Int × (Int × (Int × (Int × Int))))) → Int → Int → Int → (List (Int × (Int × (Int × (Int × Int))))) → Int → Int → Int → Int → Int → (List (Int × (Int × (Int × (Int × Int))))) → Option Bool) (A24 : (List (Int × (Int × (Int × (Int × Int))))) → Int → Int → Int → (List (Int × (Int × (Int × (Int × Int))))) → Int → Int → Int → Int → Int → (List (Int × (Int × (Int × (Int × Int))))) → Option Bool) (x60 : (List (Int × (Int × (Int × (Int × Int)))))) (x61 : Int) (x62 : Int) (x63 : Int) (x64 : (List (Int × (Int × (Int × (Int × Int)))))) (x65 : Int) (x66 : Int) (x67 : Int) (x68 : Int) (x69 : Int) (x70 : (List (Int × (Int × (Int × (Int × Int)))))) : Option Bool :=
  A23 x60 x61 x62 (Go.IntKind.wrap .i64 (x63 + (1 : Int))) x64 x65 x66 x67 x68 x69 x70
noncomputable def law29_ErrandPlays.l24 (fuel : Nat) (l : List (Int × Int × Int × Int × Int × Int)) (A6 : (List (Int × (Int × (Int × (Int × Int))))) → Int → (List (Int × (Int × (Int × (Int × Int))))) → Option Bool) (A23 : (List (Int × (Int × (Int × (Int × Int))))) → Int → Int → Int → (List (Int × (Int × (Int × (Int × Int))))) → Int → Int → Int → Int → Int → (List (Int × (Int × (Int × (Int × Int))))) → Option Bool) : Nat → (List (Int × (Int × (Int × (Int × Int))))) → Int → Int → Int → (List (Int × (Int × (Int × (Int × Int))))) → Int → Int → Int → Int → Int → (List (Int × (Int × (Int × (Int × Int))))) → Option Bool
  | 0, _, _, _, _, _, _, _, _, _, _, _ => none
  | k + 1, x60, x61, x62, x63, x64, x65, x66, x67, x68, x69, x70 => law29_ErrandPlays.b24 l A6 A23 (law29_ErrandPlays.l24 fuel l A6 A23 k) x60 x61 x62 x63 x64 x65 x66 x67 x68 x69 x70
noncomputable def law29_ErrandPlays.s23 (l : List (Int × Int × Int × Int × Int × Int)) (x47 : (List (Int × (Int × (Int × (Int × Int)))))) (x48 : Int) (x49 : Int) (x50 : Int) (x51 : (List (Int × (Int × (Int × (Int × Int)))))) (x52 : Int) (x53 : Int) (x54 : Int) (x55 : Int) (x56 : Int) (x57 : (List (Int × (Int × (Int × (Int × Int)))))) : St := ⟨[.d (.sl (.pair (.int .i64) (.pair (.int .i64) (.pair (.int .i64) (.pair (.int .i64) (.pair (.int .i64) (.int .i64))))))) (l), .dead, .dead, .ptr 64 0, .d (.sl (.pair (.int .i64) (.pair (.int .i64) (.pair (.int .i64) (.pair (.int .i64) (.int .i64)))))) x47, .d (.int .i64) x48, .ptr 66 0, .row 67, .dead, .d (.int .i64) x49, .d (.int .i64) x50, .dead, .dead, .dead, .dead, .dead, .dead, .dead, .dead, .dead, .dead, .dead, .dead, .dead, .dead, .dead, .dead, .dead, .dead, .dead, .dead, .dead, .dead, .dead, .dead, .dead, .dead, .dead, .dead, .dead, .dead, .dead, .dead, .dead, .dead, .dead, .dead, .dead, .dead, .dead, .dead, .dead, .dead, .dead, .dead, .dead, .dead, .dead, .dead, .dead, .dead, .dead, .dead, .dead, .dead, .dead, .dead, .dead, .dead, .dead, .dead, .dead, .dead, .dead, .dead, .dead, .dead, .dead, .dead, .dead, .dead, .dead, .dead, .dead, .dead, .dead, .dead, .dead, .dead, .dead, .dead, .dead, .dead, .dead, .dead, .dead, .dead, .dead, .dead, .dead, .dead, .dead, .dead, .dead, .dead, .dead, .dead, .dead, .dead, .dead, .dead, .dead, .dead, .dead, .dead, .dead, .dead, .dead, .dead, .dead, .dead, .dead, .dead, .dead, .dead, .dead, .dead, .dead, .dead, .dead, .dead, .dead, .dead, .dead, .dead, .dead, .dead, .dead, .dead, .dead, .dead, .dead, .dead, .dead, .dead, .dead, .dead, .dead, .dead, .dead, .dead, .dead, .dead, .dead, .dead, .dead, .dead, .dead, .dead, .dead, .dead, .dead, .dead, .dead, .dead, .dead, .dead, .dead, .dead, .dead, .dead, .dead, .dead, .dead, .dead, .dead, .dead, .dead, .dead, .dead, .dead, .dead, .dead, .dead, .dead, .dead, .dead, .dead, .dead, .dead, .dead, .dead, .dead, .dead, .dead, .dead, .dead, .dead, .dead, .dead, .dead, .dead, .dead, .dead], ofL [(64, .box [.row 65]), (65, .row 88 (.pair (.int .i64) (.pair (.int .i64) (.pair (.int .i64) (.pair (.int .i64) (.int .i64))))) x51 false), (66, .box [.d (.int .i64) x52, .d (.int .i64) x53, .d (.int .i64) x54, .d (.int .i64) x55, .d (.int .i64) x56]), (67, .row 28 (.pair (.int .i64) (.pair (.int .i64) (.pair (.int .i64) (.pair (.int .i64) (.int .i64))))) x57 false)], 0⟩
noncomputable def law29_ErrandPlays.b23 (l : List (Int × Int × Int × Int × Int × Int)) (A6 : (List (Int × (Int × (Int × (Int × Int))))) → Int → (List (Int × (Int × (Int × (Int × Int))))) → Option Bool) (A23 : (List (Int × (Int × (Int × (Int × Int))))) → Int → Int → Int → (List (Int × (Int × (Int × (Int × Int))))) → Int → Int → Int → Int → Int → (List (Int × (Int × (Int × (Int × Int))))) → Option Bool) (E24 : (List (Int × (Int × (Int × (Int × Int))))) → Int → Int → Int → (List (Int × (Int × (Int × (Int × Int))))) → Int → Int → Int → Int → Int → (List (Int × (Int × (Int × (Int × Int))))) → Option Bool) (E38 : Int → (List (Int × (Int × (Int × (Int × Int))))) → (List (Int × (Int × (Int × (Int × Int))))) → Option Bool) (x47 : (List (Int × (Int × (Int × (Int × Int)))))) (x48 : Int) (x49 : Int) (x50 : Int) (x51 : (List (Int × (Int × (Int × (Int × Int)))))) (x52 : Int) (x53 : Int) (x54 : Int) (x55 : Int) (x56 : Int) (x57 : (List (Int × (Int × (Int × (Int × Int)))))) : Option Bool :=
  (if (decide (x50 < ((((List.length x47)) : Nat) : Int))) then (if (decide (x49 < (0 : Int))) then (match (idx x47 x50) with | none => none | some y58 => (if (y58.1 == x52) then (match (idx x47 x50) with | none => none | some y59 => (if (y59.2.1 == x53) then E24 x47 x48 x50 x50 x51 x52 x53 x54 x55 x56 x57 else (match (idx x47 x50) with | none => none | some y71 => (if ((((List.length x57) + (List.length ((y71.1, (y71.2.1, (y71.2.2.1, (y71.2.2.2.1, y71.2.2.2.2)))) :: ([] : List (Int × (Int × (Int × (Int × Int)))))))) * (40 : Nat)) ≤ lim) then E24 x47 x48 x49 x50 x51 x52 x53 x54 x55 x56 (x57 ++ ((y71.1, (y71.2.1, (y71.2.2.1, (y71.2.2.2.1, y71.2.2.2.2)))) :: ([] : List (Int × (Int × (Int × (Int × Int))))))) else none)))) else (match (idx x47 x50) with | none => none | some y72 => (if ((((List.length x57) + (List.length ((y72.1, (y72.2.1, (y72.2.2.1, (y72.2.2.2.1, y72.2.2.2.2)))) :: ([] : List (Int × (Int × (Int × (Int × Int)))))))) * (40 : Nat)) ≤ lim) then E24 x47 x48 x49 x50 x51 x52 x53 x54 x55 x56 (x57 ++ ((y72.1, (y72.2.1, (y72.2.2.1, (y72.2.2.2.1, y72.2.2.2.2)))) :: ([] : List (Int × (Int × (Int × (Int × Int))))))) else none)))) else (match (idx x47 x50) with | none => none | some y73 => (if ((((List.length x57) + (List.length ((y73.1, (y73.2.1, (y73.2.2.1, (y73.2.2.2.1, y73.2.2.2.2)))) :: ([] : List (Int × (Int × (Int × (Int × Int)))))))) * (40 : Nat)) ≤ lim) then E24 x47 x48 x49 x50 x51 x52 x53 x54 x55 x56 (x57 ++ ((y73.1, (y73.2.1, (y73.2.2.1, (y73.2.2.2.1, y73.2.2.2.2)))) :: ([] : List (Int × (Int × (Int × (Int × Int))))))) else none))) else (match (veil (errand_List_Take.f BIG x51 x53 x52)) with | none => none | some y74 => (if (!(y74.2.2.2.2.2.1 == (decide (x49 ≥ (0 : Int))))) then some (false) else (if y74.2.2.2.2.2.1 then (match (idx x47 x49) with | none => none | some y75 => (match (veil (law29_like.f BIG y74.1 y74.2.1 y74.2.2.1 y74.2.2.2.1 y74.2.2.2.2.1 y75.1 y75.2.1 y75.2.2.1 y75.2.2.2.1 y75.2.2.2.2)) with | none => none | some y76 => (if (!y76) then some (false) else (if (!y74.2.2.2.2.2.1) then (match (veil (law29_like.f BIG y74.1 y74.2.1 y74.2.2.1 y74.2.2.2.1 y74.2.2.2.2.1 0 0 0 0 0)) with | none => none | some y77 => (if (!y77) then some (false) else E38 x48 x57 y74.2.2.2.2.2.2)) else E38 x48 x57 y74.2.2.2.2.2.2)))) else (if (!y74.2.2.2.2.2.1) then (match (veil (law29_like.f BIG y74.1 y74.2.1 y74.2.2.1 y74.2.2.2.1 y74.2.2.2.2.1 0 0 0 0 0)) with | none => none | some y78 => (if (!y78) then some (false) else E38 x48 x57 y74.2.2.2.2.2.2)) else E38 x48 x57 y74.2.2.2.2.2.2)))))
noncomputable def law29_ErrandPlays.l23 (fuel : Nat) (l : List (Int × Int × Int × Int × Int × Int)) (A6 : (List (Int × (Int × (Int × (Int × Int))))) → Int → (List (Int × (Int × (Int × (Int × Int))))) → Option Bool) : Nat → (List (Int × (Int × (Int × (Int × Int))))) → Int → Int → Int → (List (Int × (Int × (Int × (Int × Int))))) → Int → Int → Int → Int → Int → (List (Int × (Int × (Int × (Int × Int))))) → Option Bool
  | 0, _, _, _, _, _, _, _, _, _, _, _ => none
  | k + 1, x47, x48, x49, x50, x51, x52, x53, x54, x55, x56, x57 => law29_ErrandPlays.b23 l A6 (law29_ErrandPlays.l23 fuel l A6 k) (law29_ErrandPlays.l24 fuel l A6 (law29_ErrandPlays.l23 fuel l A6 k) fuel) (law29_ErrandPlays.l38 fuel l A6 fuel) x47 x48 x49 x50 x51 x52 x53 x54 x55 x56 x57
noncomputable def law29_ErrandPlays.s33 (l : List (Int × Int × Int × Int × Int × Int)) (x91 : (List (Int × (Int × (Int × (Int × Int)))))) (x92 : Int) (x93 : Int) (x94 : (List (Int × (Int × (Int × (Int × Int)))))) (x95 : Int) (x96 : Int) (x97 : Int) (x98 : Int) (x99 : Int) (x100 : (List (Int × (Int × (Int × (Int × Int)))))) : St := ⟨[.d (.sl (.pair (.int .i64) (.pair (.int .i64) (.pair (.int .i64) (.pair (.int .i64) (.pair (.int .i64) (.int .i64))))))) (l), .dead, .dead, .ptr 64 0, .d (.sl (.pair (.int .i64) (.pair (.int .i64) (.pair (.int .i64) (.pair (.int .i64) (.int .i64)))))) x91, .d (.int .i64) x92, .ptr 66 0, .row 67, .dead, .dead, .dead, .dead, .dead, .d (.int .i64) x93, .dead, .dead, .dead, .dead, .dead, .dead, .dead, .dead, .dead, .dead, .dead, .dead, .dead, .dead, .dead, .dead, .dead, .dead, .dead, .dead, .dead, .dead, .dead, .dead, .dead, .dead, .dead, .dead, .dead, .dead, .dead, .dead, .dead, .dead, .dead, .dead, .dead, .dead, .dead, .dead, .dead, .dead, .dead, .dead, .dead, .dead, .dead, .dead, .dead, .dead, .dead, .dead, .dead, .dead, .dead, .dead, .dead, .dead, .dead, .dead, .dead, .dead, .dead, .dead, .dead, .dead, .dead, .dead, .dead, .dead, .dead, .dead, .dead, .dead, .dead, .dead, .dead, .dead, .dead, .dead, .dead, .dead, .dead, .dead, .dead, .dead, .dead, .dead, .dead, .dead, .dead, .dead, .dead, .dead, .dead, .dead, .dead, .dead, .dead, .dead, .dead, .dead, .dead, .dead, .dead, .dead, .dead, .dead, .dead, .dead, .dead, .dead, .dead, .dead, .dead, .dead, .dead, .dead, .dead, .dead, .dead, .dead, .dead, .dead, .dead, .dead, .dead, .dead, .dead, .dead, .dead, .dead, .dead, .dead, .dead, .dead, .dead, .dead, .dead, .dead, .dead, .dead, .dead, .dead, .dead, .dead, .dead, .dead, .dead, .dead, .dead, .dead, .dead, .dead, .dead, .dead, .dead, .dead, .dead, .dead, .dead, .dead, .dead, .dead, .dead, .dead, .dead, .dead, .dead, .dead, .dead, .dead, .dead, .dead, .dead, .dead, .dead, .dead, .dead, .dead, .dead, .dead, .dead, .dead, .dead, .dead, .dead, .dead, .dead, .dead], ofL [(64, .box [.row 65]), (65, .row 88 (.pair (.int .i64) (.pair (.int .i64) (.pair (.int .i64) (.pair (.int .i64) (.int .i64))))) x94 false), (66, .box [.d (.int .i64) x95, .d (.int .i64) x96, .d (.int .i64) x97, .d (.int .i64) x98, .d (.int .i64) x99]), (67, .row 28 (.pair (.int .i64) (.pair (.int .i64) (.pair (.int .i64) (.pair (.int .i64) (.int .i64))))) x100 false)], 0⟩
noncomputable def law29_ErrandPlays.b33 (l : List (Int × Int × Int × Int × Int × Int)) (A6 : (List (Int × (Int × (Int × (Int × Int))))) → Int → (List (Int × (Int × (Int × (Int × Int))))) → Option Bool) (A32 : (List (Int × (Int × (Int × (Int × Int))))) → Int → Int → (List (Int × (Int × (Int × (Int × Int))))) → Int → Int → Int → Int → Int → (List (Int × (Int × (Int × (Int × Int))))) → Option Bool) (A33 : (List (Int × (Int × (Int × (Int × Int))))) → Int → Int → (List (Int × (Int × (Int × (Int × Int))))) → Int → Int → Int → Int → Int → (List (Int × (Int × (Int × (Int × Int))))) → Option Bool) (x91 : (List (Int × (Int × (Int × (Int × Int)))))) (x92 : Int) (x93 : Int) (x94 : (List (Int × (Int × (Int × (Int × Int)))))) (x95 : Int) (x96 : Int) (x97 : Int) (x98 : Int) (x99 : Int) (x100 : (List (Int × (Int × (Int × (Int × Int)))))) : Option Bool :=
  A32 x91 x92 (Go.IntKind.wrap .i64 (x93 + (1 : Int))) x94 x95 x96 x97 x98 x99 x100
noncomputable def law29_ErrandPlays.l33 (fuel : Nat) (l : List (Int × Int × Int × Int × Int × Int)) (A6 : (List (Int × (Int × (Int × (Int × Int))))) → Int → (List (Int × (Int × (Int × (Int × Int))))) → Option Bool) (A32 : (List (Int × (Int × (Int × (Int × Int))))) → Int → Int → (List (Int × (Int × (Int × (Int × Int))))) → Int → Int → Int → Int → Int → (List (Int × (Int × (Int × (Int × Int))))) → Option Bool) : Nat → (List (Int × (Int × (Int × (Int × Int))))) → Int → Int → (List (Int × (Int × (Int × (Int × Int))))) → Int → Int → Int → Int → Int → (List (Int × (Int × (Int × (Int × Int))))) → Option Bool
  | 0, _, _, _, _, _, _, _, _, _, _ => none
  | k + 1, x91, x92, x93, x94, x95, x96, x97, x98, x99, x100 => law29_ErrandPlays.b33 l A6 A32 (law29_ErrandPlays.l33 fuel l A6 A32 k) x91 x92 x93 x94 x95 x96 x97 x98 x99 x100
noncomputable def law29_ErrandPlays.s32 (l : List (Int × Int × Int × Int × Int × Int)) (x79 : (List (Int × (Int × (Int × (Int × Int)))))) (x80 : Int) (x81 : Int) (x82 : (List (Int × (Int × (Int × (Int × Int)))))) (x83 : Int) (x84 : Int) (x85 : Int) (x86 : Int) (x87 : Int) (x88 : (List (Int × (Int × (Int × (Int × Int)))))) : St := ⟨[.d (.sl (.pair (.int .i64) (.pair (.int .i64) (.pair (.int .i64) (.pair (.int .i64) (.pair (.int .i64) (.int .i64))))))) (l), .dead, .dead, .ptr 64 0, .d (.sl (.pair (.int .i64) (.pair (.int .i64) (.pair (.int .i64) (.pair (.int .i64) (.int .i64)))))) x79, .d (.int .i64) x80, .ptr 66 0, .row 67, .dead, .dead, .dead, .dead, .dead, .d (.int .i64) x81, .dead, .dead, .dead, .dead, .dead, .dead, .dead, .dead, .dead, .dead, .dead, .dead, .dead, .dead, .dead, .dead, .dead, .dead, .dead, .dead, .dead, .dead, .dead, .dead, .dead, .dead, .dead, .dead, .dead, .dead, .dead, .dead, .dead, .dead, .dead, .dead, .dead, .dead, .dead, .dead, .dead, .dead, .dead, .dead, .dead, .dead, .dead, .dead, .dead, .dead, .dead, .dead, .dead, .dead, .dead, .dead, .dead, .dead, .dead, .dead, .dead, .dead, .dead, .dead, .dead, .dead, .dead, .dead, .dead, .dead, .dead, .dead, .dead, .dead, .dead, .dead, .dead, .dead, .dead, .dead, .dead, .dead, .dead, .dead, .dead, .dead, .dead, .dead, .dead, .dead, .dead, .dead, .dead, .dead, .dead, .dead, .dead, .dead, .dead, .dead, .dead, .dead, .dead, .dead, .dead, .dead, .dead, .dead, .dead, .dead, .dead, .dead, .dead, .dead, .dead, .dead, .dead, .dead, .dead, .dead, .dead, .dead, .dead, .dead, .dead, .dead, .dead, .dead, .dead, .dead, .dead, .dead, .dead, .dead, .dead, .dead, .dead, .dead, .dead, .dead, .dead, .dead, .dead, .dead, .dead, .dead, .dead, .dead, .dead, .dead, .dead, .dead, .dead, .dead, .dead, .dead, .dead, .dead, .dead, .dead, .dead, .dead, .dead, .dead, .dead, .dead, .dead, .dead, .dead, .dead, .dead, .dead, .dead, .dead, .dead, .dead, .dead, .dead, .dead, .dead, .dead, .dead, .dead, .dead, .dead, .dead, .dead, .dead, .dead, .dead], ofL [(64, .box [.row 65]), (65, .row 88 (.pair (.int .i64) (.pair (.int .i64) (.pair (.int .i64) (.pair (.int .i64) (.int .i64))))) x82 false), (66, .box [.d (.int .i64) x83, .d (.int .i64) x84, .d (.int .i64) x85, .d (.int .i64) x86, .d (.int .i64) x87]), (67, .row 28 (.pair (.int .i64) (.pair (.int .i64) (.pair (.int .i64) (.pair (.int .i64) (.int .i64))))) x88 false)], 0⟩
noncomputable def law29_ErrandPlays.b32 (l : List (Int × Int × Int × Int × Int × Int)) (A6 : (List (Int × (Int × (Int × (Int × Int))))) → Int → (List (Int × (Int × (Int × (Int × Int))))) → Option Bool) (A32 : (List (Int × (Int × (Int × (Int × Int))))) → Int → Int → (List (Int × (Int × (Int × (Int × Int))))) → Int → Int → Int → Int → Int → (List (Int × (Int × (Int × (Int × Int))))) → Option Bool) (E33 : (List (Int × (Int × (Int × (Int × Int))))) → Int → Int → (List (Int × (Int × (Int × (Int × Int))))) → Int → Int → Int → Int → Int → (List (Int × (Int × (Int × (Int × Int))))) → Option Bool) (E38 : Int → (List (Int × (Int × (Int × (Int × Int))))) → (List (Int × (Int × (Int × (Int × Int))))) → Option Bool) (x79 : (List (Int × (Int × (Int × (Int × Int)))))) (x80 : Int) (x81 : Int) (x82 : (List (Int × (Int × (Int × (Int × Int)))))) (x83 : Int) (x84 : Int) (x85 : Int) (x86 : Int) (x87 : Int) (x88 : (List (Int × (Int × (Int × (Int × Int)))))) : Option Bool :=
  (if (decide (x81 < ((((List.length x79)) : Nat) : Int))) then (match (idx x79 x81) with | none => none | some y89 => (if (decide (y89.2.2.2.2 ≥ x87)) then (match (idx x79 x81) with | none => none | some y90 => (if ((((List.length x88) + (List.length ((y90.1, (y90.2.1, (y90.2.2.1, (y90.2.2.2.1, y90.2.2.2.2)))) :: ([] : List (Int × (Int × (Int × (Int × Int)))))))) * (40 : Nat)) ≤ lim) then E33 x79 x80 x81 x82 x83 x84 x85 x86 x87 (x88 ++ ((y90.1, (y90.2.1, (y90.2.2.1, (y90.2.2.2.1, y90.2.2.2.2)))) :: ([] : List (Int × (Int × (Int × (Int × Int))))))) else none)) else E33 x79 x80 x81 x82 x83 x84 x85 x86 x87 x88)) else (match (veil (errand_List_Expire.f BIG x82 x87)) with | none => none | some y101 => (if (y101.1 != (Go.IntKind.wrap .i64 (((((List.length x79)) : Nat) : Int) - ((((List.length x88)) : Nat) : Int)))) then some (false) else E38 x80 x88 y101.2)))
noncomputable def law29_ErrandPlays.l32 (fuel : Nat) (l : List (Int × Int × Int × Int × Int × Int)) (A6 : (List (Int × (Int × (Int × (Int × Int))))) → Int → (List (Int × (Int × (Int × (Int × Int))))) → Option Bool) : Nat → (List (Int × (Int × (Int × (Int × Int))))) → Int → Int → (List (Int × (Int × (Int × (Int × Int))))) → Int → Int → Int → Int → Int → (List (Int × (Int × (Int × (Int × Int))))) → Option Bool
  | 0, _, _, _, _, _, _, _, _, _, _ => none
  | k + 1, x79, x80, x81, x82, x83, x84, x85, x86, x87, x88 => law29_ErrandPlays.b32 l A6 (law29_ErrandPlays.l32 fuel l A6 k) (law29_ErrandPlays.l33 fuel l A6 (law29_ErrandPlays.l32 fuel l A6 k) fuel) (law29_ErrandPlays.l38 fuel l A6 fuel) x79 x80 x81 x82 x83 x84 x85 x86 x87 x88
noncomputable def law29_ErrandPlays.s6 (l : List (Int × Int × Int × Int × Int × Int)) (x2 : (List (Int × (Int × (Int × (Int × Int)))))) (x3 : Int) (x4 : (List (Int × (Int × (Int × (Int × Int)))))) : St := ⟨[.d (.sl (.pair (.int .i64) (.pair (.int .i64) (.pair (.int .i64) (.pair (.int .i64) (.pair (.int .i64) (.int .i64))))))) (l), .dead, .dead, .ptr 64 0, .d (.sl (.pair (.int .i64) (.pair (.int .i64) (.pair (.int .i64) (.pair (.int .i64) (.int .i64)))))) x2, .d (.int .i64) x3, .dead, .dead, .dead, .dead, .dead, .dead, .dead, .dead, .dead, .dead, .dead, .dead, .dead, .dead, .dead, .dead, .dead, .dead, .dead, .dead, .dead, .dead, .dead, .dead, .dead, .dead, .dead, .dead, .dead, .dead, .dead, .dead, .dead, .dead, .dead, .dead, .dead, .dead, .dead, .dead, .dead, .dead, .dead, .dead, .dead, .dead, .dead, .dead, .dead, .dead, .dead, .dead, .dead, .dead, .dead, .dead, .dead, .dead, .dead, .dead, .dead, .dead, .dead, .dead, .dead, .dead, .dead, .dead, .dead, .dead, .dead, .dead, .dead, .dead, .dead, .dead, .dead, .dead, .dead, .dead, .dead, .dead, .dead, .dead, .dead, .dead, .dead, .dead, .dead, .dead, .dead, .dead, .dead, .dead, .dead, .dead, .dead, .dead, .dead, .dead, .dead, .dead, .dead, .dead, .dead, .dead, .dead, .dead, .dead, .dead, .dead, .dead, .dead, .dead, .dead, .dead, .dead, .dead, .dead, .dead, .dead, .dead, .dead, .dead, .dead, .dead, .dead, .dead, .dead, .dead, .dead, .dead, .dead, .dead, .dead, .dead, .dead, .dead, .dead, .dead, .dead, .dead, .dead, .dead, .dead, .dead, .dead, .dead, .dead, .dead, .dead, .dead, .dead, .dead, .dead, .dead, .dead, .dead, .dead, .dead, .dead, .dead, .dead, .dead, .dead, .dead, .dead, .dead, .dead, .dead, .dead, .dead, .dead, .dead, .dead, .dead, .dead, .dead, .dead, .dead, .dead, .dead, .dead, .dead, .dead, .dead, .dead, .dead, .dead, .dead, .dead, .dead, .dead, .dead, .dead, .dead, .dead, .dead], ofL [(64, .box [.row 65]), (65, .row 88 (.pair (.int .i64) (.pair (.int .i64) (.pair (.int .i64) (.pair (.int .i64) (.int .i64))))) x4 false)], 0⟩
noncomputable def law29_ErrandPlays.b6 (l : List (Int × Int × Int × Int × Int × Int)) (A6 : (List (Int × (Int × (Int × (Int × Int))))) → Int → (List (Int × (Int × (Int × (Int × Int))))) → Option Bool) (E13 : (List (Int × (Int × (Int × (Int × Int))))) → Int → Int → (List (Int × (Int × (Int × (Int × Int))))) → Int → Int → Int → Int → Int → (List (Int × (Int × (Int × (Int × Int))))) → Option Bool) (E23 : (List (Int × (Int × (Int × (Int × Int))))) → Int → Int → Int → (List (Int × (Int × (Int × (Int × Int))))) → Int → Int → Int → Int → Int → (List (Int × (Int × (Int × (Int × Int))))) → Option Bool) (E32 : (List (Int × (Int × (Int × (Int × Int))))) → Int → Int → (List (Int × (Int × (Int × (Int × Int))))) → Int → Int → Int → Int → Int → (List (Int × (Int × (Int × (Int × Int))))) → Option Bool) (x2 : (List (Int × (Int × (Int × (Int × Int)))))) (x3 : Int) (x4 : (List (Int × (Int × (Int × (Int × Int)))))) : Option Bool :=
  (if (decide (x3 < ((((List.length l)) : Nat) : Int))) then (match (idx l x3) with | none => none | some y5 => (match (idx l x3) with | none => none | some y6 => (if (y6.1 == (0 : Int)) then (match (veil (errand_List_Put.f BIG x4 y5.2.1 y5.2.2.1 y5.2.2.2.1 y5.2.2.2.2.1 y5.2.2.2.2.2)) with | none => none | some y7 => E13 x2 x3 (0 : Int) y7 y5.2.1 y5.2.2.1 y5.2.2.2.1 y5.2.2.2.2.1 y5.2.2.2.2.2 ([] : List (Int × (Int × (Int × (Int × Int)))))) else (match (idx l x3) with | none => none | some y46 => (if (y46.1 == (1 : Int)) then E23 x2 x3 (-(1 : Int)) (0 : Int) x4 y5.2.1 y5.2.2.1 y5.2.2.2.1 y5.2.2.2.2.1 y5.2.2.2.2.2 ([] : List (Int × (Int × (Int × (Int × Int))))) else E32 x2 x3 (0 : Int) x4 y5.2.1 y5.2.2.1 y5.2.2.2.1 y5.2.2.2.2.1 y5.2.2.2.2.2 ([] : List (Int × (Int × (Int × (Int × Int)))))))))) else (match (veil (law29_awake.f BIG ())) with | none => none | some y102 => some (y102)))
noncomputable def law29_ErrandPlays.l6 (fuel : Nat) (l : List (Int × Int × Int × Int × Int × Int)) : Nat → (List (Int × (Int × (Int × (Int × Int))))) → Int → (List (Int × (Int × (Int × (Int × Int))))) → Option Bool
  | 0, _, _, _ => none
  | k + 1, x2, x3, x4 => law29_ErrandPlays.b6 l (law29_ErrandPlays.l6 fuel l k) (law29_ErrandPlays.l13 fuel l (law29_ErrandPlays.l6 fuel l k) fuel) (law29_ErrandPlays.l23 fuel l (law29_ErrandPlays.l6 fuel l k) fuel) (law29_ErrandPlays.l32 fuel l (law29_ErrandPlays.l6 fuel l k) fuel) x2 x3 x4
noncomputable def law29_ErrandPlays.b (l : List (Int × Int × Int × Int × Int × Int)) (E6 : (List (Int × (Int × (Int × (Int × Int))))) → Int → (List (Int × (Int × (Int × (Int × Int))))) → Option Bool) : Option Bool :=
  (if (decide (((((List.length l)) : Nat) : Int) > (60 : Int))) then (match (veil (law29_awake.f BIG ())) with | none => none | some y0 => some (y0)) else (match (veil (errand_New.f BIG ())) with | none => none | some y1 => E6 ([] : List (Int × (Int × (Int × (Int × Int))))) (0 : Int) ([] : List (Int × (Int × (Int × (Int × Int)))))))
noncomputable def law29_ErrandPlays.f (fuel : Nat) (l : List (Int × Int × Int × Int × Int × Int)) : Option Bool := law29_ErrandPlays.b l (law29_ErrandPlays.l6 fuel l fuel)
theorem law29_ErrandPlays.l14_eq (fuel : Nat) (l : List (Int × Int × Int × Int × Int × Int)) (k6 k13 : Nat) : ∀ (k : Nat) (x20 : (List (Int × (Int × (Int × (Int × Int)))))) (x21 : Int) (x22 : Int) (x23 : (List (Int × (Int × (Int × (Int × Int)))))) (x24 : Int) (x25 : Int) (x26 : Int) (x27 : Int) (x28 : Int) (x29 : (List (Int × (Int × (Int × (Int × Int)))))), lp law29_ErrandPlays_E fuel Try.f3 [.raw] 0 law29_ErrandPlays.k 14 [k6, k13] k (law29_ErrandPlays.s14 l x20 x21 x22 x23 x24 x25 x26 x27 x28 x29) = law29_ErrandPlays.l14 fuel l (fun x2 x3 x4 => lp law29_ErrandPlays_E fuel Try.f3 [.raw] 0 law29_ErrandPlays.k 6 [] k6 (law29_ErrandPlays.s6 l x2 x3 x4)) (fun x8 x9 x10 x11 x12 x13 x14 x15 x16 x17 => lp law29_ErrandPlays_E fuel Try.f3 [.raw] 0 law29_ErrandPlays.k 13 [k6] k13 (law29_ErrandPlays.s13 l x8 x9 x10 x11 x12 x13 x14 x15 x16 x17)) k x20 x21 x22 x23 x24 x25 x26 x27 x28 x29 := by
  intro k
  induction k with
  | zero => intro x20 x21 x22 x23 x24 x25 x26 x27 x28 x29; rfl
  | succ k ih =>
    intro x20 x21 x22 x23 x24 x25 x26 x27 x28 x29
    have h : lp law29_ErrandPlays_E fuel Try.f3 [.raw] 0 law29_ErrandPlays.k 14 [k6, k13] (k + 1) (law29_ErrandPlays.s14 l x20 x21 x22 x23 x24 x25 x26 x27 x28 x29) = law29_ErrandPlays.b14 l (fun x2 x3 x4 => lp law29_ErrandPlays_E fuel Try.f3 [.raw] 0 law29_ErrandPlays.k 6 [] k6 (law29_ErrandPlays.s6 l x2 x3 x4)) (fun x8 x9 x10 x11 x12 x13 x14 x15 x16 x17 => lp law29_ErrandPlays_E fuel Try.f3 [.raw] 0 law29_ErrandPlays.k 13 [k6] k13 (law29_ErrandPlays.s13 l x8 x9 x10 x11 x12 x13 x14 x15 x16 x17)) (fun x20 x21 x22 x23 x24 x25 x26 x27 x28 x29 => lp law29_ErrandPlays_E fuel Try.f3 [.raw] 0 law29_ErrandPlays.k 14 [k6, k13] k (law29_ErrandPlays.s14 l x20 x21 x22 x23 x24 x25 x26 x27 x28 x29)) x20 x21 x22 x23 x24 x25 x26 x27 x28 x29 := by kernel_rfl
    rw [h]
    have e14 : (fun x20 x21 x22 x23 x24 x25 x26 x27 x28 x29 => lp law29_ErrandPlays_E fuel Try.f3 [.raw] 0 law29_ErrandPlays.k 14 [k6, k13] k (law29_ErrandPlays.s14 l x20 x21 x22 x23 x24 x25 x26 x27 x28 x29)) = law29_ErrandPlays.l14 fuel l (fun x2 x3 x4 => lp law29_ErrandPlays_E fuel Try.f3 [.raw] 0 law29_ErrandPlays.k 6 [] k6 (law29_ErrandPlays.s6 l x2 x3 x4)) (fun x8 x9 x10 x11 x12 x13 x14 x15 x16 x17 => lp law29_ErrandPlays_E fuel Try.f3 [.raw] 0 law29_ErrandPlays.k 13 [k6] k13 (law29_ErrandPlays.s13 l x8 x9 x10 x11 x12 x13 x14 x15 x16 x17)) k := (funext fun x20 => (funext fun x21 => (funext fun x22 => (funext fun x23 => (funext fun x24 => (funext fun x25 => (funext fun x26 => (funext fun x27 => (funext fun x28 => (funext fun x29 => ih x20 x21 x22 x23 x24 x25 x26 x27 x28 x29))))))))))
    rw [e14]
    rfl
theorem law29_ErrandPlays.l7_eq (fuel : Nat) (l : List (Int × Int × Int × Int × Int × Int)) (k6 : Nat) : ∀ (k : Nat) (x43 : (List (Int × (Int × (Int × (Int × Int)))))) (x44 : Int) (x45 : (List (Int × (Int × (Int × (Int × Int)))))), lp law29_ErrandPlays_E fuel Try.f3 [.raw] 0 law29_ErrandPlays.k 7 [k6] k (law29_ErrandPlays.s7 l x43 x44 x45) = law29_ErrandPlays.l7 fuel l (fun x2 x3 x4 => lp law29_ErrandPlays_E fuel Try.f3 [.raw] 0 law29_ErrandPlays.k 6 [] k6 (law29_ErrandPlays.s6 l x2 x3 x4)) k x43 x44 x45 := by
  intro k
  induction k with
  | zero => intro x43 x44 x45; rfl
  | succ k ih =>
    intro x43 x44 x45
    have h : lp law29_ErrandPlays_E fuel Try.f3 [.raw] 0 law29_ErrandPlays.k 7 [k6] (k + 1) (law29_ErrandPlays.s7 l x43 x44 x45) = law29_ErrandPlays.b7 l (fun x2 x3 x4 => lp law29_ErrandPlays_E fuel Try.f3 [.raw] 0 law29_ErrandPlays.k 6 [] k6 (law29_ErrandPlays.s6 l x2 x3 x4)) (fun x43 x44 x45 => lp law29_ErrandPlays_E fuel Try.f3 [.raw] 0 law29_ErrandPlays.k 7 [k6] k (law29_ErrandPlays.s7 l x43 x44 x45)) x43 x44 x45 := by kernel_rfl
    rw [h]
    have e7 : (fun x43 x44 x45 => lp law29_ErrandPlays_E fuel Try.f3 [.raw] 0 law29_ErrandPlays.k 7 [k6] k (law29_ErrandPlays.s7 l x43 x44 x45)) = law29_ErrandPlays.l7 fuel l (fun x2 x3 x4 => lp law29_ErrandPlays_E fuel Try.f3 [.raw] 0 law29_ErrandPlays.k 6 [] k6 (law29_ErrandPlays.s6 l x2 x3 x4)) k := (funext fun x43 => (funext fun x44 => (funext fun x45 => ih x43 x44 x45)))
    rw [e7]
    rfl
theorem law29_ErrandPlays.l43_eq (fuel : Nat) (l : List (Int × Int × Int × Int × Int × Int)) (k6 : Nat) : ∀ (k : Nat) (x34 : (List (Int × (Int × (Int × (Int × Int)))))) (x35 : Int) (x36 : Int) (x37 : (List (Int × (Int × (Int × (Int × Int)))))) (x38 : (List (Int × (Int × (Int × (Int × Int)))))), lp law29_ErrandPlays_E fuel Try.f3 [.raw] 0 law29_ErrandPlays.k 43 [k6] k (law29_ErrandPlays.s43 l x34 x35 x36 x37 x38) = law29_ErrandPlays.l43 fuel l (fun x2 x3 x4 => lp law29_ErrandPlays_E fuel Try.f3 [.raw] 0 law29_ErrandPlays.k 6 [] k6 (law29_ErrandPlays.s6 l x2 x3 x4)) k x34 x35 x36 x37 x38 := by
  intro k
  induction k with
  | zero => intro x34 x35 x36 x37 x38; rfl
  | succ k ih =>
    intro x34 x35 x36 x37 x38
    have h : lp law29_ErrandPlays_E fuel Try.f3 [.raw] 0 law29_ErrandPlays.k 43 [k6] (k + 1) (law29_ErrandPlays.s43 l x34 x35 x36 x37 x38) = law29_ErrandPlays.b43 l (fun x2 x3 x4 => lp law29_ErrandPlays_E fuel Try.f3 [.raw] 0 law29_ErrandPlays.k 6 [] k6 (law29_ErrandPlays.s6 l x2 x3 x4)) (fun x34 x35 x36 x37 x38 => lp law29_ErrandPlays_E fuel Try.f3 [.raw] 0 law29_ErrandPlays.k 43 [k6] k (law29_ErrandPlays.s43 l x34 x35 x36 x37 x38)) (fun x43 x44 x45 => lp law29_ErrandPlays_E fuel Try.f3 [.raw] 0 law29_ErrandPlays.k 7 [k6] fuel (law29_ErrandPlays.s7 l x43 x44 x45)) x34 x35 x36 x37 x38 := by kernel_rfl
    rw [h]
    have e43 : (fun x34 x35 x36 x37 x38 => lp law29_ErrandPlays_E fuel Try.f3 [.raw] 0 law29_ErrandPlays.k 43 [k6] k (law29_ErrandPlays.s43 l x34 x35 x36 x37 x38)) = law29_ErrandPlays.l43 fuel l (fun x2 x3 x4 => lp law29_ErrandPlays_E fuel Try.f3 [.raw] 0 law29_ErrandPlays.k 6 [] k6 (law29_ErrandPlays.s6 l x2 x3 x4)) k := (funext fun x34 => (funext fun x35 => (funext fun x36 => (funext fun x37 => (funext fun x38 => ih x34 x35 x36 x37 x38)))))
    rw [e43]
    have e7 : (fun x43 x44 x45 => lp law29_ErrandPlays_E fuel Try.f3 [.raw] 0 law29_ErrandPlays.k 7 [k6] fuel (law29_ErrandPlays.s7 l x43 x44 x45)) = law29_ErrandPlays.l7 fuel l (fun x2 x3 x4 => lp law29_ErrandPlays_E fuel Try.f3 [.raw] 0 law29_ErrandPlays.k 6 [] k6 (law29_ErrandPlays.s6 l x2 x3 x4)) fuel := (funext fun x43 => (funext fun x44 => (funext fun x45 => law29_ErrandPlays.l7_eq fuel l k6 fuel x43 x44 x45)))
    rw [e7]
    rfl
theorem law29_ErrandPlays.l38_eq (fuel : Nat) (l : List (Int × Int × Int × Int × Int × Int)) (k6 : Nat) : ∀ (k : Nat) (x30 : Int) (x31 : (List (Int × (Int × (Int × (Int × Int)))))) (x32 : (List (Int × (Int × (Int × (Int × Int)))))), lp law29_ErrandPlays_E fuel Try.f3 [.raw] 0 law29_ErrandPlays.k 38 [k6] k (law29_ErrandPlays.s38 l x30 x31 x32) = law29_ErrandPlays.l38 fuel l (fun x2 x3 x4 => lp law29_ErrandPlays_E fuel Try.f3 [.raw] 0 law29_ErrandPlays.k 6 [] k6 (law29_ErrandPlays.s6 l x2 x3 x4)) k x30 x31 x32 := by
  intro k
  induction k with
  | zero => intro x30 x31 x32; rfl
  | succ k ih =>
    intro x30 x31 x32
    have h : lp law29_ErrandPlays_E fuel Try.f3 [.raw] 0 law29_ErrandPlays.k 38 [k6] (k + 1) (law29_ErrandPlays.s38 l x30 x31 x32) = law29_ErrandPlays.b38 l (fun x2 x3 x4 => lp law29_ErrandPlays_E fuel Try.f3 [.raw] 0 law29_ErrandPlays.k 6 [] k6 (law29_ErrandPlays.s6 l x2 x3 x4)) (fun x30 x31 x32 => lp law29_ErrandPlays_E fuel Try.f3 [.raw] 0 law29_ErrandPlays.k 38 [k6] k (law29_ErrandPlays.s38 l x30 x31 x32)) (fun x34 x35 x36 x37 x38 => lp law29_ErrandPlays_E fuel Try.f3 [.raw] 0 law29_ErrandPlays.k 43 [k6] fuel (law29_ErrandPlays.s43 l x34 x35 x36 x37 x38)) x30 x31 x32 := by kernel_rfl
    rw [h]
    have e38 : (fun x30 x31 x32 => lp law29_ErrandPlays_E fuel Try.f3 [.raw] 0 law29_ErrandPlays.k 38 [k6] k (law29_ErrandPlays.s38 l x30 x31 x32)) = law29_ErrandPlays.l38 fuel l (fun x2 x3 x4 => lp law29_ErrandPlays_E fuel Try.f3 [.raw] 0 law29_ErrandPlays.k 6 [] k6 (law29_ErrandPlays.s6 l x2 x3 x4)) k := (funext fun x30 => (funext fun x31 => (funext fun x32 => ih x30 x31 x32)))
    rw [e38]
    have e43 : (fun x34 x35 x36 x37 x38 => lp law29_ErrandPlays_E fuel Try.f3 [.raw] 0 law29_ErrandPlays.k 43 [k6] fuel (law29_ErrandPlays.s43 l x34 x35 x36 x37 x38)) = law29_ErrandPlays.l43 fuel l (fun x2 x3 x4 => lp law29_ErrandPlays_E fuel Try.f3 [.raw] 0 law29_ErrandPlays.k 6 [] k6 (law29_ErrandPlays.s6 l x2 x3 x4)) fuel := (funext fun x34 => (funext fun x35 => (funext fun x36 => (funext fun x37 => (funext fun x38 => law29_ErrandPlays.l43_eq fuel l k6 fuel x34 x35 x36 x37 x38)))))
    rw [e43]
    rfl
theorem law29_ErrandPlays.l13_eq (fuel : Nat) (l : List (Int × Int × Int × Int × Int × Int)) (k6 : Nat) : ∀ (k : Nat) (x8 : (List (Int × (Int × (Int × (Int × Int)))))) (x9 : Int) (x10 : Int) (x11 : (List (Int × (Int × (Int × (Int × Int)))))) (x12 : Int) (x13 : Int) (x14 : Int) (x15 : Int) (x16 : Int) (x17 : (List (Int × (Int × (Int × (Int × Int)))))), lp law29_ErrandPlays_E fuel Try.f3 [.raw] 0 law29_ErrandPlays.k 13 [k6] k (law29_ErrandPlays.s13 l x8 x9 x10 x11 x12 x13 x14 x15 x16 x17) = law29_ErrandPlays.l13 fuel l (fun x2 x3 x4 => lp law29_ErrandPlays_E fuel Try.f3 [.raw] 0 law29_ErrandPlays.k 6 [] k6 (law29_ErrandPlays.s6 l x2 x3 x4)) k x8 x9 x10 x11 x12 x13 x14 x15 x16 x17 := by
  intro k
  induction k with
  | zero => intro x8 x9 x10 x11 x12 x13 x14 x15 x16 x17; rfl
  | succ k ih =>
    intro x8 x9 x10 x11 x12 x13 x14 x15 x16 x17
    have h : lp law29_ErrandPlays_E fuel Try.f3 [.raw] 0 law29_ErrandPlays.k 13 [k6] (k + 1) (law29_ErrandPlays.s13 l x8 x9 x10 x11 x12 x13 x14 x15 x16 x17) = law29_ErrandPlays.b13 l (fun x2 x3 x4 => lp law29_ErrandPlays_E fuel Try.f3 [.raw] 0 law29_ErrandPlays.k 6 [] k6 (law29_ErrandPlays.s6 l x2 x3 x4)) (fun x8 x9 x10 x11 x12 x13 x14 x15 x16 x17 => lp law29_ErrandPlays_E fuel Try.f3 [.raw] 0 law29_ErrandPlays.k 13 [k6] k (law29_ErrandPlays.s13 l x8 x9 x10 x11 x12 x13 x14 x15 x16 x17)) (fun x20 x21 x22 x23 x24 x25 x26 x27 x28 x29 => lp law29_ErrandPlays_E fuel Try.f3 [.raw] 0 law29_ErrandPlays.k 14 [k6, k] fuel (law29_ErrandPlays.s14 l x20 x21 x22 x23 x24 x25 x26 x27 x28 x29)) (fun x30 x31 x32 => lp law29_ErrandPlays_E fuel Try.f3 [.raw] 0 law29_ErrandPlays.k 38 [k6] fuel (law29_ErrandPlays.s38 l x30 x31 x32)) x8 x9 x10 x11 x12 x13 x14 x15 x16 x17 := by kernel_rfl
    rw [h]
    have e13 : (fun x8 x9 x10 x11 x12 x13 x14 x15 x16 x17 => lp law29_ErrandPlays_E fuel Try.f3 [.raw] 0 law29_ErrandPlays.k 13 [k6] k (law29_ErrandPlays.s13 l x8 x9 x10 x11 x12 x13 x14 x15 x16 x17)) = law29_ErrandPlays.l13 fuel l (fun x2 x3 x4 => lp law29_ErrandPlays_E fuel Try.f3 [.raw] 0 law29_ErrandPlays.k 6 [] k6 (law29_ErrandPlays.s6 l x2 x3 x4)) k := (funext fun x8 => (funext fun x9 => (funext fun x10 => (funext fun x11 => (funext fun x12 => (funext fun x13 => (funext fun x14 => (funext fun x15 => (funext fun x16 => (funext fun x17 => ih x8 x9 x10 x11 x12 x13 x14 x15 x16 x17))))))))))
    rw [e13]
    have e14 : (fun x20 x21 x22 x23 x24 x25 x26 x27 x28 x29 => lp law29_ErrandPlays_E fuel Try.f3 [.raw] 0 law29_ErrandPlays.k 14 [k6, k] fuel (law29_ErrandPlays.s14 l x20 x21 x22 x23 x24 x25 x26 x27 x28 x29)) = law29_ErrandPlays.l14 fuel l (fun x2 x3 x4 => lp law29_ErrandPlays_E fuel Try.f3 [.raw] 0 law29_ErrandPlays.k 6 [] k6 (law29_ErrandPlays.s6 l x2 x3 x4)) (fun x8 x9 x10 x11 x12 x13 x14 x15 x16 x17 => lp law29_ErrandPlays_E fuel Try.f3 [.raw] 0 law29_ErrandPlays.k 13 [k6] k (law29_ErrandPlays.s13 l x8 x9 x10 x11 x12 x13 x14 x15 x16 x17)) fuel := (funext fun x20 => (funext fun x21 => (funext fun x22 => (funext fun x23 => (funext fun x24 => (funext fun x25 => (funext fun x26 => (funext fun x27 => (funext fun x28 => (funext fun x29 => law29_ErrandPlays.l14_eq fuel l k6 k fuel x20 x21 x22 x23 x24 x25 x26 x27 x28 x29))))))))))
    rw [e14]
    rw [e13]
    have e38 : (fun x30 x31 x32 => lp law29_ErrandPlays_E fuel Try.f3 [.raw] 0 law29_ErrandPlays.k 38 [k6] fuel (law29_ErrandPlays.s38 l x30 x31 x32)) = law29_ErrandPlays.l38 fuel l (fun x2 x3 x4 => lp law29_ErrandPlays_E fuel Try.f3 [.raw] 0 law29_ErrandPlays.k 6 [] k6 (law29_ErrandPlays.s6 l x2 x3 x4)) fuel := (funext fun x30 => (funext fun x31 => (funext fun x32 => law29_ErrandPlays.l38_eq fuel l k6 fuel x30 x31 x32)))
    rw [e38]
    rfl
theorem law29_ErrandPlays.l24_eq (fuel : Nat) (l : List (Int × Int × Int × Int × Int × Int)) (k6 k23 : Nat) : ∀ (k : Nat) (x60 : (List (Int × (Int × (Int × (Int × Int)))))) (x61 : Int) (x62 : Int) (x63 : Int) (x64 : (List (Int × (Int × (Int × (Int × Int)))))) (x65 : Int) (x66 : Int) (x67 : Int) (x68 : Int) (x69 : Int) (x70 : (List (Int × (Int × (Int × (Int × Int)))))), lp law29_ErrandPlays_E fuel Try.f3 [.raw] 0 law29_ErrandPlays.k 24 [k6, k23] k (law29_ErrandPlays.s24 l x60 x61 x62 x63 x64 x65 x66 x67 x68 x69 x70) = law29_ErrandPlays.l24 fuel l (fun x2 x3 x4 => lp law29_ErrandPlays_E fuel Try.f3 [.raw] 0 law29_ErrandPlays.k 6 [] k6 (law29_ErrandPlays.s6 l x2 x3 x4)) (fun x47 x48 x49 x50 x51 x52 x53 x54 x55 x56 x57 => lp law29_ErrandPlays_E fuel Try.f3 [.raw] 0 law29_ErrandPlays.k 23 [k6] k23 (law29_ErrandPlays.s23 l x47 x48 x49 x50 x51 x52 x53 x54 x55 x56 x57)) k x60 x61 x62 x63 x64 x65 x66 x67 x68 x69 x70 := by
  intro k
  induction k with
  | zero => intro x60 x61 x62 x63 x64 x65 x66 x67 x68 x69 x70; rfl
  | succ k ih =>
    intro x60 x61 x62 x63 x64 x65 x66 x67 x68 x69 x70
    have h : lp law29_ErrandPlays_E fuel Try.f3 [.raw] 0 law29_ErrandPlays.k 24 [k6, k23] (k + 1) (law29_ErrandPlays.s24 l x60 x61 x62 x63 x64 x65 x66 x67 x68 x69 x70) = law29_ErrandPlays.b24 l (fun x2 x3 x4 => lp law29_ErrandPlays_E fuel Try.f3 [.raw] 0 law29_ErrandPlays.k 6 [] k6 (law29_ErrandPlays.s6 l x2 x3 x4)) (fun x47 x48 x49 x50 x51 x52 x53 x54 x55 x56 x57 => lp law29_ErrandPlays_E fuel Try.f3 [.raw] 0 law29_ErrandPlays.k 23 [k6] k23 (law29_ErrandPlays.s23 l x47 x48 x49 x50 x51 x52 x53 x54 x55 x56 x57)) (fun x60 x61 x62 x63 x64 x65 x66 x67 x68 x69 x70 => lp law29_ErrandPlays_E fuel Try.f3 [.raw] 0 law29_ErrandPlays.k 24 [k6, k23] k (law29_ErrandPlays.s24 l x60 x61 x62 x63 x64 x65 x66 x67 x68 x69 x70)) x60 x61 x62 x63 x64 x65 x66 x67 x68 x69 x70 := by kernel_rfl
    rw [h]
    have e24 : (fun x60 x61 x62 x63 x64 x65 x66 x67 x68 x69 x70 => lp law29_ErrandPlays_E fuel Try.f3 [.raw] 0 law29_ErrandPlays.k 24 [k6, k23] k (law29_ErrandPlays.s24 l x60 x61 x62 x63 x64 x65 x66 x67 x68 x69 x70)) = law29_ErrandPlays.l24 fuel l (fun x2 x3 x4 => lp law29_ErrandPlays_E fuel Try.f3 [.raw] 0 law29_ErrandPlays.k 6 [] k6 (law29_ErrandPlays.s6 l x2 x3 x4)) (fun x47 x48 x49 x50 x51 x52 x53 x54 x55 x56 x57 => lp law29_ErrandPlays_E fuel Try.f3 [.raw] 0 law29_ErrandPlays.k 23 [k6] k23 (law29_ErrandPlays.s23 l x47 x48 x49 x50 x51 x52 x53 x54 x55 x56 x57)) k := (funext fun x60 => (funext fun x61 => (funext fun x62 => (funext fun x63 => (funext fun x64 => (funext fun x65 => (funext fun x66 => (funext fun x67 => (funext fun x68 => (funext fun x69 => (funext fun x70 => ih x60 x61 x62 x63 x64 x65 x66 x67 x68 x69 x70)))))))))))
    rw [e24]
    rfl
theorem law29_ErrandPlays.l23_eq (fuel : Nat) (l : List (Int × Int × Int × Int × Int × Int)) (k6 : Nat) : ∀ (k : Nat) (x47 : (List (Int × (Int × (Int × (Int × Int)))))) (x48 : Int) (x49 : Int) (x50 : Int) (x51 : (List (Int × (Int × (Int × (Int × Int)))))) (x52 : Int) (x53 : Int) (x54 : Int) (x55 : Int) (x56 : Int) (x57 : (List (Int × (Int × (Int × (Int × Int)))))), lp law29_ErrandPlays_E fuel Try.f3 [.raw] 0 law29_ErrandPlays.k 23 [k6] k (law29_ErrandPlays.s23 l x47 x48 x49 x50 x51 x52 x53 x54 x55 x56 x57) = law29_ErrandPlays.l23 fuel l (fun x2 x3 x4 => lp law29_ErrandPlays_E fuel Try.f3 [.raw] 0 law29_ErrandPlays.k 6 [] k6 (law29_ErrandPlays.s6 l x2 x3 x4)) k x47 x48 x49 x50 x51 x52 x53 x54 x55 x56 x57 := by
  intro k
  induction k with
  | zero => intro x47 x48 x49 x50 x51 x52 x53 x54 x55 x56 x57; rfl
  | succ k ih =>
    intro x47 x48 x49 x50 x51 x52 x53 x54 x55 x56 x57
    have h : lp law29_ErrandPlays_E fuel Try.f3 [.raw] 0 law29_ErrandPlays.k 23 [k6] (k + 1) (law29_ErrandPlays.s23 l x47 x48 x49 x50 x51 x52 x53 x54 x55 x56 x57) = law29_ErrandPlays.b23 l (fun x2 x3 x4 => lp law29_ErrandPlays_E fuel Try.f3 [.raw] 0 law29_ErrandPlays.k 6 [] k6 (law29_ErrandPlays.s6 l x2 x3 x4)) (fun x47 x48 x49 x50 x51 x52 x53 x54 x55 x56 x57 => lp law29_ErrandPlays_E fuel Try.f3 [.raw] 0 law29_ErrandPlays.k 23 [k6] k (law29_ErrandPlays.s23 l x47 x48 x49 x50 x51 x52 x53 x54 x55 x56 x57)) (fun x60 x61 x62 x63 x64 x65 x66 x67 x68 x69 x70 => lp law29_ErrandPlays_E fuel Try.f3 [.raw] 0 law29_ErrandPlays.k 24 [k6, k] fuel (law29_ErrandPlays.s24 l x60 x61 x62 x63 x64 x65 x66 x67 x68 x69 x70)) (fun x30 x31 x32 => lp law29_ErrandPlays_E fuel Try.f3 [.raw] 0 law29_ErrandPlays.k 38 [k6] fuel (law29_ErrandPlays.s38 l x30 x31 x32)) x47 x48 x49 x50 x51 x52 x53 x54 x55 x56 x57 := by kernel_rfl
    rw [h]
    have e23 : (fun x47 x48 x49 x50 x51 x52 x53 x54 x55 x56 x57 => lp law29_ErrandPlays_E fuel Try.f3 [.raw] 0 law29_ErrandPlays.k 23 [k6] k (law29_ErrandPlays.s23 l x47 x48 x49 x50 x51 x52 x53 x54 x55 x56 x57)) = law29_ErrandPlays.l23 fuel l (fun x2 x3 x4 => lp law29_ErrandPlays_E fuel Try.f3 [.raw] 0 law29_ErrandPlays.k 6 [] k6 (law29_ErrandPlays.s6 l x2 x3 x4)) k := (funext fun x47 => (funext fun x48 => (funext fun x49 => (funext fun x50 => (funext fun x51 => (funext fun x52 => (funext fun x53 => (funext fun x54 => (funext fun x55 => (funext fun x56 => (funext fun x57 => ih x47 x48 x49 x50 x51 x52 x53 x54 x55 x56 x57)))))))))))
    rw [e23]
    have e24 : (fun x60 x61 x62 x63 x64 x65 x66 x67 x68 x69 x70 => lp law29_ErrandPlays_E fuel Try.f3 [.raw] 0 law29_ErrandPlays.k 24 [k6, k] fuel (law29_ErrandPlays.s24 l x60 x61 x62 x63 x64 x65 x66 x67 x68 x69 x70)) = law29_ErrandPlays.l24 fuel l (fun x2 x3 x4 => lp law29_ErrandPlays_E fuel Try.f3 [.raw] 0 law29_ErrandPlays.k 6 [] k6 (law29_ErrandPlays.s6 l x2 x3 x4)) (fun x47 x48 x49 x50 x51 x52 x53 x54 x55 x56 x57 => lp law29_ErrandPlays_E fuel Try.f3 [.raw] 0 law29_ErrandPlays.k 23 [k6] k (law29_ErrandPlays.s23 l x47 x48 x49 x50 x51 x52 x53 x54 x55 x56 x57)) fuel := (funext fun x60 => (funext fun x61 => (funext fun x62 => (funext fun x63 => (funext fun x64 => (funext fun x65 => (funext fun x66 => (funext fun x67 => (funext fun x68 => (funext fun x69 => (funext fun x70 => law29_ErrandPlays.l24_eq fuel l k6 k fuel x60 x61 x62 x63 x64 x65 x66 x67 x68 x69 x70)))))))))))
    rw [e24]
    rw [e23]
    have e38 : (fun x30 x31 x32 => lp law29_ErrandPlays_E fuel Try.f3 [.raw] 0 law29_ErrandPlays.k 38 [k6] fuel (law29_ErrandPlays.s38 l x30 x31 x32)) = law29_ErrandPlays.l38 fuel l (fun x2 x3 x4 => lp law29_ErrandPlays_E fuel Try.f3 [.raw] 0 law29_ErrandPlays.k 6 [] k6 (law29_ErrandPlays.s6 l x2 x3 x4)) fuel := (funext fun x30 => (funext fun x31 => (funext fun x32 => law29_ErrandPlays.l38_eq fuel l k6 fuel x30 x31 x32)))
    rw [e38]
    rfl
theorem law29_ErrandPlays.l33_eq (fuel : Nat) (l : List (Int × Int × Int × Int × Int × Int)) (k6 k32 : Nat) : ∀ (k : Nat) (x91 : (List (Int × (Int × (Int × (Int × Int)))))) (x92 : Int) (x93 : Int) (x94 : (List (Int × (Int × (Int × (Int × Int)))))) (x95 : Int) (x96 : Int) (x97 : Int) (x98 : Int) (x99 : Int) (x100 : (List (Int × (Int × (Int × (Int × Int)))))), lp law29_ErrandPlays_E fuel Try.f3 [.raw] 0 law29_ErrandPlays.k 33 [k6, k32] k (law29_ErrandPlays.s33 l x91 x92 x93 x94 x95 x96 x97 x98 x99 x100) = law29_ErrandPlays.l33 fuel l (fun x2 x3 x4 => lp law29_ErrandPlays_E fuel Try.f3 [.raw] 0 law29_ErrandPlays.k 6 [] k6 (law29_ErrandPlays.s6 l x2 x3 x4)) (fun x79 x80 x81 x82 x83 x84 x85 x86 x87 x88 => lp law29_ErrandPlays_E fuel Try.f3 [.raw] 0 law29_ErrandPlays.k 32 [k6] k32 (law29_ErrandPlays.s32 l x79 x80 x81 x82 x83 x84 x85 x86 x87 x88)) k x91 x92 x93 x94 x95 x96 x97 x98 x99 x100 := by
  intro k
  induction k with
  | zero => intro x91 x92 x93 x94 x95 x96 x97 x98 x99 x100; rfl
  | succ k ih =>
    intro x91 x92 x93 x94 x95 x96 x97 x98 x99 x100
    have h : lp law29_ErrandPlays_E fuel Try.f3 [.raw] 0 law29_ErrandPlays.k 33 [k6, k32] (k + 1) (law29_ErrandPlays.s33 l x91 x92 x93 x94 x95 x96 x97 x98 x99 x100) = law29_ErrandPlays.b33 l (fun x2 x3 x4 => lp law29_ErrandPlays_E fuel Try.f3 [.raw] 0 law29_ErrandPlays.k 6 [] k6 (law29_ErrandPlays.s6 l x2 x3 x4)) (fun x79 x80 x81 x82 x83 x84 x85 x86 x87 x88 => lp law29_ErrandPlays_E fuel Try.f3 [.raw] 0 law29_ErrandPlays.k 32 [k6] k32 (law29_ErrandPlays.s32 l x79 x80 x81 x82 x83 x84 x85 x86 x87 x88)) (fun x91 x92 x93 x94 x95 x96 x97 x98 x99 x100 => lp law29_ErrandPlays_E fuel Try.f3 [.raw] 0 law29_ErrandPlays.k 33 [k6, k32] k (law29_ErrandPlays.s33 l x91 x92 x93 x94 x95 x96 x97 x98 x99 x100)) x91 x92 x93 x94 x95 x96 x97 x98 x99 x100 := by kernel_rfl
    rw [h]
    have e33 : (fun x91 x92 x93 x94 x95 x96 x97 x98 x99 x100 => lp law29_ErrandPlays_E fuel Try.f3 [.raw] 0 law29_ErrandPlays.k 33 [k6, k32] k (law29_ErrandPlays.s33 l x91 x92 x93 x94 x95 x96 x97 x98 x99 x100)) = law29_ErrandPlays.l33 fuel l (fun x2 x3 x4 => lp law29_ErrandPlays_E fuel Try.f3 [.raw] 0 law29_ErrandPlays.k 6 [] k6 (law29_ErrandPlays.s6 l x2 x3 x4)) (fun x79 x80 x81 x82 x83 x84 x85 x86 x87 x88 => lp law29_ErrandPlays_E fuel Try.f3 [.raw] 0 law29_ErrandPlays.k 32 [k6] k32 (law29_ErrandPlays.s32 l x79 x80 x81 x82 x83 x84 x85 x86 x87 x88)) k := (funext fun x91 => (funext fun x92 => (funext fun x93 => (funext fun x94 => (funext fun x95 => (funext fun x96 => (funext fun x97 => (funext fun x98 => (funext fun x99 => (funext fun x100 => ih x91 x92 x93 x94 x95 x96 x97 x98 x99 x100))))))))))
    rw [e33]
    rfl
theorem law29_ErrandPlays.l32_eq (fuel : Nat) (l : List (Int × Int × Int × Int × Int × Int)) (k6 : Nat) : ∀ (k : Nat) (x79 : (List (Int × (Int × (Int × (Int × Int)))))) (x80 : Int) (x81 : Int) (x82 : (List (Int × (Int × (Int × (Int × Int)))))) (x83 : Int) (x84 : Int) (x85 : Int) (x86 : Int) (x87 : Int) (x88 : (List (Int × (Int × (Int × (Int × Int)))))), lp law29_ErrandPlays_E fuel Try.f3 [.raw] 0 law29_ErrandPlays.k 32 [k6] k (law29_ErrandPlays.s32 l x79 x80 x81 x82 x83 x84 x85 x86 x87 x88) = law29_ErrandPlays.l32 fuel l (fun x2 x3 x4 => lp law29_ErrandPlays_E fuel Try.f3 [.raw] 0 law29_ErrandPlays.k 6 [] k6 (law29_ErrandPlays.s6 l x2 x3 x4)) k x79 x80 x81 x82 x83 x84 x85 x86 x87 x88 := by
  intro k
  induction k with
  | zero => intro x79 x80 x81 x82 x83 x84 x85 x86 x87 x88; rfl
  | succ k ih =>
    intro x79 x80 x81 x82 x83 x84 x85 x86 x87 x88
    have h : lp law29_ErrandPlays_E fuel Try.f3 [.raw] 0 law29_ErrandPlays.k 32 [k6] (k + 1) (law29_ErrandPlays.s32 l x79 x80 x81 x82 x83 x84 x85 x86 x87 x88) = law29_ErrandPlays.b32 l (fun x2 x3 x4 => lp law29_ErrandPlays_E fuel Try.f3 [.raw] 0 law29_ErrandPlays.k 6 [] k6 (law29_ErrandPlays.s6 l x2 x3 x4)) (fun x79 x80 x81 x82 x83 x84 x85 x86 x87 x88 => lp law29_ErrandPlays_E fuel Try.f3 [.raw] 0 law29_ErrandPlays.k 32 [k6] k (law29_ErrandPlays.s32 l x79 x80 x81 x82 x83 x84 x85 x86 x87 x88)) (fun x91 x92 x93 x94 x95 x96 x97 x98 x99 x100 => lp law29_ErrandPlays_E fuel Try.f3 [.raw] 0 law29_ErrandPlays.k 33 [k6, k] fuel (law29_ErrandPlays.s33 l x91 x92 x93 x94 x95 x96 x97 x98 x99 x100)) (fun x30 x31 x32 => lp law29_ErrandPlays_E fuel Try.f3 [.raw] 0 law29_ErrandPlays.k 38 [k6] fuel (law29_ErrandPlays.s38 l x30 x31 x32)) x79 x80 x81 x82 x83 x84 x85 x86 x87 x88 := by kernel_rfl
    rw [h]
    have e32 : (fun x79 x80 x81 x82 x83 x84 x85 x86 x87 x88 => lp law29_ErrandPlays_E fuel Try.f3 [.raw] 0 law29_ErrandPlays.k 32 [k6] k (law29_ErrandPlays.s32 l x79 x80 x81 x82 x83 x84 x85 x86 x87 x88)) = law29_ErrandPlays.l32 fuel l (fun x2 x3 x4 => lp law29_ErrandPlays_E fuel Try.f3 [.raw] 0 law29_ErrandPlays.k 6 [] k6 (law29_ErrandPlays.s6 l x2 x3 x4)) k := (funext fun x79 => (funext fun x80 => (funext fun x81 => (funext fun x82 => (funext fun x83 => (funext fun x84 => (funext fun x85 => (funext fun x86 => (funext fun x87 => (funext fun x88 => ih x79 x80 x81 x82 x83 x84 x85 x86 x87 x88))))))))))
    rw [e32]
    have e33 : (fun x91 x92 x93 x94 x95 x96 x97 x98 x99 x100 => lp law29_ErrandPlays_E fuel Try.f3 [.raw] 0 law29_ErrandPlays.k 33 [k6, k] fuel (law29_ErrandPlays.s33 l x91 x92 x93 x94 x95 x96 x97 x98 x99 x100)) = law29_ErrandPlays.l33 fuel l (fun x2 x3 x4 => lp law29_ErrandPlays_E fuel Try.f3 [.raw] 0 law29_ErrandPlays.k 6 [] k6 (law29_ErrandPlays.s6 l x2 x3 x4)) (fun x79 x80 x81 x82 x83 x84 x85 x86 x87 x88 => lp law29_ErrandPlays_E fuel Try.f3 [.raw] 0 law29_ErrandPlays.k 32 [k6] k (law29_ErrandPlays.s32 l x79 x80 x81 x82 x83 x84 x85 x86 x87 x88)) fuel := (funext fun x91 => (funext fun x92 => (funext fun x93 => (funext fun x94 => (funext fun x95 => (funext fun x96 => (funext fun x97 => (funext fun x98 => (funext fun x99 => (funext fun x100 => law29_ErrandPlays.l33_eq fuel l k6 k fuel x91 x92 x93 x94 x95 x96 x97 x98 x99 x100))))))))))
    rw [e33]
    rw [e32]
    have e38 : (fun x30 x31 x32 => lp law29_ErrandPlays_E fuel Try.f3 [.raw] 0 law29_ErrandPlays.k 38 [k6] fuel (law29_ErrandPlays.s38 l x30 x31 x32)) = law29_ErrandPlays.l38 fuel l (fun x2 x3 x4 => lp law29_ErrandPlays_E fuel Try.f3 [.raw] 0 law29_ErrandPlays.k 6 [] k6 (law29_ErrandPlays.s6 l x2 x3 x4)) fuel := (funext fun x30 => (funext fun x31 => (funext fun x32 => law29_ErrandPlays.l38_eq fuel l k6 fuel x30 x31 x32)))
    rw [e38]
    rfl
theorem law29_ErrandPlays.l6_eq (fuel : Nat) (l : List (Int × Int × Int × Int × Int × Int)) : ∀ (k : Nat) (x2 : (List (Int × (Int × (Int × (Int × Int)))))) (x3 : Int) (x4 : (List (Int × (Int × (Int × (Int × Int)))))), lp law29_ErrandPlays_E fuel Try.f3 [.raw] 0 law29_ErrandPlays.k 6 [] k (law29_ErrandPlays.s6 l x2 x3 x4) = law29_ErrandPlays.l6 fuel l k x2 x3 x4 := by
  intro k
  induction k with
  | zero => intro x2 x3 x4; rfl
  | succ k ih =>
    intro x2 x3 x4
    have h : lp law29_ErrandPlays_E fuel Try.f3 [.raw] 0 law29_ErrandPlays.k 6 [] (k + 1) (law29_ErrandPlays.s6 l x2 x3 x4) = law29_ErrandPlays.b6 l (fun x2 x3 x4 => lp law29_ErrandPlays_E fuel Try.f3 [.raw] 0 law29_ErrandPlays.k 6 [] k (law29_ErrandPlays.s6 l x2 x3 x4)) (fun x8 x9 x10 x11 x12 x13 x14 x15 x16 x17 => lp law29_ErrandPlays_E fuel Try.f3 [.raw] 0 law29_ErrandPlays.k 13 [k] fuel (law29_ErrandPlays.s13 l x8 x9 x10 x11 x12 x13 x14 x15 x16 x17)) (fun x47 x48 x49 x50 x51 x52 x53 x54 x55 x56 x57 => lp law29_ErrandPlays_E fuel Try.f3 [.raw] 0 law29_ErrandPlays.k 23 [k] fuel (law29_ErrandPlays.s23 l x47 x48 x49 x50 x51 x52 x53 x54 x55 x56 x57)) (fun x79 x80 x81 x82 x83 x84 x85 x86 x87 x88 => lp law29_ErrandPlays_E fuel Try.f3 [.raw] 0 law29_ErrandPlays.k 32 [k] fuel (law29_ErrandPlays.s32 l x79 x80 x81 x82 x83 x84 x85 x86 x87 x88)) x2 x3 x4 := by kernel_rfl
    rw [h]
    have e6 : (fun x2 x3 x4 => lp law29_ErrandPlays_E fuel Try.f3 [.raw] 0 law29_ErrandPlays.k 6 [] k (law29_ErrandPlays.s6 l x2 x3 x4)) = law29_ErrandPlays.l6 fuel l k := (funext fun x2 => (funext fun x3 => (funext fun x4 => ih x2 x3 x4)))
    rw [e6]
    have e13 : (fun x8 x9 x10 x11 x12 x13 x14 x15 x16 x17 => lp law29_ErrandPlays_E fuel Try.f3 [.raw] 0 law29_ErrandPlays.k 13 [k] fuel (law29_ErrandPlays.s13 l x8 x9 x10 x11 x12 x13 x14 x15 x16 x17)) = law29_ErrandPlays.l13 fuel l (fun x2 x3 x4 => lp law29_ErrandPlays_E fuel Try.f3 [.raw] 0 law29_ErrandPlays.k 6 [] k (law29_ErrandPlays.s6 l x2 x3 x4)) fuel := (funext fun x8 => (funext fun x9 => (funext fun x10 => (funext fun x11 => (funext fun x12 => (funext fun x13 => (funext fun x14 => (funext fun x15 => (funext fun x16 => (funext fun x17 => law29_ErrandPlays.l13_eq fuel l k fuel x8 x9 x10 x11 x12 x13 x14 x15 x16 x17))))))))))
    rw [e13]
    rw [e6]
    have e23 : (fun x47 x48 x49 x50 x51 x52 x53 x54 x55 x56 x57 => lp law29_ErrandPlays_E fuel Try.f3 [.raw] 0 law29_ErrandPlays.k 23 [k] fuel (law29_ErrandPlays.s23 l x47 x48 x49 x50 x51 x52 x53 x54 x55 x56 x57)) = law29_ErrandPlays.l23 fuel l (fun x2 x3 x4 => lp law29_ErrandPlays_E fuel Try.f3 [.raw] 0 law29_ErrandPlays.k 6 [] k (law29_ErrandPlays.s6 l x2 x3 x4)) fuel := (funext fun x47 => (funext fun x48 => (funext fun x49 => (funext fun x50 => (funext fun x51 => (funext fun x52 => (funext fun x53 => (funext fun x54 => (funext fun x55 => (funext fun x56 => (funext fun x57 => law29_ErrandPlays.l23_eq fuel l k fuel x47 x48 x49 x50 x51 x52 x53 x54 x55 x56 x57)))))))))))
    rw [e23]
    rw [e6]
    have e32 : (fun x79 x80 x81 x82 x83 x84 x85 x86 x87 x88 => lp law29_ErrandPlays_E fuel Try.f3 [.raw] 0 law29_ErrandPlays.k 32 [k] fuel (law29_ErrandPlays.s32 l x79 x80 x81 x82 x83 x84 x85 x86 x87 x88)) = law29_ErrandPlays.l32 fuel l (fun x2 x3 x4 => lp law29_ErrandPlays_E fuel Try.f3 [.raw] 0 law29_ErrandPlays.k 6 [] k (law29_ErrandPlays.s6 l x2 x3 x4)) fuel := (funext fun x79 => (funext fun x80 => (funext fun x81 => (funext fun x82 => (funext fun x83 => (funext fun x84 => (funext fun x85 => (funext fun x86 => (funext fun x87 => (funext fun x88 => law29_ErrandPlays.l32_eq fuel l k fuel x79 x80 x81 x82 x83 x84 x85 x86 x87 x88))))))))))
    rw [e32]
    rw [e6]
    rfl
theorem law29_ErrandPlays.eq (fuel : Nat) (l : List (Int × Int × Int × Int × Int × Int)) : (denF law29_ErrandPlays_E loopN fuel Try.f3 [.raw] [.d (.sl (.pair (.int .i64) (.pair (.int .i64) (.pair (.int .i64) (.pair (.int .i64) (.pair (.int .i64) (.int .i64))))))) l] [] law29_ErrandPlays.k) = law29_ErrandPlays.f fuel l := by
  have h : (denF law29_ErrandPlays_E loopN fuel Try.f3 [.raw] [.d (.sl (.pair (.int .i64) (.pair (.int .i64) (.pair (.int .i64) (.pair (.int .i64) (.pair (.int .i64) (.int .i64))))))) l] [] law29_ErrandPlays.k) = law29_ErrandPlays.b l (fun x2 x3 x4 => lp law29_ErrandPlays_E fuel Try.f3 [.raw] 0 law29_ErrandPlays.k 6 [] fuel (law29_ErrandPlays.s6 l x2 x3 x4)) := by kernel_rfl
  rw [h]
  have e6 : (fun x2 x3 x4 => lp law29_ErrandPlays_E fuel Try.f3 [.raw] 0 law29_ErrandPlays.k 6 [] fuel (law29_ErrandPlays.s6 l x2 x3 x4)) = law29_ErrandPlays.l6 fuel l fuel := (funext fun x2 => (funext fun x3 => (funext fun x4 => law29_ErrandPlays.l6_eq fuel l fuel x2 x3 x4)))
  rw [e6]
  rfl
theorem law29_ErrandPlays.l14_at (fuel nN kK : Nat) (hN : nN = kK + 1) (l : List (Int × Int × Int × Int × Int × Int)) (A6 : (List (Int × (Int × (Int × (Int × Int))))) → Int → (List (Int × (Int × (Int × (Int × Int))))) → Option Bool) (A13 : (List (Int × (Int × (Int × (Int × Int))))) → Int → Int → (List (Int × (Int × (Int × (Int × Int))))) → Int → Int → Int → Int → Int → (List (Int × (Int × (Int × (Int × Int))))) → Option Bool) (x20 : (List (Int × (Int × (Int × (Int × Int)))))) (x21 : Int) (x22 : Int) (x23 : (List (Int × (Int × (Int × (Int × Int)))))) (x24 : Int) (x25 : Int) (x26 : Int) (x27 : Int) (x28 : Int) (x29 : (List (Int × (Int × (Int × (Int × Int)))))) : law29_ErrandPlays.l14 fuel l A6 A13 nN x20 x21 x22 x23 x24 x25 x26 x27 x28 x29 = law29_ErrandPlays.b14 l A6 A13 (law29_ErrandPlays.l14 fuel l A6 A13 kK) x20 x21 x22 x23 x24 x25 x26 x27 x28 x29 := by
  subst hN
  rfl
theorem law29_ErrandPlays.l7_at (fuel nN kK : Nat) (hN : nN = kK + 1) (l : List (Int × Int × Int × Int × Int × Int)) (A6 : (List (Int × (Int × (Int × (Int × Int))))) → Int → (List (Int × (Int × (Int × (Int × Int))))) → Option Bool) (x43 : (List (Int × (Int × (Int × (Int × Int)))))) (x44 : Int) (x45 : (List (Int × (Int × (Int × (Int × Int)))))) : law29_ErrandPlays.l7 fuel l A6 nN x43 x44 x45 = law29_ErrandPlays.b7 l A6 (law29_ErrandPlays.l7 fuel l A6 kK) x43 x44 x45 := by
  subst hN
  rfl
theorem law29_ErrandPlays.l43_at (fuel nN kK : Nat) (hN : nN = kK + 1) (l : List (Int × Int × Int × Int × Int × Int)) (A6 : (List (Int × (Int × (Int × (Int × Int))))) → Int → (List (Int × (Int × (Int × (Int × Int))))) → Option Bool) (x34 : (List (Int × (Int × (Int × (Int × Int)))))) (x35 : Int) (x36 : Int) (x37 : (List (Int × (Int × (Int × (Int × Int)))))) (x38 : (List (Int × (Int × (Int × (Int × Int)))))) : law29_ErrandPlays.l43 fuel l A6 nN x34 x35 x36 x37 x38 = law29_ErrandPlays.b43 l A6 (law29_ErrandPlays.l43 fuel l A6 kK) (law29_ErrandPlays.l7 fuel l A6 fuel) x34 x35 x36 x37 x38 := by
  subst hN
  rfl
theorem law29_ErrandPlays.l38_at (fuel nN kK : Nat) (hN : nN = kK + 1) (l : List (Int × Int × Int × Int × Int × Int)) (A6 : (List (Int × (Int × (Int × (Int × Int))))) → Int → (List (Int × (Int × (Int × (Int × Int))))) → Option Bool) (x30 : Int) (x31 : (List (Int × (Int × (Int × (Int × Int)))))) (x32 : (List (Int × (Int × (Int × (Int × Int)))))) : law29_ErrandPlays.l38 fuel l A6 nN x30 x31 x32 = law29_ErrandPlays.b38 l A6 (law29_ErrandPlays.l38 fuel l A6 kK) (law29_ErrandPlays.l43 fuel l A6 fuel) x30 x31 x32 := by
  subst hN
  rfl
theorem law29_ErrandPlays.l13_at (fuel nN kK : Nat) (hN : nN = kK + 1) (l : List (Int × Int × Int × Int × Int × Int)) (A6 : (List (Int × (Int × (Int × (Int × Int))))) → Int → (List (Int × (Int × (Int × (Int × Int))))) → Option Bool) (x8 : (List (Int × (Int × (Int × (Int × Int)))))) (x9 : Int) (x10 : Int) (x11 : (List (Int × (Int × (Int × (Int × Int)))))) (x12 : Int) (x13 : Int) (x14 : Int) (x15 : Int) (x16 : Int) (x17 : (List (Int × (Int × (Int × (Int × Int)))))) : law29_ErrandPlays.l13 fuel l A6 nN x8 x9 x10 x11 x12 x13 x14 x15 x16 x17 = law29_ErrandPlays.b13 l A6 (law29_ErrandPlays.l13 fuel l A6 kK) (law29_ErrandPlays.l14 fuel l A6 (law29_ErrandPlays.l13 fuel l A6 kK) fuel) (law29_ErrandPlays.l38 fuel l A6 fuel) x8 x9 x10 x11 x12 x13 x14 x15 x16 x17 := by
  subst hN
  rfl
theorem law29_ErrandPlays.l24_at (fuel nN kK : Nat) (hN : nN = kK + 1) (l : List (Int × Int × Int × Int × Int × Int)) (A6 : (List (Int × (Int × (Int × (Int × Int))))) → Int → (List (Int × (Int × (Int × (Int × Int))))) → Option Bool) (A23 : (List (Int × (Int × (Int × (Int × Int))))) → Int → Int → Int → (List (Int × (Int × (Int × (Int × Int))))) → Int → Int → Int → Int → Int → (List (Int × (Int × (Int × (Int × Int))))) → Option Bool) (x60 : (List (Int × (Int × (Int × (Int × Int)))))) (x61 : Int) (x62 : Int) (x63 : Int) (x64 : (List (Int × (Int × (Int × (Int × Int)))))) (x65 : Int) (x66 : Int) (x67 : Int) (x68 : Int) (x69 : Int) (x70 : (List (Int × (Int × (Int × (Int × Int)))))) : law29_ErrandPlays.l24 fuel l A6 A23 nN x60 x61 x62 x63 x64 x65 x66 x67 x68 x69 x70 = law29_ErrandPlays.b24 l A6 A23 (law29_ErrandPlays.l24 fuel l A6 A23 kK) x60 x61 x62 x63 x64 x65 x66 x67 x68 x69 x70 := by
  subst hN
  rfl
theorem law29_ErrandPlays.l23_at (fuel nN kK : Nat) (hN : nN = kK + 1) (l : List (Int × Int × Int × Int × Int × Int)) (A6 : (List (Int × (Int × (Int × (Int × Int))))) → Int → (List (Int × (Int × (Int × (Int × Int))))) → Option Bool) (x47 : (List (Int × (Int × (Int × (Int × Int)))))) (x48 : Int) (x49 : Int) (x50 : Int) (x51 : (List (Int × (Int × (Int × (Int × Int)))))) (x52 : Int) (x53 : Int) (x54 : Int) (x55 : Int) (x56 : Int) (x57 : (List (Int × (Int × (Int × (Int × Int)))))) : law29_ErrandPlays.l23 fuel l A6 nN x47 x48 x49 x50 x51 x52 x53 x54 x55 x56 x57 = law29_ErrandPlays.b23 l A6 (law29_ErrandPlays.l23 fuel l A6 kK) (law29_ErrandPlays.l24 fuel l A6 (law29_ErrandPlays.l23 fuel l A6 kK) fuel) (law29_ErrandPlays.l38 fuel l A6 fuel) x47 x48 x49 x50 x51 x52 x53 x54 x55 x56 x57 := by
  subst hN
  rfl
theorem law29_ErrandPlays.l33_at (fuel nN kK : Nat) (hN : nN = kK + 1) (l : List (Int × Int × Int × Int × Int × Int)) (A6 : (List (Int × (Int × (Int × (Int × Int))))) → Int → (List (Int × (Int × (Int × (Int × Int))))) → Option Bool) (A32 : (List (Int × (Int × (Int × (Int × Int))))) → Int → Int → (List (Int × (Int × (Int × (Int × Int))))) → Int → Int → Int → Int → Int → (List (Int × (Int × (Int × (Int × Int))))) → Option Bool) (x91 : (List (Int × (Int × (Int × (Int × Int)))))) (x92 : Int) (x93 : Int) (x94 : (List (Int × (Int × (Int × (Int × Int)))))) (x95 : Int) (x96 : Int) (x97 : Int) (x98 : Int) (x99 : Int) (x100 : (List (Int × (Int × (Int × (Int × Int)))))) : law29_ErrandPlays.l33 fuel l A6 A32 nN x91 x92 x93 x94 x95 x96 x97 x98 x99 x100 = law29_ErrandPlays.b33 l A6 A32 (law29_ErrandPlays.l33 fuel l A6 A32 kK) x91 x92 x93 x94 x95 x96 x97 x98 x99 x100 := by
  subst hN
  rfl
theorem law29_ErrandPlays.l32_at (fuel nN kK : Nat) (hN : nN = kK + 1) (l : List (Int × Int × Int × Int × Int × Int)) (A6 : (List (Int × (Int × (Int × (Int × Int))))) → Int → (List (Int × (Int × (Int × (Int × Int))))) → Option Bool) (x79 : (List (Int × (Int × (Int × (Int × Int)))))) (x80 : Int) (x81 : Int) (x82 : (List (Int × (Int × (Int × (Int × Int)))))) (x83 : Int) (x84 : Int) (x85 : Int) (x86 : Int) (x87 : Int) (x88 : (List (Int × (Int × (Int × (Int × Int)))))) : law29_ErrandPlays.l32 fuel l A6 nN x79 x80 x81 x82 x83 x84 x85 x86 x87 x88 = law29_ErrandPlays.b32 l A6 (law29_ErrandPlays.l32 fuel l A6 kK) (law29_ErrandPlays.l33 fuel l A6 (law29_ErrandPlays.l32 fuel l A6 kK) fuel) (law29_ErrandPlays.l38 fuel l A6 fuel) x79 x80 x81 x82 x83 x84 x85 x86 x87 x88 := by
  subst hN
  rfl
theorem law29_ErrandPlays.l6_at (fuel nN kK : Nat) (hN : nN = kK + 1) (l : List (Int × Int × Int × Int × Int × Int)) (x2 : (List (Int × (Int × (Int × (Int × Int)))))) (x3 : Int) (x4 : (List (Int × (Int × (Int × (Int × Int)))))) : law29_ErrandPlays.l6 fuel l nN x2 x3 x4 = law29_ErrandPlays.b6 l (law29_ErrandPlays.l6 fuel l kK) (law29_ErrandPlays.l13 fuel l (law29_ErrandPlays.l6 fuel l kK) fuel) (law29_ErrandPlays.l23 fuel l (law29_ErrandPlays.l6 fuel l kK) fuel) (law29_ErrandPlays.l32 fuel l (law29_ErrandPlays.l6 fuel l kK) fuel) x2 x3 x4 := by
  subst hN
  rfl
abbrev AT := Int × ET
theorem lenw (n : Nat) (h : n ≤ 1000000) : Go.IntKind.wrap .i64 ((n : Int) + 1) = ((n + 1 : Nat) : Int) := by rw [wrap_small _ (by omega) (by omega)]; simp
theorem EP_p43 (l : List AT) (G : List ET → Int → List ET → Option Bool) (s : List ET) (i : Int) (hs : s.length ≤ 1000) : ∀ (suf pre : List ET) (n : Nat), pre ++ suf = s → suf.length < n →
    law29_ErrandPlays.l43 BIG l G n s i ((pre.length : Nat) : Int) s s = G s (Go.IntKind.wrap .i64 (i + 1)) s
  | suf, pre, 0, h, hn => absurd hn (by omega)
  | [], pre, n + 1, h, hn => by
    rw [law29_ErrandPlays.l43_at BIG (n + 1) n rfl]
    unfold law29_ErrandPlays.b43
    rw [if_neg (by rw [← h]; simp)]
    rw [law29_ErrandPlays.l7_at BIG BIG _ big_eq]
    rfl
  | v :: suf, pre, n + 1, h, hn => by
    have h' : suf.length < n := by simp at hn; omega
    have hl : pre.length + (suf.length + 1) ≤ 1000 := by rw [← h] at hs; simp at hs; omega
    rw [law29_ErrandPlays.l43_at BIG (n + 1) n rfl]
    unfold law29_ErrandPlays.b43
    have hi : idx s ((pre.length : Nat) : Int) = some v := by rw [← h]; exact idx_mid pre v suf
    rw [if_pos (by rw [← h]; simp; omega), hi]
    dsimp only
    rw [law29_like.pure]
    simp only [veil_eq]
    have e := EP_p43 l G s i hs suf (pre ++ [v]) n (by rw [← h]; simp) h'
    rw [lenw _ (by omega)]
    rw [if_neg (by simp)]
    have e2 : (pre ++ [v]).length = pre.length + 1 := by simp
    rw [e2] at e
    exact e
theorem EP_p38 (l : List AT) (G : List ET → Int → List ET → Option Bool) (s : List ET) (i : Int) (hs : s.length ≤ 1000) : law29_ErrandPlays.l38 BIG l G BIG i s s = G s (Go.IntKind.wrap .i64 (i + 1)) s := by
  rw [law29_ErrandPlays.l38_at BIG BIG _ big_eq]
  unfold law29_ErrandPlays.b38
  rw [errand_List_All.pure s hs]
  simp only [veil_eq]
  rw [if_neg (by simp)]
  exact EP_p43 l G s i hs s [] BIG rfl (by rw [BIG_eq]; omega)
theorem EP_p13 (l : List AT) (G : List ET → Int → List ET → Option Bool) (X : List ET) (i : Int) (e : ET) (s : List ET) (hs : s.length ≤ 100) : ∀ (suf pre acc : List ET) (n : Nat), pre ++ suf = s → acc.length ≤ pre.length → suf.length < n →
    law29_ErrandPlays.l13 BIG l G n s i ((pre.length : Nat) : Int) X e.1 e.2.1 e.2.2.1 e.2.2.2.1 e.2.2.2.2 acc =
      law29_ErrandPlays.l38 BIG l G BIG i (let r := acc ++ suf.filter (fun v => !(pPut e.1 v)) ++ [e]; if 16 < r.length then r.drop 1 else r) X
  | suf, pre, acc, 0, h, ha, hn => absurd hn (by omega)
  | [], pre, acc, n + 1, h, ha, hn => by
    have hl : pre.length ≤ 100 := by rw [← h] at hs; simp at hs; omega
    rw [law29_ErrandPlays.l13_at BIG (n + 1) n rfl]
    unfold law29_ErrandPlays.b13
    rw [if_neg (by rw [← h]; simp), if_pos (by unfold lim; simp; omega)]
    dsimp only
    rw [List.filter_nil, List.append_nil]
    by_cases hc : 16 < (acc ++ [e]).length
    · rw [if_pos (by simp at hc ⊢; omega), if_pos (by simp <;> omega), if_pos hc]
      show law29_ErrandPlays.l38 BIG l G BIG i (List.drop (Int.toNat 1) (List.take (acc ++ [e]).length (acc ++ [e]))) X = _
      rw [List.take_length]
      rfl
    · rw [if_neg (by simp at hc ⊢; omega), if_neg hc]
  | v :: suf, pre, acc, n + 1, h, ha, hn => by
    have h' : suf.length < n := by simp at hn; omega
    have hl : pre.length + (suf.length + 1) ≤ 100 := by rw [← h] at hs; simp at hs; omega
    have hi : idx s ((pre.length : Nat) : Int) = some v := by rw [← h]; exact idx_mid pre v suf
    have e2 : (pre ++ [v]).length = pre.length + 1 := by simp
    rw [law29_ErrandPlays.l13_at BIG (n + 1) n rfl]
    unfold law29_ErrandPlays.b13
    rw [if_pos (by rw [← h]; simp; omega), hi]
    dsimp only
    by_cases hc : v.1 = e.1
    · rw [if_neg (by simp [hc])]
      rw [law29_ErrandPlays.l14_at BIG BIG _ big_eq]
      unfold law29_ErrandPlays.b14
      rw [lenw _ (by omega)]
      have ih := EP_p13 l G X i e s hs suf (pre ++ [v]) acc n (by rw [← h]; simp) (by simp; omega) h'
      rw [e2] at ih
      rw [ih]
      have hp : pPut e.1 v = true := by unfold pPut; simp [hc]
      simp [hp]
    · rw [if_pos (by simp [hc]), if_pos (by unfold lim; simp; omega)]
      rw [law29_ErrandPlays.l14_at BIG BIG _ big_eq]
      unfold law29_ErrandPlays.b14
      rw [lenw _ (by omega)]
      have ih := EP_p13 l G X i e s hs suf (pre ++ [v]) (acc ++ [v]) n (by rw [← h]; simp) (by simp; omega) h'
      rw [e2] at ih
      refine Eq.trans ih ?_
      have hp : pPut e.1 v = false := by unfold pPut; simp [hc]
      simp [hp]
theorem EP_p32 (l : List AT) (G : List ET → Int → List ET → Option Bool) (i : Int) (e : ET) (s : List ET) (hs : s.length ≤ 100) : ∀ (suf pre acc : List ET) (n : Nat), pre ++ suf = s → acc = pre.filter (fun v => !(pExp e.2.2.2.2 v)) → suf.length < n →
    law29_ErrandPlays.l32 BIG l G n s i ((pre.length : Nat) : Int) s e.1 e.2.1 e.2.2.1 e.2.2.2.1 e.2.2.2.2 acc =
      law29_ErrandPlays.l38 BIG l G BIG i (s.filter (fun v => !(pExp e.2.2.2.2 v))) (s.filter (fun v => !(pExp e.2.2.2.2 v)))
  | suf, pre, acc, 0, h, ha, hn => absurd hn (by omega)
  | [], pre, acc, n + 1, h, ha, hn => by
    rw [List.append_nil] at h
    subst h
    rw [law29_ErrandPlays.l32_at BIG (n + 1) n rfl]
    unfold law29_ErrandPlays.b32
    rw [if_neg (by simp), errand_List_Expire.pure pre _ (by omega)]
    simp only [veil_eq]
    rw [← ha]
    have : acc.length ≤ pre.length := by rw [ha]; exact List.length_filter_le _ _
    rw [wrap_small _ (by omega) (by omega), if_neg (by simp)]
  | v :: suf, pre, acc, n + 1, h, ha, hn => by
    have h' : suf.length < n := by simp at hn; omega
    have hl : pre.length + (suf.length + 1) ≤ 100 := by rw [← h] at hs; simp at hs; omega
    have hi : idx s ((pre.length : Nat) : Int) = some v := by rw [← h]; exact idx_mid pre v suf
    have e2 : (pre ++ [v]).length = pre.length + 1 := by simp
    have hla : acc.length ≤ pre.length := by rw [ha]; exact List.length_filter_le _ _
    rw [law29_ErrandPlays.l32_at BIG (n + 1) n rfl]
    unfold law29_ErrandPlays.b32
    rw [if_pos (by rw [← h]; simp; omega), hi]
    dsimp only
    by_cases hc : v.2.2.2.2 ≥ e.2.2.2.2
    · rw [if_pos (by simp; omega), if_pos (by unfold lim; simp; omega)]
      rw [law29_ErrandPlays.l33_at BIG BIG _ big_eq]
      unfold law29_ErrandPlays.b33
      rw [lenw _ (by omega)]
      have hp : pExp e.2.2.2.2 v = false := by unfold pExp; simp; omega
      have ih := EP_p32 l G i e s hs suf (pre ++ [v]) (acc ++ [v]) n (by rw [← h]; simp) (by rw [ha]; simp [hp]) h'
      rw [e2] at ih
      exact ih
    · rw [if_neg (by simp; omega)]
      rw [law29_ErrandPlays.l33_at BIG BIG _ big_eq]
      unfold law29_ErrandPlays.b33
      rw [lenw _ (by omega)]
      have hp : pExp e.2.2.2.2 v = true := by unfold pExp; simp; omega
      have ih := EP_p32 l G i e s hs suf (pre ++ [v]) acc n (by rw [← h]; simp) (by rw [ha]; simp [hp]) h'
      rw [e2] at ih
      exact ih
/-- what an answer takes -/
def EP_takeF (p : ET → Bool) : List ET → List ET
  | [] => []
  | x :: l => if p x = true then l else x :: EP_takeF p l
theorem EP_takeF_mid (p : ET → Bool) (v : ET) (b : List ET) (hv : p v = true) : ∀ a : List ET, (∀ x ∈ a, p x = false) → EP_takeF p (a ++ v :: b) = a ++ b
  | [], _ => by rw [List.nil_append, EP_takeF, if_pos hv, List.nil_append]
  | x :: a, h => by
    rw [List.cons_append, EP_takeF, h x (by simp), if_neg (by simp), EP_takeF_mid p v b hv a (fun y hy => h y (by simp [hy]))]
    rfl
theorem EP_takeF_none (p : ET → Bool) : ∀ a : List ET, (∀ x ∈ a, p x = false) → EP_takeF p a = a
  | [], _ => rfl
  | x :: a, h => by rw [EP_takeF, h x (by simp), if_neg (by simp), EP_takeF_none p a (fun y hy => h y (by simp [hy]))]
theorem EP_p23b (l : List AT) (G : List ET → Int → List ET → Option Bool) (i : Int) (e : ET) (s a : List ET) (v : ET) (hs : s.length ≤ 100) (ha : ∀ x ∈ a, pTake e.1 e.2.1 x = false) (hv : pTake e.1 e.2.1 v = true) : ∀ (suf mid : List ET) (n : Nat), a ++ v :: (mid ++ suf) = s → suf.length < n →
    law29_ErrandPlays.l23 BIG l G n s i ((a.length : Nat) : Int) (((a ++ v :: mid).length : Nat) : Int) s e.1 e.2.1 e.2.2.1 e.2.2.2.1 e.2.2.2.2 (a ++ mid) =
      law29_ErrandPlays.l38 BIG l G BIG i (EP_takeF (pTake e.1 e.2.1) s) (EP_takeF (pTake e.1 e.2.1) s)
  | suf, mid, 0, h, hn => absurd hn (by omega)
  | [], mid, n + 1, h, hn => by
    rw [List.append_nil] at h
    subst h
    rw [law29_ErrandPlays.l23_at BIG (n + 1) n rfl]
    unfold law29_ErrandPlays.b23
    rw [if_neg (by simp), errand_List_Take.some a v mid e.2.1 e.1 (by omega) ha hv]
    simp only [veil_eq]
    rw [if_neg (by simp), if_pos trivial, idx_mid]
    dsimp only
    rw [law29_like.pure]
    simp only [veil_eq]
    rw [if_neg (by simp), if_neg (by simp), EP_takeF_mid _ v mid hv a ha]
  | u :: suf, mid, n + 1, h, hn => by
    have h' : suf.length < n := by simp at hn; omega
    have hl : a.length + 1 + mid.length + (suf.length + 1) ≤ 100 := by rw [← h] at hs; simp at hs; omega
    have hi : idx s (((a ++ v :: mid).length : Nat) : Int) = some u := by
      rw [← h]
      have := idx_mid (a ++ v :: mid) u suf
      rw [List.append_assoc, List.cons_append] at this
      exact this
    rw [law29_ErrandPlays.l23_at BIG (n + 1) n rfl]
    unfold law29_ErrandPlays.b23
    rw [if_pos (by rw [← h]; simp; omega), if_neg (by simp), hi]
    dsimp only
    rw [if_pos (by unfold lim; simp; omega)]
    rw [law29_ErrandPlays.l24_at BIG BIG _ big_eq]
    unfold law29_ErrandPlays.b24
    rw [lenw _ (by simp; omega)]
    have ih := EP_p23b l G i e s a v hs ha hv suf (mid ++ [u]) n (by rw [← h]; simp) h'
    have e1 : (a ++ v :: (mid ++ [u])).length = (a ++ v :: mid).length + 1 := by simp; omega
    rw [e1, ← List.append_assoc] at ih
    exact ih
theorem EP_p23 (l : List AT) (G : List ET → Int → List ET → Option Bool) (i : Int) (e : ET) (s : List ET) (hs : s.length ≤ 100) : ∀ (suf pre : List ET) (n : Nat), pre ++ suf = s → (∀ x ∈ pre, pTake e.1 e.2.1 x = false) → suf.length < n →
    law29_ErrandPlays.l23 BIG l G n s i (-1) ((pre.length : Nat) : Int) s e.1 e.2.1 e.2.2.1 e.2.2.2.1 e.2.2.2.2 pre =
      law29_ErrandPlays.l38 BIG l G BIG i (EP_takeF (pTake e.1 e.2.1) s) (EP_takeF (pTake e.1 e.2.1) s)
  | suf, pre, 0, h, ha, hn => absurd hn (by omega)
  | [], pre, n + 1, h, ha, hn => by
    rw [List.append_nil] at h
    subst h
    rw [law29_ErrandPlays.l23_at BIG (n + 1) n rfl]
    unfold law29_ErrandPlays.b23
    rw [if_neg (by simp), errand_List_Take.none pre e.2.1 e.1 (by omega) ha]
    simp only [veil_eq]
    rw [if_neg (by simp), if_neg (by simp), if_pos (by simp)]
    have hz := law29_like.pure (0, 0, 0, 0, 0) (0, 0, 0, 0, 0)
    dsimp only at hz
    rw [hz]
    simp only [veil_eq]
    rw [if_neg (by simp), EP_takeF_none _ pre ha]
  | v :: suf, pre, n + 1, h, ha, hn => by
    have h' : suf.length < n := by simp at hn; omega
    have hl : pre.length + (suf.length + 1) ≤ 100 := by rw [← h] at hs; simp at hs; omega
    have hi : idx s ((pre.length : Nat) : Int) = some v := by rw [← h]; exact idx_mid pre v suf
    have e2 : (pre ++ [v]).length = pre.length + 1 := by simp
    rw [law29_ErrandPlays.l23_at BIG (n + 1) n rfl]
    unfold law29_ErrandPlays.b23
    rw [if_pos (by rw [← h]; simp; omega), if_pos (by rfl), hi]
    dsimp only
    have ihn : pTake e.1 e.2.1 v = false → law29_ErrandPlays.l24 BIG l G (law29_ErrandPlays.l23 BIG l G n) BIG s i (-1) ((pre.length : Nat) : Int) s e.1 e.2.1 e.2.2.1 e.2.2.2.1 e.2.2.2.2 (pre ++ [v]) = law29_ErrandPlays.l38 BIG l G BIG i (EP_takeF (pTake e.1 e.2.1) s) (EP_takeF (pTake e.1 e.2.1) s) := by
      intro hp
      rw [law29_ErrandPlays.l24_at BIG BIG _ big_eq]
      unfold law29_ErrandPlays.b24
      rw [lenw _ (by omega)]
      have ih := EP_p23 l G i e s hs suf (pre ++ [v]) n (by rw [← h]; simp) (by intro x hx; rcases List.mem_append.1 hx with h1 | h1; exact ha x h1; simp at h1; subst h1; exact hp) h'
      rw [e2] at ih
      exact ih
    by_cases hc : v.1 = e.1
    · rw [if_pos (by simp [hc])]
      by_cases hd : v.2.1 = e.2.1
      · have hp : pTake e.1 e.2.1 v = true := by unfold pTake; simp [hc, hd]
        rw [if_pos (by simp [hd])]
        rw [law29_ErrandPlays.l24_at BIG BIG _ big_eq]
        unfold law29_ErrandPlays.b24
        rw [lenw _ (by omega)]
        have ih := EP_p23b l G i e s pre v hs ha hp suf [] n (by rw [← h]; simp) h'
        rw [e2, List.append_nil] at ih
        exact ih
      · have hp : pTake e.1 e.2.1 v = false := by unfold pTake; simp [hd]
        rw [if_neg (by simp [hd]), if_pos (by unfold lim; simp; omega)]
        exact ihn hp
    · have hp : pTake e.1 e.2.1 v = false := by unfold pTake; simp [hc]
      rw [if_neg (by simp [hc]), if_pos (by unfold lim; simp; omega)]
      exact ihn hp
theorem putF_len (s : List ET) (e : ET) (h : s.length ≤ 16) : (putF s e).length ≤ 16 := by
  unfold putF
  have := List.length_filter_le (fun v => !(pPut e.1 v)) s
  dsimp only
  split
  · simp at *; omega
  · simp at *; omega
theorem takeF_len (p : ET → Bool) : ∀ s : List ET, (EP_takeF p s).length ≤ s.length
  | [] => Nat.le_refl _
  | x :: s => by
    rw [EP_takeF]
    split
    · simp
    · have := takeF_len p s
      simp; omega
theorem ErrandPlays.loop (l : List AT) (hl : l.length ≤ 60) : ∀ (suf pre : List AT) (s : List ET) (n : Nat), pre ++ suf = l → s.length ≤ 16 → suf.length < n →
    law29_ErrandPlays.l6 BIG l n s ((pre.length : Nat) : Int) s = some true
  | suf, pre, s, 0, h, hs, hn => absurd hn (by omega)
  | [], pre, s, n + 1, h, hs, hn => by
    rw [law29_ErrandPlays.l6_at BIG (n + 1) n rfl]
    unfold law29_ErrandPlays.b6
    rw [if_neg (by rw [← h]; simp), law29_awake.pure]
    simp only [veil_eq]
  | v :: suf, pre, s, n + 1, h, hs, hn => by
    have h' : suf.length < n := by simp at hn; omega
    have hpl : pre.length + (suf.length + 1) ≤ 60 := by rw [← h] at hl; simp at hl; omega
    have hi : idx l ((pre.length : Nat) : Int) = some v := by rw [← h]; exact idx_mid pre v suf
    have e2 : (pre ++ [v]).length = pre.length + 1 := by simp
    have ih := fun s' hs' => ErrandPlays.loop l hl suf (pre ++ [v]) s' n (by rw [← h]; simp) hs' h'
    rw [e2] at ih
    have go : ∀ s' : List ET, s'.length ≤ 16 → law29_ErrandPlays.l38 BIG l (law29_ErrandPlays.l6 BIG l n) BIG ((pre.length : Nat) : Int) s' s' = some true := by
      intro s' hs'
      rw [EP_p38 l _ s' _ (by omega), lenw _ (by omega)]
      exact ih s' hs'
    rw [law29_ErrandPlays.l6_at BIG (n + 1) n rfl]
    unfold law29_ErrandPlays.b6
    rw [if_pos (by rw [← h]; simp; omega), hi]
    dsimp only
    by_cases h0 : v.1 = 0
    · rw [if_pos (by simp [h0]), errand_List_Put.pure s v.2 (by omega)]
      simp only [veil_eq]
      have e := EP_p13 l (law29_ErrandPlays.l6 BIG l n) (putF s v.2) ((pre.length : Nat) : Int) v.2 s (by omega) s [] [] BIG rfl (Nat.le_refl _) (by rw [BIG_eq]; omega)
      refine Eq.trans e ?_
      exact go (putF s v.2) (putF_len s v.2 hs)
    · rw [if_neg (by simp [h0])]
      by_cases h1 : v.1 = 1
      · rw [if_pos (by simp [h1])]
        have e := EP_p23 l (law29_ErrandPlays.l6 BIG l n) ((pre.length : Nat) : Int) v.2 s (by omega) s [] BIG rfl (by simp) (by rw [BIG_eq]; omega)
        refine Eq.trans e ?_
        exact go _ (Nat.le_trans (takeF_len _ s) hs)
      · rw [if_neg (by simp [h1])]
        have e := EP_p32 l (law29_ErrandPlays.l6 BIG l n) ((pre.length : Nat) : Int) v.2 s (by omega) s [] [] BIG rfl rfl (by rw [BIG_eq]; omega)
        refine Eq.trans e ?_
        exact go _ (Nat.le_trans (List.length_filter_le _ s) hs)
theorem ErrandPlays.pure (l : List AT) : law29_ErrandPlays.f BIG l = some true := by
  unfold law29_ErrandPlays.f law29_ErrandPlays.b
  by_cases hl : l.length > 60
  · rw [if_pos (by simp; omega), law29_awake.pure]
    simp only [veil_eq]
  · rw [if_neg (by simp; omega), show errand_New.f BIG () = some () from rfl]
    simp only [veil_eq]
    exact ErrandPlays.loop l (by omega) l [] [] BIG rfl (by simp) (by rw [BIG_eq]; omega)
theorem errandPlays_envOk : EnvOk Try.prog law29_ErrandPlays_E := env_ok (l := [(8, s_law29_awake), (9, s_errand_New), (10, s_errand_List_Put), (11, s_errand_List_Take), (12, s_law29_like), (13, s_errand_List_Expire), (14, s_errand_List_All)]) th_ok any_ok ⟨⟨s_law29_awake_ok, s_law29_awake_det⟩, ⟨s_errand_New_ok, s_errand_New_det⟩, ⟨s_errand_List_Put_ok, s_errand_List_Put_det⟩, ⟨s_errand_List_Take_ok, s_errand_List_Take_det⟩, ⟨s_law29_like_ok, s_law29_like_det⟩, ⟨s_errand_List_Expire_ok, s_errand_List_Expire_det⟩, ⟨s_errand_List_All_ok, s_errand_List_All_det⟩, trivial⟩ _
theorem errandPlays_tells (l : List (Int × Int × Int × Int × Int × Int))  : denF law29_ErrandPlays_E loopN BIG Try.f3 [.raw] [.d (.sl (.pair (.int .i64) (.pair (.int .i64) (.pair (.int .i64) (.pair (.int .i64) (.pair (.int .i64) (.int .i64))))))) l] [] isTrue = some () := by
  rw [denF_any errandPlays_envOk.D ((law29_ErrandPlays.eq BIG l).trans (ErrandPlays.pure l)) (out := [.d .bool true]) (os := []) (fun rs ros hk => by
    unfold law29_ErrandPlays.k at hk
    split at hk
    · first | (cases hk; exact ⟨rfl, rfl⟩) | (have e := Option.some.inj hk; rw [← e]; exact ⟨rfl, rfl⟩)
    · cases hk)]
  rfl
set_option maxRecDepth 100000 in
theorem errandPlays_lifted (os : Os) (started : os.Started) (H : Type) (enc : TypeId × Value → H) :
    ReturnsInHanded {} Try.checked os 3 .any (Rows.errandPlaysSpec.pre6 enc Try.prog Try.f3 Rows.errandPlaysRow.domain false) (Rows.errandPlaysSpec.post enc Try.prog Try.f3 false true false false) := by
  refine returnsInHanded_of_change_sized (C := Try.checked) Try.own started (by kernel_rfl) Try.func3
    (ChangeSpec.witness6 (enc := enc) (C := Try.checked) false ⟨#[], #[.slice none 0 0], []⟩ 8 (by kernel_rfl) (by kernel_rfl) (by kernel_rfl) (by kernel_rfl)) ?_
  intro W base args ds gs before hval hW _ hwt _
  exact law_contract errandPlays_envOk Try.func3 rfl [(.sl (.pair (.int .i64) (.pair (.int .i64) (.pair (.int .i64) (.pair (.int .i64) (.pair (.int .i64) (.int .i64)))))), false)] (tb := 4) (by kernel_rfl) (by kernel_rfl) (by kernel_rfl) rfl
    (fun ds h => by match ds, h with | [_], _ => rfl) Try.laidOut Try.mapsRow Try.slicesSize (fun y hg => ⟨BIG, errandPlays_tells y.1⟩) W base args ds gs before hval hW hwt
theorem errandPlays_holds : Rows.ErrandPlaysSaid :=
  OpenClaim.holds_of_wide 3 Try.f3 rfl rfl rfl rfl rfl rfl rfl ⟨rfl, rfl, rfl, rfl, rfl⟩ rfl rfl rfl rfl rfl (by kernel_rfl) Try.func3 (by kernel_rfl)
    (of_decide_eq_true (by kernel_rfl)) (by unfold Func.isWrapper; first | (rw [if_pos (by decide +kernel)]; kernel_rfl) | (rw [if_neg (by decide +kernel)]; exact ⟨rfl, rfl⟩))
    (fun os started H enc _ => errandPlays_lifted os started H enc)
end Go.Proofs.Ytkfiohbhihmcnaa
