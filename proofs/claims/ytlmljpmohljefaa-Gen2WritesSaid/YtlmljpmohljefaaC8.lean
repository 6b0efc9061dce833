/- printed by denfn.py -/
import Derived.Test.YtlmljpmohljefaaTh
import Derived.Test.YtlmljpmohljefaaS6
set_option linter.unusedVariables false
namespace Go.Proofs.Ytlmljpmohljefaa
open Go.Den
noncomputable def lexB : List Int → List Int → Int
  | [], [] => 0
  | [], _ :: _ => -1
  | _ :: _, [] => 1
  | x :: l, y :: m => if decide (x < y) then -1 else if decide (x > y) then 1 else lexB l m
noncomputable def signF (t1 : Int) (d1 : List Int) (t2 : Int) (d2 : List Int) : Int := if t1 != t2 then (if decide (t1 < t2) then -1 else 1) else lexB d1 d2
noncomputable def cmpGo : List (Int × List Int) → List (Int × List Int) → Int
  | [], [] => 0
  | [], _ :: _ => -1
  | _ :: _, [] => 1
  | x :: l, y :: m => if signF x.1 x.2 y.1 y.2 != 0 then signF x.1 x.2 y.1 y.2 else cmpGo l m
noncomputable def alike8 (a b : (Int × Int × Int × (Int × Int) × Bool × List (Int × List Int))) : Bool := a.1 == b.1 && (a.2.1 == b.2.1 && (a.2.2.1 == b.2.2.1 && (a.2.2.2.1.1 == b.2.2.2.1.1 && (a.2.2.2.1.2 == b.2.2.2.1.2 && (a.2.2.2.2.1 == b.2.2.2.2.1 && cmpGo a.2.2.2.2.2 b.2.2.2.2.2 == 0)))))
noncomputable def allGo : List (Int × Int × Int × (Int × Int) × Bool × List (Int × List Int)) → List (Int × Int × Int × (Int × Int) × Bool × List (Int × List Int)) → Bool
  | [], [] => true
  | a :: l, b :: m => alike8 a b && allGo l m
  | _, _ => false
noncomputable def small (l : List Int) : Bool := decide (l.length < 281474976710656)
noncomputable def s_isnan : Den.Sum := ⟨[.raw], fun args objs κ => match args, objs with
  | [.d (.int .u8) x], [] => κ [.d .bool false] []
  | _, _ => none⟩
noncomputable def s_cmpb : Den.Sum := ⟨[.raw, .raw], fun args objs κ => match args, objs with
  | [.d (.int .u8) x, .d (.int .u8) y], [] => κ [.d (.int .i64) (if decide (x < y) then -1 else if decide (x > y) then 1 else 0)] []
  | _, _ => none⟩
noncomputable def s_slcmp : Den.Sum := ⟨[.dat (.sl (.int .u8)) false, .dat (.sl (.int .u8)) false], fun args objs κ => match args, objs with
  | [.d (.sl (.int .u8)) l, .d (.sl (.int .u8)) m], [] => if (small l && small m) = true then κ [.d (.int .i64) (lexB l m)] [] else none
  | _, _ => none⟩
noncomputable def s_sign : Den.Sum := ⟨[.dat (.pair (.int .i64) (.sl (.int .u8))) true, .dat (.pair (.int .i64) (.sl (.int .u8))) true], fun args objs κ => match args, objs with
  | [.agg [.d (.int .i64) t1, .d (.sl (.int .u8)) d1], .agg [.d (.int .i64) t2, .d (.sl (.int .u8)) d2]], [] => if (small d1 && small d2) = true then κ [.d (.int .i64) (signF t1 d1 t2 d2)] [] else none
  | _, _ => none⟩
noncomputable def s_bcmp : Den.Sum := ⟨[.dat (.sl (.pair (.int .i64) (.sl (.int .u8)))) false, .dat (.sl (.pair (.int .i64) (.sl (.int .u8)))) false], fun args objs κ => match args, objs with
  | [.d (.sl (.pair (.int .i64) (.sl (.int .u8)))) a, .d (.sl (.pair (.int .i64) (.sl (.int .u8)))) b], [] => if (smallBag a && smallBag b) = true then κ [.d (.int .i64) (cmpGo a b)] [] else none
  | _, _ => none⟩
noncomputable def s_bsame : Den.Sum := ⟨[.dat (.sl (.pair (.int .i64) (.sl (.int .u8)))) false, .dat (.sl (.pair (.int .i64) (.sl (.int .u8)))) false], fun args objs κ => match args, objs with
  | [.d (.sl (.pair (.int .i64) (.sl (.int .u8)))) a, .d (.sl (.pair (.int .i64) (.sl (.int .u8)))) b], [] => if (smallBag a && smallBag b) = true then κ [.d .bool (cmpGo a b == 0)] [] else none
  | _, _ => none⟩
noncomputable def s_alike8 : Den.Sum := ⟨[.dat (.pair (.int .i64) (.pair (.int .i64) (.pair (.int .i64) (.pair (.pair (.int .i64) (.int .i64)) (.pair .bool (.sl (.pair (.int .i64) (.sl (.int .u8))))))))) true, .dat (.pair (.int .i64) (.pair (.int .i64) (.pair (.int .i64) (.pair (.pair (.int .i64) (.int .i64)) (.pair .bool (.sl (.pair (.int .i64) (.sl (.int .u8))))))))) true], fun args objs κ => match args, objs with
  | [.agg [.d (.int .i64) rid, .d (.int .i64) rinc, .d (.int .i64) rst, .d (.int .i64) rlo, .d (.int .i64) rhi, .d .bool rcut, .d (.sl (.pair (.int .i64) (.sl (.int .u8)))) rbag], .agg [.d (.int .i64) sid, .d (.int .i64) sinc, .d (.int .i64) sst, .d (.int .i64) slo, .d (.int .i64) shi, .d .bool scut, .d (.sl (.pair (.int .i64) (.sl (.int .u8)))) sbag]], [] => if (smallBag rbag && smallBag sbag) = true then κ [.d .bool (alike8 (rid, rinc, rst, (rlo, rhi), rcut, rbag) (sid, sinc, sst, (slo, shi), scut, sbag))] [] else none
  | _, _ => none⟩
noncomputable def s_allal : Den.Sum := ⟨[.dat (.sl (.pair (.int .i64) (.pair (.int .i64) (.pair (.int .i64) (.pair (.pair (.int .i64) (.int .i64)) (.pair .bool (.sl (.pair (.int .i64) (.sl (.int .u8)))))))))) false, .dat (.sl (.pair (.int .i64) (.pair (.int .i64) (.pair (.int .i64) (.pair (.pair (.int .i64) (.int .i64)) (.pair .bool (.sl (.pair (.int .i64) (.sl (.int .u8)))))))))) false], fun args objs κ => match args, objs with
  | [.d (.sl (.pair (.int .i64) (.pair (.int .i64) (.pair (.int .i64) (.pair (.pair (.int .i64) (.int .i64)) (.pair .bool (.sl (.pair (.int .i64) (.sl (.int .u8)))))))))) l, .d (.sl (.pair (.int .i64) (.pair (.int .i64) (.pair (.int .i64) (.pair (.pair (.int .i64) (.int .i64)) (.pair .bool (.sl (.pair (.int .i64) (.sl (.int .u8)))))))))) m], [] => if (smallRecs l && smallRecs m) = true then κ [.d .bool (allGo l m)] [] else none
  | _, _ => none⟩
noncomputable def s_alike10 : Den.Sum := ⟨[.dat (.pair (.int .i64) (.pair (.int .i64) (.pair (.int .i64) (.pair (.pair (.int .i64) (.int .i64)) (.pair (.int .i64) (.pair (.int .i64) (.pair (.int .i64) (.pair (.int .i64) (.pair (.int .i64) (.sl (.pair (.int .i64) (.pair (.int .i64) (.pair (.int .i64) (.pair (.pair (.int .i64) (.int .i64)) (.pair .bool (.sl (.pair (.int .i64) (.sl (.int .u8))))))))))))))))))) true, .dat (.pair (.int .i64) (.pair (.int .i64) (.pair (.int .i64) (.pair (.pair (.int .i64) (.int .i64)) (.pair (.int .i64) (.pair (.int .i64) (.pair (.int .i64) (.pair (.int .i64) (.pair (.int .i64) (.sl (.pair (.int .i64) (.pair (.int .i64) (.pair (.int .i64) (.pair (.pair (.int .i64) (.int .i64)) (.pair .bool (.sl (.pair (.int .i64) (.sl (.int .u8))))))))))))))))))) true], fun args objs κ => match args, objs with
  | [.agg [.d (.int .i64) mkind, .d (.int .i64) mfrom0, .d (.int .i64) minc, .d (.int .i64) mlo, .d (.int .i64) mhi, .d (.int .i64) mseq, .d (.int .i64) mtarget, .d (.int .i64) mlife, .d (.int .i64) mepoch, .d (.int .i64) mbase, .d (.sl (.pair (.int .i64) (.pair (.int .i64) (.pair (.int .i64) (.pair (.pair (.int .i64) (.int .i64)) (.pair .bool (.sl (.pair (.int .i64) (.sl (.int .u8)))))))))) mrecs], .agg [.d (.int .i64) nkind, .d (.int .i64) nfrom0, .d (.int .i64) ninc, .d (.int .i64) nlo, .d (.int .i64) nhi, .d (.int .i64) nseq, .d (.int .i64) ntarget, .d (.int .i64) nlife, .d (.int .i64) nepoch, .d (.int .i64) nbase, .d (.sl (.pair (.int .i64) (.pair (.int .i64) (.pair (.int .i64) (.pair (.pair (.int .i64) (.int .i64)) (.pair .bool (.sl (.pair (.int .i64) (.sl (.int .u8)))))))))) nrecs]], [] => if (smallRecs mrecs && smallRecs nrecs) = true then κ [.d .bool (mkind == nkind && (mfrom0 == nfrom0 && (minc == ninc && (mlo == nlo && (mhi == nhi && (mseq == nseq && (mtarget == ntarget && (mlife == nlife && (mepoch == nepoch && (mbase == nbase && allGo mrecs nrecs))))))))))] [] else none
  | _, _ => none⟩
noncomputable def IsNaN_E : Env := ⟨th, gam [], fun i => ⟨[], [], []⟩⟩
noncomputable def IsNaN.k (rs : List AV) (os : List Den.Obj) : Option Bool :=
  match rs, os with
  | [.d .bool r0], [] => some r0
  | _, _ => none
noncomputable def IsNaN.b (x : Int) : Option Bool :=
  some ((x != x))
noncomputable def IsNaN.f (fuel : Nat) (x : Int) : Option Bool := IsNaN.b x
theorem IsNaN.eq (fuel : Nat) (x : Int) : (denF IsNaN_E loopN fuel Try.f109 [.raw] [.d (.int .u8) x] [] IsNaN.k) = IsNaN.f fuel x := by
  kernel_rfl


noncomputable def CmpB_E : Env := ⟨th, gam [(109, s_isnan)], fun i => ⟨[], [], []⟩⟩
noncomputable def CmpB.k (rs : List AV) (os : List Den.Obj) : Option Int :=
  match rs, os with
  | [.d (.int .i64) r0], [] => some r0
  | _, _ => none
noncomputable def CmpB.b (x : Int) (y : Int) : Option Int :=
  (if (decide (x < y)) then some ((-(1 : Int))) else (if (decide (x > y)) then some ((1 : Int)) else some ((0 : Int))))
noncomputable def CmpB.f (fuel : Nat) (x : Int) (y : Int) : Option Int := CmpB.b x y
theorem CmpB.eq (fuel : Nat) (x : Int) (y : Int) : (denF CmpB_E loopN fuel Try.f108 [.raw] [.d (.int .u8) x, .d (.int .u8) y] [] CmpB.k) = CmpB.f fuel x y := by
  kernel_rfl


noncomputable def SlCmp_E : Env := ⟨th, gam [(108, s_cmpb)], fun i => if i = 2 then ⟨[0, 1, 9, 10, 11], [], []⟩ else ⟨[], [], []⟩⟩
noncomputable def SlCmp.k (rs : List AV) (os : List Den.Obj) : Option Int :=
  match rs, os with
  | [.d (.int .i64) r0], [] => some r0
  | _, _ => none
noncomputable def SlCmp.s2 (l : List Int) (m : List Int) (x0 : Int) (x1 : Int) : St := ⟨[.d (.sl (.int .u8)) (l), .d (.sl (.int .u8)) (m), .dead, .dead, .dead, .dead, .dead, .dead, .dead, .d (.sl (.int .u8)) (l), .d (.int .i64) x0, .d (.int .i64) x1, .dead, .dead, .dead, .dead, .dead, .dead, .dead, .dead, .dead, .dead, .dead, .dead, .dead, .dead, .dead, .dead, .dead, .dead, .dead, .dead, .dead, .dead, .dead, .dead], ofL [], 0⟩
noncomputable def SlCmp.b2 (l : List Int) (m : List Int) (A2 : Int → Int → Option Int) (x0 : Int) (x1 : Int) : Option Int :=
  (if (decide (x1 < x0)) then (match (idx l x1) with | none => none | some y2 => (if (decide (x1 ≥ ((((List.length m)) : Nat) : Int))) then some ((1 : Int)) else (match (idx m x1) with | none => none | some y3 => (if ((if (decide (y2 < y3)) then (-1) else (if (decide (y2 > y3)) then 1 else 0)) != (0 : Int)) then some ((if (decide (y2 < y3)) then (-1) else (if (decide (y2 > y3)) then 1 else 0))) else A2 x0 (Go.IntKind.wrap .i64 (x1 + (1 : Int))))))) else (if (decide (((((List.length l)) : Nat) : Int) < ((((List.length m)) : Nat) : Int))) then some ((-(1 : Int))) else some ((0 : Int))))
noncomputable def SlCmp.l2 (fuel : Nat) (l : List Int) (m : List Int) : Nat → Int → Int → Option Int
  | 0, _, _ => none
  | k + 1, x0, x1 => SlCmp.b2 l m (SlCmp.l2 fuel l m k) x0 x1
noncomputable def SlCmp.b (l : List Int) (m : List Int) (E2 : Int → Int → Option Int) : Option Int :=
  E2 ((((List.length l)) : Nat) : Int) (0 : Int)
noncomputable def SlCmp.f (fuel : Nat) (l : List Int) (m : List Int) : Option Int := SlCmp.b l m (SlCmp.l2 fuel l m fuel)
theorem SlCmp.l2_eq (fuel : Nat) (l : List Int) (m : List Int) : ∀ (k : Nat) (x0 : Int) (x1 : Int), lp SlCmp_E fuel Try.f106 [.raw] 0 SlCmp.k 2 [] k (SlCmp.s2 l m x0 x1) = SlCmp.l2 fuel l m k x0 x1 := by
  intro k
  induction k with
  | zero => intro x0 x1; rfl
  | succ k ih =>
    intro x0 x1
    have h : lp SlCmp_E fuel Try.f106 [.raw] 0 SlCmp.k 2 [] (k + 1) (SlCmp.s2 l m x0 x1) = SlCmp.b2 l m (fun x0 x1 => lp SlCmp_E fuel Try.f106 [.raw] 0 SlCmp.k 2 [] k (SlCmp.s2 l m x0 x1)) x0 x1 := by kernel_rfl
    rw [h]
    have e2 : (fun x0 x1 => lp SlCmp_E fuel Try.f106 [.raw] 0 SlCmp.k 2 [] k (SlCmp.s2 l m x0 x1)) = SlCmp.l2 fuel l m k := (funext fun x0 => (funext fun x1 => ih x0 x1))
    rw [e2]
    rfl
theorem SlCmp.eq (fuel : Nat) (l : List Int) (m : List Int) : (denF SlCmp_E loopN fuel Try.f106 [.raw] [.d (.sl (.int .u8)) l, .d (.sl (.int .u8)) m] [] SlCmp.k) = SlCmp.f fuel l m := by
  have h : (denF SlCmp_E loopN fuel Try.f106 [.raw] [.d (.sl (.int .u8)) l, .d (.sl (.int .u8)) m] [] SlCmp.k) = SlCmp.b l m (fun x0 x1 => lp SlCmp_E fuel Try.f106 [.raw] 0 SlCmp.k 2 [] fuel (SlCmp.s2 l m x0 x1)) := by kernel_rfl
  rw [h]
  have e2 : (fun x0 x1 => lp SlCmp_E fuel Try.f106 [.raw] 0 SlCmp.k 2 [] fuel (SlCmp.s2 l m x0 x1)) = SlCmp.l2 fuel l m fuel := (funext fun x0 => (funext fun x1 => SlCmp.l2_eq fuel l m fuel x0 x1))
  rw [e2]
  rfl


noncomputable def BSign_E : Env := ⟨th, gam [(106, s_slcmp)], fun i => ⟨[], [], []⟩⟩
noncomputable def BSign.k (rs : List AV) (os : List Den.Obj) : Option Int :=
  match rs, os with
  | [.d (.int .i64) r0], [] => some r0
  | _, _ => none
noncomputable def BSign.b (t1 : Int) (d1 : List Int) (t2 : Int) (d2 : List Int) : Option Int :=
  (if (t1 != t2) then (if (decide (t1 < t2)) then some ((-(1 : Int))) else some ((1 : Int))) else (if ((small d1) && (small d2)) then some ((lexB d1 d2)) else none))
noncomputable def BSign.f (fuel : Nat) (t1 : Int) (d1 : List Int) (t2 : Int) (d2 : List Int) : Option Int := BSign.b t1 d1 t2 d2
theorem BSign.eq (fuel : Nat) (t1 : Int) (d1 : List Int) (t2 : Int) (d2 : List Int) : (denF BSign_E loopN fuel Try.f104 [.raw] [.agg [.d (.int .i64) t1, .d (.sl (.int .u8)) d1], .agg [.d (.int .i64) t2, .d (.sl (.int .u8)) d2]] [] BSign.k) = BSign.f fuel t1 d1 t2 d2 := by
  kernel_rfl


noncomputable def BCmp_E : Env := ⟨th, gam [(104, s_sign)], fun i => if i = 2 then ⟨[0, 1, 5], [], []⟩ else ⟨[], [], []⟩⟩
noncomputable def BCmp.k (rs : List AV) (os : List Den.Obj) : Option Int :=
  match rs, os with
  | [.d (.int .i64) r0], [] => some r0
  | _, _ => none
noncomputable def BCmp.s2 (a : List (Int × List Int)) (b : List (Int × List Int)) (x0 : Int) : St := ⟨[.d (.sl (.pair (.int .i64) (.sl (.int .u8)))) (a), .d (.sl (.pair (.int .i64) (.sl (.int .u8)))) (b), .dead, .dead, .dead, .d (.int .i64) x0, .dead, .dead, .dead, .dead, .dead, .dead, .dead, .dead, .dead, .dead, .dead, .dead, .dead, .dead, .dead, .dead, .dead, .dead, .dead, .dead, .dead, .dead, .dead, .dead, .dead, .dead, .dead, .dead, .dead, .dead, .dead, .dead, .dead, .dead, .dead, .dead, .dead], ofL [], 0⟩
noncomputable def BCmp.b2 (a : List (Int × List Int)) (b : List (Int × List Int)) (A2 : Int → Option Int) (x0 : Int) : Option Int :=
  (if (decide (x0 < ((((List.length a)) : Nat) : Int))) then (if (decide (x0 < ((((List.length b)) : Nat) : Int))) then (match (idx a x0) with | none => none | some y1 => (match (idx b x0) with | none => none | some y2 => (if ((small y1.2) && (small y2.2)) then (if ((signF y1.1 y1.2 y2.1 y2.2) != (0 : Int)) then some ((signF y1.1 y1.2 y2.1 y2.2)) else A2 (Go.IntKind.wrap .i64 (x0 + (1 : Int)))) else none))) else (if (decide (((((List.length a)) : Nat) : Int) < ((((List.length b)) : Nat) : Int))) then some ((-(1 : Int))) else (if (decide (((((List.length a)) : Nat) : Int) > ((((List.length b)) : Nat) : Int))) then some ((1 : Int)) else some ((0 : Int))))) else (if (decide (((((List.length a)) : Nat) : Int) < ((((List.length b)) : Nat) : Int))) then some ((-(1 : Int))) else (if (decide (((((List.length a)) : Nat) : Int) > ((((List.length b)) : Nat) : Int))) then some ((1 : Int)) else some ((0 : Int)))))
noncomputable def BCmp.l2 (fuel : Nat) (a : List (Int × List Int)) (b : List (Int × List Int)) : Nat → Int → Option Int
  | 0, _ => none
  | k + 1, x0 => BCmp.b2 a b (BCmp.l2 fuel a b k) x0
noncomputable def BCmp.b (a : List (Int × List Int)) (b : List (Int × List Int)) (E2 : Int → Option Int) : Option Int :=
  E2 (0 : Int)
noncomputable def BCmp.f (fuel : Nat) (a : List (Int × List Int)) (b : List (Int × List Int)) : Option Int := BCmp.b a b (BCmp.l2 fuel a b fuel)
theorem BCmp.l2_eq (fuel : Nat) (a : List (Int × List Int)) (b : List (Int × List Int)) : ∀ (k : Nat) (x0 : Int), lp BCmp_E fuel Try.f101 [.raw] 0 BCmp.k 2 [] k (BCmp.s2 a b x0) = BCmp.l2 fuel a b k x0 := by
  intro k
  induction k with
  | zero => intro x0; rfl
  | succ k ih =>
    intro x0
    have h : lp BCmp_E fuel Try.f101 [.raw] 0 BCmp.k 2 [] (k + 1) (BCmp.s2 a b x0) = BCmp.b2 a b (fun x0 => lp BCmp_E fuel Try.f101 [.raw] 0 BCmp.k 2 [] k (BCmp.s2 a b x0)) x0 := by kernel_rfl
    rw [h]
    have e2 : (fun x0 => lp BCmp_E fuel Try.f101 [.raw] 0 BCmp.k 2 [] k (BCmp.s2 a b x0)) = BCmp.l2 fuel a b k := (funext fun x0 => ih x0)
    rw [e2]
    rfl
theorem BCmp.eq (fuel : Nat) (a : List (Int × List Int)) (b : List (Int × List Int)) : (denF BCmp_E loopN fuel Try.f101 [.raw] [.d (.sl (.pair (.int .i64) (.sl (.int .u8)))) a, .d (.sl (.pair (.int .i64) (.sl (.int .u8)))) b] [] BCmp.k) = BCmp.f fuel a b := by
  have h : (denF BCmp_E loopN fuel Try.f101 [.raw] [.d (.sl (.pair (.int .i64) (.sl (.int .u8)))) a, .d (.sl (.pair (.int .i64) (.sl (.int .u8)))) b] [] BCmp.k) = BCmp.b a b (fun x0 => lp BCmp_E fuel Try.f101 [.raw] 0 BCmp.k 2 [] fuel (BCmp.s2 a b x0)) := by kernel_rfl
  rw [h]
  have e2 : (fun x0 => lp BCmp_E fuel Try.f101 [.raw] 0 BCmp.k 2 [] fuel (BCmp.s2 a b x0)) = BCmp.l2 fuel a b fuel := (funext fun x0 => BCmp.l2_eq fuel a b fuel x0)
  rw [e2]
  rfl


noncomputable def BSame_E : Env := ⟨th, gam [(101, s_bcmp)], fun i => ⟨[], [], []⟩⟩
noncomputable def BSame.k (rs : List AV) (os : List Den.Obj) : Option Bool :=
  match rs, os with
  | [.d .bool r0], [] => some r0
  | _, _ => none
noncomputable def BSame.b (a : List (Int × List Int)) (b : List (Int × List Int)) : Option Bool :=
  (if ((smallBag a) && (smallBag b)) then some (((cmpGo a b) == (0 : Int))) else none)
noncomputable def BSame.f (fuel : Nat) (a : List (Int × List Int)) (b : List (Int × List Int)) : Option Bool := BSame.b a b
theorem BSame.eq (fuel : Nat) (a : List (Int × List Int)) (b : List (Int × List Int)) : (denF BSame_E loopN fuel Try.f96 [.raw] [.d (.sl (.pair (.int .i64) (.sl (.int .u8)))) a, .d (.sl (.pair (.int .i64) (.sl (.int .u8)))) b] [] BSame.k) = BSame.f fuel a b := by
  kernel_rfl


noncomputable def Alike8_E : Env := ⟨th, gam [(96, s_bsame)], fun i => ⟨[], [], []⟩⟩
noncomputable def Alike8.k (rs : List AV) (os : List Den.Obj) : Option Bool :=
  match rs, os with
  | [.d .bool r0], [] => some r0
  | _, _ => none
noncomputable def Alike8.b (rid : Int) (rinc : Int) (rst : Int) (rlo : Int) (rhi : Int) (rcut : Bool) (rbag : List (Int × List Int)) (sid : Int) (sinc : Int) (sst : Int) (slo : Int) (shi : Int) (scut : Bool) (sbag : List (Int × List Int)) : Option Bool :=
  (if (rid == sid) then (if (rinc == sinc) then (if (rst == sst) then (if (rlo == slo) then (if (rhi == shi) then (if (rcut == scut) then (if ((smallBag rbag) && (smallBag sbag)) then some (((cmpGo rbag sbag) == (0 : Int))) else none) else some (false)) else some (false)) else some (false)) else some (false)) else some (false)) else some (false))
noncomputable def Alike8.f (fuel : Nat) (rid : Int) (rinc : Int) (rst : Int) (rlo : Int) (rhi : Int) (rcut : Bool) (rbag : List (Int × List Int)) (sid : Int) (sinc : Int) (sst : Int) (slo : Int) (shi : Int) (scut : Bool) (sbag : List (Int × List Int)) : Option Bool := Alike8.b rid rinc rst rlo rhi rcut rbag sid sinc sst slo shi scut sbag
theorem Alike8.eq (fuel : Nat) (rid : Int) (rinc : Int) (rst : Int) (rlo : Int) (rhi : Int) (rcut : Bool) (rbag : List (Int × List Int)) (sid : Int) (sinc : Int) (sst : Int) (slo : Int) (shi : Int) (scut : Bool) (sbag : List (Int × List Int)) : (denF Alike8_E loopN fuel Try.f90 [.raw] [.agg [.d (.int .i64) rid, .d (.int .i64) rinc, .d (.int .i64) rst, .d (.int .i64) rlo, .d (.int .i64) rhi, .d .bool rcut, .d (.sl (.pair (.int .i64) (.sl (.int .u8)))) rbag], .agg [.d (.int .i64) sid, .d (.int .i64) sinc, .d (.int .i64) sst, .d (.int .i64) slo, .d (.int .i64) shi, .d .bool scut, .d (.sl (.pair (.int .i64) (.sl (.int .u8)))) sbag]] [] Alike8.k) = Alike8.f fuel rid rinc rst rlo rhi rcut rbag sid sinc sst slo shi scut sbag := by
  kernel_rfl


noncomputable def AllAl_E : Env := ⟨th, gam [(90, s_alike8)], fun i => if i = 4 then ⟨[0, 1, 5], [], []⟩ else ⟨[], [], []⟩⟩
noncomputable def AllAl.k (rs : List AV) (os : List Den.Obj) : Option Bool :=
  match rs, os with
  | [.d .bool r0], [] => some r0
  | _, _ => none
noncomputable def AllAl.s4 (l : List (Int × Int × Int × (Int × Int) × Bool × List (Int × List Int))) (m : List (Int × Int × Int × (Int × Int) × Bool × List (Int × List Int))) (x0 : Int) : St := ⟨[.d (.sl (.pair (.int .i64) (.pair (.int .i64) (.pair (.int .i64) (.pair (.pair (.int .i64) (.int .i64)) (.pair .bool (.sl (.pair (.int .i64) (.sl (.int .u8)))))))))) (l), .d (.sl (.pair (.int .i64) (.pair (.int .i64) (.pair (.int .i64) (.pair (.pair (.int .i64) (.int .i64)) (.pair .bool (.sl (.pair (.int .i64) (.sl (.int .u8)))))))))) (m), .dead, .dead, .dead, .d (.int .i64) x0, .dead, .dead, .dead, .dead, .dead, .dead, .dead, .dead, .dead, .dead, .dead, .dead, .dead, .dead, .dead, .dead, .dead, .dead, .dead, .dead, .dead], ofL [], 0⟩
noncomputable def AllAl.b4 (l : List (Int × Int × Int × (Int × Int) × Bool × List (Int × List Int))) (m : List (Int × Int × Int × (Int × Int) × Bool × List (Int × List Int))) (A4 : Int → Option Bool) (x0 : Int) : Option Bool :=
  (if (decide (x0 < ((((List.length l)) : Nat) : Int))) then (match (idx l x0) with | none => none | some y1 => (match (idx m x0) with | none => none | some y2 => (if ((smallBag y1.2.2.2.2.2) && (smallBag y2.2.2.2.2.2)) then (if (!(alike8 (y1.1, (y1.2.1, (y1.2.2.1, ((y1.2.2.2.1.1, y1.2.2.2.1.2), (y1.2.2.2.2.1, y1.2.2.2.2.2))))) (y2.1, (y2.2.1, (y2.2.2.1, ((y2.2.2.2.1.1, y2.2.2.2.1.2), (y2.2.2.2.2.1, y2.2.2.2.2.2))))))) then some (false) else A4 (Go.IntKind.wrap .i64 (x0 + (1 : Int)))) else none))) else some (true))
noncomputable def AllAl.l4 (fuel : Nat) (l : List (Int × Int × Int × (Int × Int) × Bool × List (Int × List Int))) (m : List (Int × Int × Int × (Int × Int) × Bool × List (Int × List Int))) : Nat → Int → Option Bool
  | 0, _ => none
  | k + 1, x0 => AllAl.b4 l m (AllAl.l4 fuel l m k) x0
noncomputable def AllAl.b (l : List (Int × Int × Int × (Int × Int) × Bool × List (Int × List Int))) (m : List (Int × Int × Int × (Int × Int) × Bool × List (Int × List Int))) (E4 : Int → Option Bool) : Option Bool :=
  (if (((((List.length l)) : Nat) : Int) != ((((List.length m)) : Nat) : Int)) then some (false) else E4 (0 : Int))
noncomputable def AllAl.f (fuel : Nat) (l : List (Int × Int × Int × (Int × Int) × Bool × List (Int × List Int))) (m : List (Int × Int × Int × (Int × Int) × Bool × List (Int × List Int))) : Option Bool := AllAl.b l m (AllAl.l4 fuel l m fuel)
theorem AllAl.l4_eq (fuel : Nat) (l : List (Int × Int × Int × (Int × Int) × Bool × List (Int × List Int))) (m : List (Int × Int × Int × (Int × Int) × Bool × List (Int × List Int))) : ∀ (k : Nat) (x0 : Int), lp AllAl_E fuel Try.f61 [.raw] 0 AllAl.k 4 [] k (AllAl.s4 l m x0) = AllAl.l4 fuel l m k x0 := by
  intro k
  induction k with
  | zero => intro x0; rfl
  | succ k ih =>
    intro x0
    have h : lp AllAl_E fuel Try.f61 [.raw] 0 AllAl.k 4 [] (k + 1) (AllAl.s4 l m x0) = AllAl.b4 l m (fun x0 => lp AllAl_E fuel Try.f61 [.raw] 0 AllAl.k 4 [] k (AllAl.s4 l m x0)) x0 := by kernel_rfl
    rw [h]
    have e4 : (fun x0 => lp AllAl_E fuel Try.f61 [.raw] 0 AllAl.k 4 [] k (AllAl.s4 l m x0)) = AllAl.l4 fuel l m k := (funext fun x0 => ih x0)
    rw [e4]
    rfl
theorem AllAl.eq (fuel : Nat) (l : List (Int × Int × Int × (Int × Int) × Bool × List (Int × List Int))) (m : List (Int × Int × Int × (Int × Int) × Bool × List (Int × List Int))) : (denF AllAl_E loopN fuel Try.f61 [.raw] [.d (.sl (.pair (.int .i64) (.pair (.int .i64) (.pair (.int .i64) (.pair (.pair (.int .i64) (.int .i64)) (.pair .bool (.sl (.pair (.int .i64) (.sl (.int .u8)))))))))) l, .d (.sl (.pair (.int .i64) (.pair (.int .i64) (.pair (.int .i64) (.pair (.pair (.int .i64) (.int .i64)) (.pair .bool (.sl (.pair (.int .i64) (.sl (.int .u8)))))))))) m] [] AllAl.k) = AllAl.f fuel l m := by
  have h : (denF AllAl_E loopN fuel Try.f61 [.raw] [.d (.sl (.pair (.int .i64) (.pair (.int .i64) (.pair (.int .i64) (.pair (.pair (.int .i64) (.int .i64)) (.pair .bool (.sl (.pair (.int .i64) (.sl (.int .u8)))))))))) l, .d (.sl (.pair (.int .i64) (.pair (.int .i64) (.pair (.int .i64) (.pair (.pair (.int .i64) (.int .i64)) (.pair .bool (.sl (.pair (.int .i64) (.sl (.int .u8)))))))))) m] [] AllAl.k) = AllAl.b l m (fun x0 => lp AllAl_E fuel Try.f61 [.raw] 0 AllAl.k 4 [] fuel (AllAl.s4 l m x0)) := by kernel_rfl
  rw [h]
  have e4 : (fun x0 => lp AllAl_E fuel Try.f61 [.raw] 0 AllAl.k 4 [] fuel (AllAl.s4 l m x0)) = AllAl.l4 fuel l m fuel := (funext fun x0 => AllAl.l4_eq fuel l m fuel x0)
  rw [e4]
  rfl


noncomputable def Alike10_E : Env := ⟨th, gam [(61, s_allal)], fun i => ⟨[], [], []⟩⟩
noncomputable def Alike10.k (rs : List AV) (os : List Den.Obj) : Option Bool :=
  match rs, os with
  | [.d .bool r0], [] => some r0
  | _, _ => none
noncomputable def Alike10.b (mkind : Int) (mfrom0 : Int) (minc : Int) (mlo : Int) (mhi : Int) (mseq : Int) (mtarget : Int) (mlife : Int) (mepoch : Int) (mbase : Int) (mrecs : List (Int × Int × Int × (Int × Int) × Bool × List (Int × List Int))) (nkind : Int) (nfrom0 : Int) (ninc : Int) (nlo : Int) (nhi : Int) (nseq : Int) (ntarget : Int) (nlife : Int) (nepoch : Int) (nbase : Int) (nrecs : List (Int × Int × Int × (Int × Int) × Bool × List (Int × List Int))) : Option Bool :=
  (if (mkind != nkind) then some (false) else (if (mfrom0 != nfrom0) then some (false) else (if (minc != ninc) then some (false) else (if (mlo != nlo) then some (false) else (if (mhi != nhi) then some (false) else (if (mseq != nseq) then some (false) else (if (mtarget != ntarget) then some (false) else (if (mlife == nlife) then (if (mepoch == nepoch) then (if (mbase == nbase) then (if ((smallRecs mrecs) && (smallRecs nrecs)) then some ((allGo mrecs nrecs)) else none) else some (false)) else some (false)) else some (false)))))))))
noncomputable def Alike10.f (fuel : Nat) (mkind : Int) (mfrom0 : Int) (minc : Int) (mlo : Int) (mhi : Int) (mseq : Int) (mtarget : Int) (mlife : Int) (mepoch : Int) (mbase : Int) (mrecs : List (Int × Int × Int × (Int × Int) × Bool × List (Int × List Int))) (nkind : Int) (nfrom0 : Int) (ninc : Int) (nlo : Int) (nhi : Int) (nseq : Int) (ntarget : Int) (nlife : Int) (nepoch : Int) (nbase : Int) (nrecs : List (Int × Int × Int × (Int × Int) × Bool × List (Int × List Int))) : Option Bool := Alike10.b mkind mfrom0 minc mlo mhi mseq mtarget mlife mepoch mbase mrecs nkind nfrom0 ninc nlo nhi nseq ntarget nlife nepoch nbase nrecs
theorem Alike10.eq (fuel : Nat) (mkind : Int) (mfrom0 : Int) (minc : Int) (mlo : Int) (mhi : Int) (mseq : Int) (mtarget : Int) (mlife : Int) (mepoch : Int) (mbase : Int) (mrecs : List (Int × Int × Int × (Int × Int) × Bool × List (Int × List Int))) (nkind : Int) (nfrom0 : Int) (ninc : Int) (nlo : Int) (nhi : Int) (nseq : Int) (ntarget : Int) (nlife : Int) (nepoch : Int) (nbase : Int) (nrecs : List (Int × Int × Int × (Int × Int) × Bool × List (Int × List Int))) : (denF Alike10_E loopN fuel Try.f24 [.raw] [.agg [.d (.int .i64) mkind, .d (.int .i64) mfrom0, .d (.int .i64) minc, .d (.int .i64) mlo, .d (.int .i64) mhi, .d (.int .i64) mseq, .d (.int .i64) mtarget, .d (.int .i64) mlife, .d (.int .i64) mepoch, .d (.int .i64) mbase, .d (.sl (.pair (.int .i64) (.pair (.int .i64) (.pair (.int .i64) (.pair (.pair (.int .i64) (.int .i64)) (.pair .bool (.sl (.pair (.int .i64) (.sl (.int .u8)))))))))) mrecs], .agg [.d (.int .i64) nkind, .d (.int .i64) nfrom0, .d (.int .i64) ninc, .d (.int .i64) nlo, .d (.int .i64) nhi, .d (.int .i64) nseq, .d (.int .i64) ntarget, .d (.int .i64) nlife, .d (.int .i64) nepoch, .d (.int .i64) nbase, .d (.sl (.pair (.int .i64) (.pair (.int .i64) (.pair (.int .i64) (.pair (.pair (.int .i64) (.int .i64)) (.pair .bool (.sl (.pair (.int .i64) (.sl (.int .u8)))))))))) nrecs]] [] Alike10.k) = Alike10.f fuel mkind mfrom0 minc mlo mhi mseq mtarget mlife mepoch mbase mrecs nkind nfrom0 ninc nlo nhi nseq ntarget nlife nepoch nbase nrecs := by
  kernel_rfl


noncomputable def Gen1Back_E : Env := ⟨th, gam [(15, s_few10), (19, s_fitsL), (16, s_awake11), (17, s_enc), (22, s_decb), (24, s_alike10)], fun i => ⟨[], [], []⟩⟩
noncomputable def Gen1Back.k (rs : List AV) (os : List Den.Obj) : Option Bool :=
  match rs, os with
  | [.d .bool r0], [] => some r0
  | _, _ => none
noncomputable def Gen1Back.b (mkind : Int) (mfrom0 : Int) (minc : Int) (mlo : Int) (mhi : Int) (mseq : Int) (mtarget : Int) (mlife : Int) (mepoch : Int) (mbase : Int) (mrecs : List (Int × Int × Int × (Int × Int) × Bool × List (Int × List Int))) : Option Bool :=
  (if (smallRecs mrecs) then (if (!(few8 mrecs)) then some (true) else (if (smallRecs mrecs) then (if (!(fitsL mkind mfrom0 minc mlo mhi mseq mtarget mlife mepoch mbase mrecs)) then some (true) else (if (smallRecs mrecs) then (if (inB (encF mkind mfrom0 minc mlo mhi mseq mtarget mlife mepoch mbase mrecs).1) then (match (veil (Option.some (decF (encF mkind mfrom0 minc mlo mhi mseq mtarget mlife mepoch mbase mrecs).1))) with | none => none | some y0 => (if ((encF mkind mfrom0 minc mlo mhi mseq mtarget mlife mepoch mbase mrecs).2 == (0 : Int)) then (if (y0.2.2.2.2.2.2.2.2 == (0 : Int)) then (if ((smallRecs y0.2.2.2.2.2.2.2.1) && (smallRecs mrecs)) then (if ((y0.1 == mkind) && ((y0.2.1 == mfrom0) && ((y0.2.2.1 == minc) && ((y0.2.2.2.1 == mlo) && ((y0.2.2.2.2.1 == mhi) && ((y0.2.2.2.2.2.1 == mseq) && ((y0.2.2.2.2.2.2.1 == mtarget) && ((0 == mlife) && ((0 == mepoch) && ((0 == mbase) && (allGo y0.2.2.2.2.2.2.2.1 mrecs))))))))))) then some (true) else some (false)) else none) else some (false)) else some (false))) else none) else none)) else none)) else none)
noncomputable def Gen1Back.f (fuel : Nat) (mkind : Int) (mfrom0 : Int) (minc : Int) (mlo : Int) (mhi : Int) (mseq : Int) (mtarget : Int) (mlife : Int) (mepoch : Int) (mbase : Int) (mrecs : List (Int × Int × Int × (Int × Int) × Bool × List (Int × List Int))) : Option Bool := Gen1Back.b mkind mfrom0 minc mlo mhi mseq mtarget mlife mepoch mbase mrecs
theorem Gen1Back.eq (fuel : Nat) (mkind : Int) (mfrom0 : Int) (minc : Int) (mlo : Int) (mhi : Int) (mseq : Int) (mtarget : Int) (mlife : Int) (mepoch : Int) (mbase : Int) (mrecs : List (Int × Int × Int × (Int × Int) × Bool × List (Int × List Int))) : (denF Gen1Back_E loopN fuel Try.f6 [.raw] [.agg [.d (.int .i64) mkind, .d (.int .i64) mfrom0, .d (.int .i64) minc, .d (.int .i64) mlo, .d (.int .i64) mhi, .d (.int .i64) mseq, .d (.int .i64) mtarget, .d (.int .i64) mlife, .d (.int .i64) mepoch, .d (.int .i64) mbase, .d (.sl (.pair (.int .i64) (.pair (.int .i64) (.pair (.int .i64) (.pair (.pair (.int .i64) (.int .i64)) (.pair .bool (.sl (.pair (.int .i64) (.sl (.int .u8)))))))))) mrecs]] [] Gen1Back.k) = Gen1Back.f fuel mkind mfrom0 minc mlo mhi mseq mtarget mlife mepoch mbase mrecs := by
  kernel_rfl


end Go.Proofs.Ytlmljpmohljefaa
