/- printed by denfn.py -/
import Derived.Test.YtlmljpmohljefaaTh
import Derived.Test.YtlmljpmohljefaaS9
set_option linter.unusedVariables false
namespace Go.Proofs.Ytlmljpmohljefaa
open Go.Den
noncomputable def bagLen (b : List (Int × List Int)) : Int := ((b.map fun x => 3 + x.2.length).sum : Nat)
noncomputable def recLen (r : (Int × Int × Int × (Int × Int) × Bool × List (Int × List Int))) : Int := 23 + bagLen r.2.2.2.2.2
noncomputable def recsLen : List (Int × Int × Int × (Int × Int) × Bool × List (Int × List Int)) → Int
  | [] => 0
  | r :: l => recLen r + recsLen l
noncomputable def size2 (kind from0 inc lo hi seq target life epoch base : Int) (recs : List (Int × Int × Int × (Int × Int) × Bool × List (Int × List Int))) : Int :=
  if !validF kind from0 inc lo hi seq target life epoch base recs then 0 else 22 + (if hasF kind 0 then 5 else 0) + (if hasF kind 1 then 5 else 0) + recsLen recs
noncomputable def fit2Go : List (Int × Int × Int × (Int × Int) × Bool × List (Int × List Int)) → Bool
  | [] => true
  | r :: l => if decide (r.2.1 > 4294967295) then false else fit2Go l
noncomputable def fits2 (kind from0 inc lo hi seq target life epoch base : Int) (recs : List (Int × Int × Int × (Int × Int) × Bool × List (Int × List Int))) : Bool :=
  if !validF kind from0 inc lo hi seq target life epoch base recs || (kind == 9 || (epoch != 0 || decide (size2 kind from0 inc lo hi seq target life epoch base recs > 65499))) then false else fit2Go recs
noncomputable def bagFit (b : List (Int × List Int)) : Bool := bagOk b && smallBag b
noncomputable def numOk (n v : Int) : Bool := decide (1 ≤ n) && (decide (n ≤ 7) && (decide (0 ≤ v) && decide (v < 9223372036854775808)))
noncomputable def tagOk (t : Int) : Bool := decide (0 ≤ t) && decide (t ≤ 255)
noncomputable def s_rsz2 : Den.Sum := ⟨[.dat (.pair (.int .i64) (.pair (.int .i64) (.pair (.int .i64) (.pair (.pair (.int .i64) (.int .i64)) (.pair .bool (.sl (.pair (.int .i64) (.sl (.int .u8))))))))) true], fun args objs κ => match args, objs with
  | [.agg [.d (.int .i64) rid, .d (.int .i64) rinc, .d (.int .i64) rst, .d (.int .i64) rlo, .d (.int .i64) rhi, .d .bool rcut, .d (.sl (.pair (.int .i64) (.sl (.int .u8)))) rbag]], [] => if bagFit rbag = true then κ [.d (.int .i64) (recLen (rid, rinc, rst, (rlo, rhi), rcut, rbag))] [] else none
  | _, _ => none⟩
noncomputable def s_size2 : Den.Sum := ⟨[.dat (.pair (.int .i64) (.pair (.int .i64) (.pair (.int .i64) (.pair (.pair (.int .i64) (.int .i64)) (.pair (.int .i64) (.pair (.int .i64) (.pair (.int .i64) (.pair (.int .i64) (.pair (.int .i64) (.sl (.pair (.int .i64) (.pair (.int .i64) (.pair (.int .i64) (.pair (.pair (.int .i64) (.int .i64)) (.pair .bool (.sl (.pair (.int .i64) (.sl (.int .u8))))))))))))))))))) true], fun args objs κ => match args, objs with
  | [.agg [.d (.int .i64) mkind, .d (.int .i64) mfrom0, .d (.int .i64) minc, .d (.int .i64) mlo, .d (.int .i64) mhi, .d (.int .i64) mseq, .d (.int .i64) mtarget, .d (.int .i64) mlife, .d (.int .i64) mepoch, .d (.int .i64) mbase, .d (.sl (.pair (.int .i64) (.pair (.int .i64) (.pair (.int .i64) (.pair (.pair (.int .i64) (.int .i64)) (.pair .bool (.sl (.pair (.int .i64) (.sl (.int .u8)))))))))) mrecs]], [] => if smallRecs mrecs = true then κ [.d (.int .i64) (size2 mkind mfrom0 minc mlo mhi mseq mtarget mlife mepoch mbase mrecs)] [] else none
  | _, _ => none⟩
noncomputable def s_fits2 : Den.Sum := ⟨[.dat (.pair (.int .i64) (.pair (.int .i64) (.pair (.int .i64) (.pair (.pair (.int .i64) (.int .i64)) (.pair (.int .i64) (.pair (.int .i64) (.pair (.int .i64) (.pair (.int .i64) (.pair (.int .i64) (.sl (.pair (.int .i64) (.pair (.int .i64) (.pair (.int .i64) (.pair (.pair (.int .i64) (.int .i64)) (.pair .bool (.sl (.pair (.int .i64) (.sl (.int .u8))))))))))))))))))) true], fun args objs κ => match args, objs with
  | [.agg [.d (.int .i64) mkind, .d (.int .i64) mfrom0, .d (.int .i64) minc, .d (.int .i64) mlo, .d (.int .i64) mhi, .d (.int .i64) mseq, .d (.int .i64) mtarget, .d (.int .i64) mlife, .d (.int .i64) mepoch, .d (.int .i64) mbase, .d (.sl (.pair (.int .i64) (.pair (.int .i64) (.pair (.int .i64) (.pair (.pair (.int .i64) (.int .i64)) (.pair .bool (.sl (.pair (.int .i64) (.sl (.int .u8)))))))))) mrecs]], [] => if smallRecs mrecs = true then κ [.d .bool (fits2 mkind mfrom0 minc mlo mhi mseq mtarget mlife mepoch mbase mrecs)] [] else none
  | _, _ => none⟩
noncomputable def s_item13 : Den.Sum := ⟨[.own 5 (.int .u8), .raw, .raw, .raw], fun args objs κ => match args, objs with
  | [.row 0, .d (.int .i64) t, .d (.int .i64) n, .d (.int .i64) v], [.row 5 (.int .u8) l false] => if numOk n v = true ∧ tagOk t = true ∧ roomy l = true then κ [.row 1] [.gone, .row 5 (.int .u8) (l ++ (t :: 0 :: n :: be n.toNat v)) false] else none
  | _, _ => none⟩
noncomputable def s_tnum : Den.Sum := ⟨[.raw, .raw, .raw], fun args objs κ => match args, objs with
  | [.d (.int .i64) t, .d (.int .i64) n, .d (.int .i64) v], [] => if fitsF n v = true then κ [.agg [.d (.int .i64) t, .d (.sl (.int .u8)) (be n.toNat v)]] [] else none
  | _, _ => none⟩
noncomputable def RSize2_E : Env := ⟨th, gam [], fun i => if i = 3 then ⟨[3, 7, 8, 9], [], []⟩ else ⟨[], [], []⟩⟩
noncomputable def RSize2.k (rs : List AV) (os : List Den.Obj) : Option Int :=
  match rs, os with
  | [.d (.int .i64) r0], [] => some r0
  | _, _ => none
noncomputable def RSize2.s3 (rid : Int) (rinc : Int) (rst : Int) (rlo : Int) (rhi : Int) (rcut : Bool) (rbag : List (Int × List Int)) (x0 : Int) (x1 : Int) (x2 : Int) : St := ⟨[.dead, .dead, .dead, .d (.int .i64) x0, .dead, .dead, .dead, .d (.sl (.pair (.int .i64) (.sl (.int .u8)))) (rbag), .d (.int .i64) x1, .d (.int .i64) x2, .dead, .dead, .dead, .dead, .dead, .dead, .dead, .dead, .dead, .dead, .dead], ofL [], 0⟩
noncomputable def RSize2.b3 (rid : Int) (rinc : Int) (rst : Int) (rlo : Int) (rhi : Int) (rcut : Bool) (rbag : List (Int × List Int)) (A3 : Int → Int → Int → Option Int) (x0 : Int) (x1 : Int) (x2 : Int) : Option Int :=
  (if (decide (x2 < x1)) then (match (idx rbag x2) with | none => none | some y3 => A3 (Go.IntKind.wrap .i64 (x0 + (Go.IntKind.wrap .i64 ((3 : Int) + ((((List.length y3.2)) : Nat) : Int))))) x1 (Go.IntKind.wrap .i64 (x2 + (1 : Int)))) else some (x0))
noncomputable def RSize2.l3 (fuel : Nat) (rid : Int) (rinc : Int) (rst : Int) (rlo : Int) (rhi : Int) (rcut : Bool) (rbag : List (Int × List Int)) : Nat → Int → Int → Int → Option Int
  | 0, _, _, _ => none
  | k + 1, x0, x1, x2 => RSize2.b3 rid rinc rst rlo rhi rcut rbag (RSize2.l3 fuel rid rinc rst rlo rhi rcut rbag k) x0 x1 x2
noncomputable def RSize2.b (rid : Int) (rinc : Int) (rst : Int) (rlo : Int) (rhi : Int) (rcut : Bool) (rbag : List (Int × List Int)) (E3 : Int → Int → Int → Option Int) : Option Int :=
  E3 (23 : Int) ((((List.length rbag)) : Nat) : Int) (0 : Int)
noncomputable def RSize2.f (fuel : Nat) (rid : Int) (rinc : Int) (rst : Int) (rlo : Int) (rhi : Int) (rcut : Bool) (rbag : List (Int × List Int)) : Option Int := RSize2.b rid rinc rst rlo rhi rcut rbag (RSize2.l3 fuel rid rinc rst rlo rhi rcut rbag fuel)
theorem RSize2.l3_eq (fuel : Nat) (rid : Int) (rinc : Int) (rst : Int) (rlo : Int) (rhi : Int) (rcut : Bool) (rbag : List (Int × List Int)) : ∀ (k : Nat) (x0 : Int) (x1 : Int) (x2 : Int), lp RSize2_E fuel Try.f65 [.raw] 0 RSize2.k 3 [] k (RSize2.s3 rid rinc rst rlo rhi rcut rbag x0 x1 x2) = RSize2.l3 fuel rid rinc rst rlo rhi rcut rbag k x0 x1 x2 := by
  intro k
  induction k with
  | zero => intro x0 x1 x2; rfl
  | succ k ih =>
    intro x0 x1 x2
    have h : lp RSize2_E fuel Try.f65 [.raw] 0 RSize2.k 3 [] (k + 1) (RSize2.s3 rid rinc rst rlo rhi rcut rbag x0 x1 x2) = RSize2.b3 rid rinc rst rlo rhi rcut rbag (fun x0 x1 x2 => lp RSize2_E fuel Try.f65 [.raw] 0 RSize2.k 3 [] k (RSize2.s3 rid rinc rst rlo rhi rcut rbag x0 x1 x2)) x0 x1 x2 := by kernel_rfl
    rw [h]
    have e3 : (fun x0 x1 x2 => lp RSize2_E fuel Try.f65 [.raw] 0 RSize2.k 3 [] k (RSize2.s3 rid rinc rst rlo rhi rcut rbag x0 x1 x2)) = RSize2.l3 fuel rid rinc rst rlo rhi rcut rbag k := (funext fun x0 => (funext fun x1 => (funext fun x2 => ih x0 x1 x2)))
    rw [e3]
    rfl
theorem RSize2.eq (fuel : Nat) (rid : Int) (rinc : Int) (rst : Int) (rlo : Int) (rhi : Int) (rcut : Bool) (rbag : List (Int × List Int)) : (denF RSize2_E loopN fuel Try.f65 [.raw] [.agg [.d (.int .i64) rid, .d (.int .i64) rinc, .d (.int .i64) rst, .d (.int .i64) rlo, .d (.int .i64) rhi, .d .bool rcut, .d (.sl (.pair (.int .i64) (.sl (.int .u8)))) rbag]] [] RSize2.k) = RSize2.f fuel rid rinc rst rlo rhi rcut rbag := by
  have h : (denF RSize2_E loopN fuel Try.f65 [.raw] [.agg [.d (.int .i64) rid, .d (.int .i64) rinc, .d (.int .i64) rst, .d (.int .i64) rlo, .d (.int .i64) rhi, .d .bool rcut, .d (.sl (.pair (.int .i64) (.sl (.int .u8)))) rbag]] [] RSize2.k) = RSize2.b rid rinc rst rlo rhi rcut rbag (fun x0 x1 x2 => lp RSize2_E fuel Try.f65 [.raw] 0 RSize2.k 3 [] fuel (RSize2.s3 rid rinc rst rlo rhi rcut rbag x0 x1 x2)) := by kernel_rfl
  rw [h]
  have e3 : (fun x0 x1 x2 => lp RSize2_E fuel Try.f65 [.raw] 0 RSize2.k 3 [] fuel (RSize2.s3 rid rinc rst rlo rhi rcut rbag x0 x1 x2)) = RSize2.l3 fuel rid rinc rst rlo rhi rcut rbag fuel := (funext fun x0 => (funext fun x1 => (funext fun x2 => RSize2.l3_eq fuel rid rinc rst rlo rhi rcut rbag fuel x0 x1 x2)))
  rw [e3]
  rfl


noncomputable def Size2_E : Env := ⟨th, gam [(20, s_valid), (50, s_has), (65, s_rsz2)], fun i => if i = 9 then ⟨[3, 20, 21, 22], [], []⟩ else ⟨[], [], []⟩⟩
noncomputable def Size2.k (rs : List AV) (os : List Den.Obj) : Option Int :=
  match rs, os with
  | [.d (.int .i64) r0], [] => some r0
  | _, _ => none
noncomputable def Size2.s9 (mkind : Int) (mfrom0 : Int) (minc : Int) (mlo : Int) (mhi : Int) (mseq : Int) (mtarget : Int) (mlife : Int) (mepoch : Int) (mbase : Int) (mrecs : List (Int × Int × Int × (Int × Int) × Bool × List (Int × List Int))) (x0 : Int) (x1 : Int) (x2 : Int) : St := ⟨[.dead, .dead, .dead, .d (.int .i64) x0, .dead, .dead, .dead, .dead, .dead, .dead, .dead, .dead, .dead, .dead, .dead, .dead, .dead, .dead, .dead, .dead, .d (.sl (.pair (.int .i64) (.pair (.int .i64) (.pair (.int .i64) (.pair (.pair (.int .i64) (.int .i64)) (.pair .bool (.sl (.pair (.int .i64) (.sl (.int .u8)))))))))) (mrecs), .d (.int .i64) x1, .d (.int .i64) x2, .dead, .dead, .dead, .dead, .dead, .dead, .dead, .dead, .dead], ofL [], 0⟩
noncomputable def Size2.b9 (mkind : Int) (mfrom0 : Int) (minc : Int) (mlo : Int) (mhi : Int) (mseq : Int) (mtarget : Int) (mlife : Int) (mepoch : Int) (mbase : Int) (mrecs : List (Int × Int × Int × (Int × Int) × Bool × List (Int × List Int))) (A9 : Int → Int → Int → Option Int) (x0 : Int) (x1 : Int) (x2 : Int) : Option Int :=
  (if (decide (x2 < x1)) then (match (idx mrecs x2) with | none => none | some y3 => (if (bagFit y3.2.2.2.2.2) then A9 (Go.IntKind.wrap .i64 (x0 + (recLen (y3.1, (y3.2.1, (y3.2.2.1, ((y3.2.2.2.1.1, y3.2.2.2.1.2), (y3.2.2.2.2.1, y3.2.2.2.2.2)))))))) x1 (Go.IntKind.wrap .i64 (x2 + (1 : Int))) else none)) else some (x0))
noncomputable def Size2.l9 (fuel : Nat) (mkind : Int) (mfrom0 : Int) (minc : Int) (mlo : Int) (mhi : Int) (mseq : Int) (mtarget : Int) (mlife : Int) (mepoch : Int) (mbase : Int) (mrecs : List (Int × Int × Int × (Int × Int) × Bool × List (Int × List Int))) : Nat → Int → Int → Int → Option Int
  | 0, _, _, _ => none
  | k + 1, x0, x1, x2 => Size2.b9 mkind mfrom0 minc mlo mhi mseq mtarget mlife mepoch mbase mrecs (Size2.l9 fuel mkind mfrom0 minc mlo mhi mseq mtarget mlife mepoch mbase mrecs k) x0 x1 x2
noncomputable def Size2.b (mkind : Int) (mfrom0 : Int) (minc : Int) (mlo : Int) (mhi : Int) (mseq : Int) (mtarget : Int) (mlife : Int) (mepoch : Int) (mbase : Int) (mrecs : List (Int × Int × Int × (Int × Int) × Bool × List (Int × List Int))) (E9 : Int → Int → Int → Option Int) : Option Int :=
  (if (smallRecs mrecs) then (if (!(validF mkind mfrom0 minc mlo mhi mseq mtarget mlife mepoch mbase mrecs)) then some ((0 : Int)) else (if (hasF mkind (0 : Int)) then (if (hasF mkind (1 : Int)) then E9 (Go.IntKind.wrap .i64 ((Go.IntKind.wrap .i64 ((22 : Int) + (5 : Int))) + (5 : Int))) ((((List.length mrecs)) : Nat) : Int) (0 : Int) else E9 (Go.IntKind.wrap .i64 ((22 : Int) + (5 : Int))) ((((List.length mrecs)) : Nat) : Int) (0 : Int)) else (if (hasF mkind (1 : Int)) then E9 (Go.IntKind.wrap .i64 ((22 : Int) + (5 : Int))) ((((List.length mrecs)) : Nat) : Int) (0 : Int) else E9 (22 : Int) ((((List.length mrecs)) : Nat) : Int) (0 : Int)))) else none)
noncomputable def Size2.f (fuel : Nat) (mkind : Int) (mfrom0 : Int) (minc : Int) (mlo : Int) (mhi : Int) (mseq : Int) (mtarget : Int) (mlife : Int) (mepoch : Int) (mbase : Int) (mrecs : List (Int × Int × Int × (Int × Int) × Bool × List (Int × List Int))) : Option Int := Size2.b mkind mfrom0 minc mlo mhi mseq mtarget mlife mepoch mbase mrecs (Size2.l9 fuel mkind mfrom0 minc mlo mhi mseq mtarget mlife mepoch mbase mrecs fuel)
theorem Size2.l9_eq (fuel : Nat) (mkind : Int) (mfrom0 : Int) (minc : Int) (mlo : Int) (mhi : Int) (mseq : Int) (mtarget : Int) (mlife : Int) (mepoch : Int) (mbase : Int) (mrecs : List (Int × Int × Int × (Int × Int) × Bool × List (Int × List Int))) : ∀ (k : Nat) (x0 : Int) (x1 : Int) (x2 : Int), lp Size2_E fuel Try.f29 [.raw] 0 Size2.k 9 [] k (Size2.s9 mkind mfrom0 minc mlo mhi mseq mtarget mlife mepoch mbase mrecs x0 x1 x2) = Size2.l9 fuel mkind mfrom0 minc mlo mhi mseq mtarget mlife mepoch mbase mrecs k x0 x1 x2 := by
  intro k
  induction k with
  | zero => intro x0 x1 x2; rfl
  | succ k ih =>
    intro x0 x1 x2
    have h : lp Size2_E fuel Try.f29 [.raw] 0 Size2.k 9 [] (k + 1) (Size2.s9 mkind mfrom0 minc mlo mhi mseq mtarget mlife mepoch mbase mrecs x0 x1 x2) = Size2.b9 mkind mfrom0 minc mlo mhi mseq mtarget mlife mepoch mbase mrecs (fun x0 x1 x2 => lp Size2_E fuel Try.f29 [.raw] 0 Size2.k 9 [] k (Size2.s9 mkind mfrom0 minc mlo mhi mseq mtarget mlife mepoch mbase mrecs x0 x1 x2)) x0 x1 x2 := by kernel_rfl
    rw [h]
    have e9 : (fun x0 x1 x2 => lp Size2_E fuel Try.f29 [.raw] 0 Size2.k 9 [] k (Size2.s9 mkind mfrom0 minc mlo mhi mseq mtarget mlife mepoch mbase mrecs x0 x1 x2)) = Size2.l9 fuel mkind mfrom0 minc mlo mhi mseq mtarget mlife mepoch mbase mrecs k := (funext fun x0 => (funext fun x1 => (funext fun x2 => ih x0 x1 x2)))
    rw [e9]
    rfl
theorem Size2.eq (fuel : Nat) (mkind : Int) (mfrom0 : Int) (minc : Int) (mlo : Int) (mhi : Int) (mseq : Int) (mtarget : Int) (mlife : Int) (mepoch : Int) (mbase : Int) (mrecs : List (Int × Int × Int × (Int × Int) × Bool × List (Int × List Int))) : (denF Size2_E loopN fuel Try.f29 [.raw] [.agg [.d (.int .i64) mkind, .d (.int .i64) mfrom0, .d (.int .i64) minc, .d (.int .i64) mlo, .d (.int .i64) mhi, .d (.int .i64) mseq, .d (.int .i64) mtarget, .d (.int .i64) mlife, .d (.int .i64) mepoch, .d (.int .i64) mbase, .d (.sl (.pair (.int .i64) (.pair (.int .i64) (.pair (.int .i64) (.pair (.pair (.int .i64) (.int .i64)) (.pair .bool (.sl (.pair (.int .i64) (.sl (.int .u8)))))))))) mrecs]] [] Size2.k) = Size2.f fuel mkind mfrom0 minc mlo mhi mseq mtarget mlife mepoch mbase mrecs := by
  have h : (denF Size2_E loopN fuel Try.f29 [.raw] [.agg [.d (.int .i64) mkind, .d (.int .i64) mfrom0, .d (.int .i64) minc, .d (.int .i64) mlo, .d (.int .i64) mhi, .d (.int .i64) mseq, .d (.int .i64) mtarget, .d (.int .i64) mlife, .d (.int .i64) mepoch, .d (.int .i64) mbase, .d (.sl (.pair (.int .i64) (.pair (.int .i64) (.pair (.int .i64) (.pair (.pair (.int .i64) (.int .i64)) (.pair .bool (.sl (.pair (.int .i64) (.sl (.int .u8)))))))))) mrecs]] [] Size2.k) = Size2.b mkind mfrom0 minc mlo mhi mseq mtarget mlife mepoch mbase mrecs (fun x0 x1 x2 => lp Size2_E fuel Try.f29 [.raw] 0 Size2.k 9 [] fuel (Size2.s9 mkind mfrom0 minc mlo mhi mseq mtarget mlife mepoch mbase mrecs x0 x1 x2)) := by kernel_rfl
  rw [h]
  have e9 : (fun x0 x1 x2 => lp Size2_E fuel Try.f29 [.raw] 0 Size2.k 9 [] fuel (Size2.s9 mkind mfrom0 minc mlo mhi mseq mtarget mlife mepoch mbase mrecs x0 x1 x2)) = Size2.l9 fuel mkind mfrom0 minc mlo mhi mseq mtarget mlife mepoch mbase mrecs fuel := (funext fun x0 => (funext fun x1 => (funext fun x2 => Size2.l9_eq fuel mkind mfrom0 minc mlo mhi mseq mtarget mlife mepoch mbase mrecs fuel x0 x1 x2)))
  rw [e9]
  rfl


noncomputable def Fits2_E : Env := ⟨th, gam [(20, s_valid), (29, s_size2)], fun i => if i = 4 then ⟨[24, 25, 26], [], []⟩ else ⟨[], [], []⟩⟩
noncomputable def Fits2.k (rs : List AV) (os : List Den.Obj) : Option Bool :=
  match rs, os with
  | [.d .bool r0], [] => some r0
  | _, _ => none
noncomputable def Fits2.s4 (mkind : Int) (mfrom0 : Int) (minc : Int) (mlo : Int) (mhi : Int) (mseq : Int) (mtarget : Int) (mlife : Int) (mepoch : Int) (mbase : Int) (mrecs : List (Int × Int × Int × (Int × Int) × Bool × List (Int × List Int))) (x0 : Int) (x1 : Int) : St := ⟨[.dead, .dead, .dead, .dead, .dead, .dead, .dead, .dead, .dead, .dead, .dead, .dead, .dead, .dead, .dead, .dead, .dead, .dead, .dead, .dead, .dead, .dead, .dead, .dead, .d (.sl (.pair (.int .i64) (.pair (.int .i64) (.pair (.int .i64) (.pair (.pair (.int .i64) (.int .i64)) (.pair .bool (.sl (.pair (.int .i64) (.sl (.int .u8)))))))))) (mrecs), .d (.int .i64) x0, .d (.int .i64) x1, .dead, .dead, .dead, .dead, .dead, .dead, .dead], ofL [], 0⟩
noncomputable def Fits2.b4 (mkind : Int) (mfrom0 : Int) (minc : Int) (mlo : Int) (mhi : Int) (mseq : Int) (mtarget : Int) (mlife : Int) (mepoch : Int) (mbase : Int) (mrecs : List (Int × Int × Int × (Int × Int) × Bool × List (Int × List Int))) (A4 : Int → Int → Option Bool) (x0 : Int) (x1 : Int) : Option Bool :=
  (if (decide (x1 < x0)) then (match (idx mrecs x1) with | none => none | some y2 => (if (decide (y2.2.1 > (veil (4294967295 : Int)))) then some (false) else A4 x0 (Go.IntKind.wrap .i64 (x1 + (1 : Int))))) else some (true))
noncomputable def Fits2.l4 (fuel : Nat) (mkind : Int) (mfrom0 : Int) (minc : Int) (mlo : Int) (mhi : Int) (mseq : Int) (mtarget : Int) (mlife : Int) (mepoch : Int) (mbase : Int) (mrecs : List (Int × Int × Int × (Int × Int) × Bool × List (Int × List Int))) : Nat → Int → Int → Option Bool
  | 0, _, _ => none
  | k + 1, x0, x1 => Fits2.b4 mkind mfrom0 minc mlo mhi mseq mtarget mlife mepoch mbase mrecs (Fits2.l4 fuel mkind mfrom0 minc mlo mhi mseq mtarget mlife mepoch mbase mrecs k) x0 x1
noncomputable def Fits2.b (mkind : Int) (mfrom0 : Int) (minc : Int) (mlo : Int) (mhi : Int) (mseq : Int) (mtarget : Int) (mlife : Int) (mepoch : Int) (mbase : Int) (mrecs : List (Int × Int × Int × (Int × Int) × Bool × List (Int × List Int))) (E4 : Int → Int → Option Bool) : Option Bool :=
  (if (smallRecs mrecs) then (if (!(validF mkind mfrom0 minc mlo mhi mseq mtarget mlife mepoch mbase mrecs)) then some (false) else (if (mkind == (9 : Int)) then some (false) else (if (mepoch != (0 : Int)) then some (false) else (if (smallRecs mrecs) then (if (decide ((size2 mkind mfrom0 minc mlo mhi mseq mtarget mlife mepoch mbase mrecs) > (65499 : Int))) then some (false) else E4 ((((List.length mrecs)) : Nat) : Int) (0 : Int)) else none)))) else none)
noncomputable def Fits2.f (fuel : Nat) (mkind : Int) (mfrom0 : Int) (minc : Int) (mlo : Int) (mhi : Int) (mseq : Int) (mtarget : Int) (mlife : Int) (mepoch : Int) (mbase : Int) (mrecs : List (Int × Int × Int × (Int × Int) × Bool × List (Int × List Int))) : Option Bool := Fits2.b mkind mfrom0 minc mlo mhi mseq mtarget mlife mepoch mbase mrecs (Fits2.l4 fuel mkind mfrom0 minc mlo mhi mseq mtarget mlife mepoch mbase mrecs fuel)
theorem Fits2.l4_eq (fuel : Nat) (mkind : Int) (mfrom0 : Int) (minc : Int) (mlo : Int) (mhi : Int) (mseq : Int) (mtarget : Int) (mlife : Int) (mepoch : Int) (mbase : Int) (mrecs : List (Int × Int × Int × (Int × Int) × Bool × List (Int × List Int))) : ∀ (k : Nat) (x0 : Int) (x1 : Int), lp Fits2_E fuel Try.f27 [.raw] 0 Fits2.k 4 [] k (Fits2.s4 mkind mfrom0 minc mlo mhi mseq mtarget mlife mepoch mbase mrecs x0 x1) = Fits2.l4 fuel mkind mfrom0 minc mlo mhi mseq mtarget mlife mepoch mbase mrecs k x0 x1 := by
  intro k
  induction k with
  | zero => intro x0 x1; rfl
  | succ k ih =>
    intro x0 x1
    have h : lp Fits2_E fuel Try.f27 [.raw] 0 Fits2.k 4 [] (k + 1) (Fits2.s4 mkind mfrom0 minc mlo mhi mseq mtarget mlife mepoch mbase mrecs x0 x1) = Fits2.b4 mkind mfrom0 minc mlo mhi mseq mtarget mlife mepoch mbase mrecs (fun x0 x1 => lp Fits2_E fuel Try.f27 [.raw] 0 Fits2.k 4 [] k (Fits2.s4 mkind mfrom0 minc mlo mhi mseq mtarget mlife mepoch mbase mrecs x0 x1)) x0 x1 := by kernel_rfl
    rw [h]
    have e4 : (fun x0 x1 => lp Fits2_E fuel Try.f27 [.raw] 0 Fits2.k 4 [] k (Fits2.s4 mkind mfrom0 minc mlo mhi mseq mtarget mlife mepoch mbase mrecs x0 x1)) = Fits2.l4 fuel mkind mfrom0 minc mlo mhi mseq mtarget mlife mepoch mbase mrecs k := (funext fun x0 => (funext fun x1 => ih x0 x1))
    rw [e4]
    rfl
theorem Fits2.eq (fuel : Nat) (mkind : Int) (mfrom0 : Int) (minc : Int) (mlo : Int) (mhi : Int) (mseq : Int) (mtarget : Int) (mlife : Int) (mepoch : Int) (mbase : Int) (mrecs : List (Int × Int × Int × (Int × Int) × Bool × List (Int × List Int))) : (denF Fits2_E loopN fuel Try.f27 [.raw] [.agg [.d (.int .i64) mkind, .d (.int .i64) mfrom0, .d (.int .i64) minc, .d (.int .i64) mlo, .d (.int .i64) mhi, .d (.int .i64) mseq, .d (.int .i64) mtarget, .d (.int .i64) mlife, .d (.int .i64) mepoch, .d (.int .i64) mbase, .d (.sl (.pair (.int .i64) (.pair (.int .i64) (.pair (.int .i64) (.pair (.pair (.int .i64) (.int .i64)) (.pair .bool (.sl (.pair (.int .i64) (.sl (.int .u8)))))))))) mrecs]] [] Fits2.k) = Fits2.f fuel mkind mfrom0 minc mlo mhi mseq mtarget mlife mepoch mbase mrecs := by
  have h : (denF Fits2_E loopN fuel Try.f27 [.raw] [.agg [.d (.int .i64) mkind, .d (.int .i64) mfrom0, .d (.int .i64) minc, .d (.int .i64) mlo, .d (.int .i64) mhi, .d (.int .i64) mseq, .d (.int .i64) mtarget, .d (.int .i64) mlife, .d (.int .i64) mepoch, .d (.int .i64) mbase, .d (.sl (.pair (.int .i64) (.pair (.int .i64) (.pair (.int .i64) (.pair (.pair (.int .i64) (.int .i64)) (.pair .bool (.sl (.pair (.int .i64) (.sl (.int .u8)))))))))) mrecs]] [] Fits2.k) = Fits2.b mkind mfrom0 minc mlo mhi mseq mtarget mlife mepoch mbase mrecs (fun x0 x1 => lp Fits2_E fuel Try.f27 [.raw] 0 Fits2.k 4 [] fuel (Fits2.s4 mkind mfrom0 minc mlo mhi mseq mtarget mlife mepoch mbase mrecs x0 x1)) := by kernel_rfl
  rw [h]
  have e4 : (fun x0 x1 => lp Fits2_E fuel Try.f27 [.raw] 0 Fits2.k 4 [] fuel (Fits2.s4 mkind mfrom0 minc mlo mhi mseq mtarget mlife mepoch mbase mrecs x0 x1)) = Fits2.l4 fuel mkind mfrom0 minc mlo mhi mseq mtarget mlife mepoch mbase mrecs fuel := (funext fun x0 => (funext fun x1 => Fits2.l4_eq fuel mkind mfrom0 minc mlo mhi mseq mtarget mlife mepoch mbase mrecs fuel x0 x1))
  rw [e4]
  rfl


noncomputable def Item13_E : Env := ⟨th, gam [], fun i => if i = 3 then ⟨[0, 1, 2, 3, 9, 10], [], []⟩ else ⟨[], [], []⟩⟩
noncomputable def Item13.k (rs : List AV) (os : List Den.Obj) : Option (List Int) :=
  match rs, os with
  | [.row 1], [.gone, .row 5 (.int .u8) r0 false] => some r0
  | _, _ => none
noncomputable def Item13.s3 (t : Int) (n : Int) (v : Int) (l : List Int) (x0 : Int) (x1 : Int) (x2 : (List Int)) : St := ⟨[.row 0, .d (.int .i64) (t), .d (.int .i64) (n), .d (.int .i64) x0, .dead, .dead, .dead, .dead, .dead, .row 64, .d (.int .i64) x1, .dead, .dead, .dead, .dead, .dead, .dead, .dead, .dead, .dead, .dead, .dead, .dead, .dead, .dead, .dead, .dead, .dead, .dead, .dead, .dead, .dead, .dead, .dead, .dead, .dead], ofL [(0, .row 5 (.int .u8) (l) false), (64, .row 5 (.int .u8) x2 false)], 1⟩
noncomputable def Item13.b3 (t : Int) (n : Int) (v : Int) (l : List Int) (A3 : Int → Int → (List Int) → Option (List Int)) (x0 : Int) (x1 : Int) (x2 : (List Int)) : Option (List Int) :=
  (if (decide (x1 ≥ (0 : Int))) then (match (idx x2 x1) with | none => none | some y3 => (match (idx x2 x1) with | none => none | some y4 => A3 (Go.IntKind.wrap .i64 (Int.tdiv x0 (256 : Int))) (Go.IntKind.wrap .i64 (x1 - (1 : Int))) (List.set x2 (Int.toNat x1) (Go.IntKind.wrap .u8 (Int.tmod x0 (256 : Int)))))) else (if ((((List.length l) + (List.length ((Go.IntKind.wrap .u8 t) :: ((0 : Int) :: ((Go.IntKind.wrap .u8 n) :: ([] : List Int)))))) * (1 : Nat)) ≤ lim) then (if ((((List.length (l ++ ((Go.IntKind.wrap .u8 t) :: ((0 : Int) :: ((Go.IntKind.wrap .u8 n) :: ([] : List Int)))))) + (List.length x2)) * (1 : Nat)) ≤ lim) then some (((l ++ ((Go.IntKind.wrap .u8 t) :: ((0 : Int) :: ((Go.IntKind.wrap .u8 n) :: ([] : List Int))))) ++ x2)) else none) else none))
noncomputable def Item13.l3 (fuel : Nat) (t : Int) (n : Int) (v : Int) (l : List Int) : Nat → Int → Int → (List Int) → Option (List Int)
  | 0, _, _, _ => none
  | k + 1, x0, x1, x2 => Item13.b3 t n v l (Item13.l3 fuel t n v l k) x0 x1 x2
noncomputable def Item13.b (t : Int) (n : Int) (v : Int) (l : List Int) (E3 : Int → Int → (List Int) → Option (List Int)) : Option (List Int) :=
  (if (((0 : Int) ≤ n) ∧ ((n ≤ n) ∧ (((n * ((((1 : Nat)) : Nat) : Int)) ≤ (1099511627776 : Int)) ∧ (n ≤ (1099511627776 : Int))))) then E3 v (Go.IntKind.wrap .i64 (n - (1 : Int))) (List.replicate (Int.toNat n) (zeroI (Go.Den.Ty.int .u8))) else none)
noncomputable def Item13.f (fuel : Nat) (t : Int) (n : Int) (v : Int) (l : List Int) : Option (List Int) := Item13.b t n v l (Item13.l3 fuel t n v l fuel)
theorem Item13.l3_eq (fuel : Nat) (t : Int) (n : Int) (v : Int) (l : List Int) : ∀ (k : Nat) (x0 : Int) (x1 : Int) (x2 : (List Int)), lp Item13_E fuel Try.f66 [.own 5 (.int .u8)] 1 Item13.k 3 [] k (Item13.s3 t n v l x0 x1 x2) = Item13.l3 fuel t n v l k x0 x1 x2 := by
  intro k
  induction k with
  | zero => intro x0 x1 x2; rfl
  | succ k ih =>
    intro x0 x1 x2
    have h : lp Item13_E fuel Try.f66 [.own 5 (.int .u8)] 1 Item13.k 3 [] (k + 1) (Item13.s3 t n v l x0 x1 x2) = Item13.b3 t n v l (fun x0 x1 x2 => lp Item13_E fuel Try.f66 [.own 5 (.int .u8)] 1 Item13.k 3 [] k (Item13.s3 t n v l x0 x1 x2)) x0 x1 x2 := by kernel_rfl
    rw [h]
    have e3 : (fun x0 x1 x2 => lp Item13_E fuel Try.f66 [.own 5 (.int .u8)] 1 Item13.k 3 [] k (Item13.s3 t n v l x0 x1 x2)) = Item13.l3 fuel t n v l k := (funext fun x0 => (funext fun x1 => (funext fun x2 => ih x0 x1 x2)))
    rw [e3]
    rfl
theorem Item13.eq (fuel : Nat) (t : Int) (n : Int) (v : Int) (l : List Int) : (denF Item13_E loopN fuel Try.f66 [.own 5 (.int .u8)] [.row 0, .d (.int .i64) t, .d (.int .i64) n, .d (.int .i64) v] [.row 5 (.int .u8) l false] Item13.k) = Item13.f fuel t n v l := by
  have h : (denF Item13_E loopN fuel Try.f66 [.own 5 (.int .u8)] [.row 0, .d (.int .i64) t, .d (.int .i64) n, .d (.int .i64) v] [.row 5 (.int .u8) l false] Item13.k) = Item13.b t n v l (fun x0 x1 x2 => lp Item13_E fuel Try.f66 [.own 5 (.int .u8)] 1 Item13.k 3 [] fuel (Item13.s3 t n v l x0 x1 x2)) := by kernel_rfl
  rw [h]
  have e3 : (fun x0 x1 x2 => lp Item13_E fuel Try.f66 [.own 5 (.int .u8)] 1 Item13.k 3 [] fuel (Item13.s3 t n v l x0 x1 x2)) = Item13.l3 fuel t n v l fuel := (funext fun x0 => (funext fun x1 => (funext fun x2 => Item13.l3_eq fuel t n v l fuel x0 x1 x2)))
  rw [e3]
  rfl


noncomputable def TNum_E : Env := ⟨th, gam [(42, s_write), (43, s_num), (46, s_bytes)], fun i => ⟨[], [], []⟩⟩
noncomputable def TNum.k (rs : List AV) (os : List Den.Obj) : Option (Int × (List Int)) :=
  match rs, os with
  | [.agg [.d (.int .i64) r0, .d (.sl (.int .u8)) r1]], [] => some (r0, r1)
  | _, _ => none
noncomputable def TNum.b (t : Int) (n : Int) (v : Int) : Option (Int × (List Int)) :=
  (if (fitsF n v) then (if (roomy (be (Int.toNat n) v)) then some (t, (be (Int.toNat n) v)) else none) else none)
noncomputable def TNum.f (fuel : Nat) (t : Int) (n : Int) (v : Int) : Option (Int × (List Int)) := TNum.b t n v
theorem TNum.eq (fuel : Nat) (t : Int) (n : Int) (v : Int) : (denF TNum_E loopN fuel Try.f62 [.dat (.pair (.int .i64) (.sl (.int .u8))) true] [.d (.int .i64) t, .d (.int .i64) n, .d (.int .i64) v] [] TNum.k) = TNum.f fuel t n v := by
  kernel_rfl


end Go.Proofs.Ytlmljpmohljefaa
