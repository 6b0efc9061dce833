/- The codecs, P3: C11 K13 S10 C12 K14 K15 S11 C13 K16 S12 -/
import Derived.Test.YtlmljpmohljefaaTh
import Derived.Test.YtlmljpmohljefaaP2
/- printed by denfn.py -/
set_option linter.unusedVariables false
namespace Go.Proofs.Ytlmljpmohljefaa
open Go.Den
noncomputable def bagLen (b : List (Int × List Int)) : Int := ((b.map fun x => 3 + x.2.length).sum : Nat)
noncomputable def recLen (r : (Int × Int × Int × (Int × Int) × Bool × List (Int × List Int))) : Int := 23 + bagLen r.2.2.2.2.2
noncomputable def recsLen : List (Int × Int × Int × (Int × Int) × Bool × List (Int × List Int)) → Int
  | [] => 0
  | r :: l => recLen r + recsLen l
noncomputable def size2 (kind from0 inc lo hi seq target life epoch base : Int) (recs : List (Int × Int × Int × (Int × Int) × Bool × List (Int × List Int))) : Int :=
  if !validF kind from0 inc lo hi seq target life epoch base recs then 0 else 22 + (if hasF kind 0 then 5 else 0) + (if hasF kind 1 then 5 else 0) + recsLen recs
noncomputable def fit2Go : List (Int × Int × Int × (Int × Int) × Bool × List (Int × List Int)) → Bool
  | [] => true
  | r :: l => if decide (r.2.1 > 4294967295) then false else fit2Go l
noncomputable def fits2 (kind from0 inc lo hi seq target life epoch base : Int) (recs : List (Int × Int × Int × (Int × Int) × Bool × List (Int × List Int))) : Bool :=
  if !validF kind from0 inc lo hi seq target life epoch base recs || (kind == 9 || (epoch != 0 || decide (size2 kind from0 inc lo hi seq target life epoch base recs > 65499))) then false else fit2Go recs
noncomputable def bagFit (b : List (Int × List Int)) : Bool := bagOk b && smallBag b
noncomputable def numOk (n v : Int) : Bool := decide (1 ≤ n) && (decide (n ≤ 7) && (decide (0 ≤ v) && decide (v < 9223372036854775808)))
noncomputable def tagOk (t : Int) : Bool := decide (0 ≤ t) && decide (t ≤ 255)
noncomputable def s_rsz2 : Den.Sum := ⟨[.dat (.pair (.int .i64) (.pair (.int .i64) (.pair (.int .i64) (.pair (.pair (.int .i64) (.int .i64)) (.pair .bool (.sl (.pair (.int .i64) (.sl (.int .u8))))))))) true], fun args objs κ => match args, objs with
  | [.agg [.d (.int .i64) rid, .d (.int .i64) rinc, .d (.int .i64) rst, .d (.int .i64) rlo, .d (.int .i64) rhi, .d .bool rcut, .d (.sl (.pair (.int .i64) (.sl (.int .u8)))) rbag]], [] => if bagFit rbag = true then κ [.d (.int .i64) (recLen (rid, rinc, rst, (rlo, rhi), rcut, rbag))] [] else none
  | _, _ => none⟩
noncomputable def s_size2 : Den.Sum := ⟨[.dat (.pair (.int .i64) (.pair (.int .i64) (.pair (.int .i64) (.pair (.pair (.int .i64) (.int .i64)) (.pair (.int .i64) (.pair (.int .i64) (.pair (.int .i64) (.pair (.int .i64) (.pair (.int .i64) (.sl (.pair (.int .i64) (.pair (.int .i64) (.pair (.int .i64) (.pair (.pair (.int .i64) (.int .i64)) (.pair .bool (.sl (.pair (.int .i64) (.sl (.int .u8))))))))))))))))))) true], fun args objs κ => match args, objs with
  | [.agg [.d (.int .i64) mkind, .d (.int .i64) mfrom0, .d (.int .i64) minc, .d (.int .i64) mlo, .d (.int .i64) mhi, .d (.int .i64) mseq, .d (.int .i64) mtarget, .d (.int .i64) mlife, .d (.int .i64) mepoch, .d (.int .i64) mbase, .d (.sl (.pair (.int .i64) (.pair (.int .i64) (.pair (.int .i64) (.pair (.pair (.int .i64) (.int .i64)) (.pair .bool (.sl (.pair (.int .i64) (.sl (.int .u8)))))))))) mrecs]], [] => if smallRecs mrecs = true then κ [.d (.int .i64) (size2 mkind mfrom0 minc mlo mhi mseq mtarget mlife mepoch mbase mrecs)] [] else none
  | _, _ => none⟩
noncomputable def s_fits2 : Den.Sum := ⟨[.dat (.pair (.int .i64) (.pair (.int .i64) (.pair (.int .i64) (.pair (.pair (.int .i64) (.int .i64)) (.pair (.int .i64) (.pair (.int .i64) (.pair (.int .i64) (.pair (.int .i64) (.pair (.int .i64) (.sl (.pair (.int .i64) (.pair (.int .i64) (.pair (.int .i64) (.pair (.pair (.int .i64) (.int .i64)) (.pair .bool (.sl (.pair (.int .i64) (.sl (.int .u8))))))))))))))))))) true], fun args objs κ => match args, objs with
  | [.agg [.d (.int .i64) mkind, .d (.int .i64) mfrom0, .d (.int .i64) minc, .d (.int .i64) mlo, .d (.int .i64) mhi, .d (.int .i64) mseq, .d (.int .i64) mtarget, .d (.int .i64) mlife, .d (.int .i64) mepoch, .d (.int .i64) mbase, .d (.sl (.pair (.int .i64) (.pair (.int .i64) (.pair (.int .i64) (.pair (.pair (.int .i64) (.int .i64)) (.pair .bool (.sl (.pair (.int .i64) (.sl (.int .u8)))))))))) mrecs]], [] => if smallRecs mrecs = true then κ [.d .bool (fits2 mkind mfrom0 minc mlo mhi mseq mtarget mlife mepoch mbase mrecs)] [] else none
  | _, _ => none⟩
noncomputable def s_item13 : Den.Sum := ⟨[.own 5 (.int .u8), .raw, .raw, .raw], fun args objs κ => match args, objs with
  | [.row 0, .d (.int .i64) t, .d (.int .i64) n, .d (.int .i64) v], [.row 5 (.int .u8) l false] => if numOk n v = true ∧ tagOk t = true ∧ roomy l = true then κ [.row 1] [.gone, .row 5 (.int .u8) (l ++ (t :: 0 :: n :: be n.toNat v)) false] else none
  | _, _ => none⟩
noncomputable def s_tnum : Den.Sum := ⟨[.raw, .raw, .raw], fun args objs κ => match args, objs with
  | [.d (.int .i64) t, .d (.int .i64) n, .d (.int .i64) v], [] => if fitsF n v = true then κ [.agg [.d (.int .i64) t, .d (.sl (.int .u8)) (be n.toNat v)]] [] else none
  | _, _ => none⟩
noncomputable def RSize2_E : Env := ⟨th, gam [], fun i => if i = 3 then ⟨[3, 7, 8, 9], [], []⟩ else ⟨[], [], []⟩⟩
noncomputable def RSize2.k (rs : List AV) (os : List Den.Obj) : Option Int :=
  match rs, os with
  | [.d (.int .i64) r0], [] => some r0
  | _, _ => none
noncomputable def RSize2.s3 (rid : Int) (rinc : Int) (rst : Int) (rlo : Int) (rhi : Int) (rcut : Bool) (rbag : List (Int × List Int)) (x0 : Int) (x1 : Int) (x2 : Int) : St := ⟨[.dead, .dead, .dead, .d (.int .i64) x0, .dead, .dead, .dead, .d (.sl (.pair (.int .i64) (.sl (.int .u8)))) (rbag), .d (.int .i64) x1, .d (.int .i64) x2, .dead, .dead, .dead, .dead, .dead, .dead, .dead, .dead, .dead, .dead, .dead], ofL [], 0⟩
noncomputable def RSize2.b3 (rid : Int) (rinc : Int) (rst : Int) (rlo : Int) (rhi : Int) (rcut : Bool) (rbag : List (Int × List Int)) (A3 : Int → Int → Int → Option Int) (x0 : Int) (x1 : Int) (x2 : Int) : Option Int :=
  (if (decide (x2 < x1)) then (match (idx rbag x2) with | none => none | some y3 => A3 (Go.IntKind.wrap .i64 (x0 + (Go.IntKind.wrap .i64 ((3 : Int) + ((((List.length y3.2)) : Nat) : Int))))) x1 (Go.IntKind.wrap .i64 (x2 + (1 : Int)))) else some (x0))
noncomputable def RSize2.l3 (fuel : Nat) (rid : Int) (rinc : Int) (rst : Int) (rlo : Int) (rhi : Int) (rcut : Bool) (rbag : List (Int × List Int)) : Nat → Int → Int → Int → Option Int
  | 0, _, _, _ => none
  | k + 1, x0, x1, x2 => RSize2.b3 rid rinc rst rlo rhi rcut rbag (RSize2.l3 fuel rid rinc rst rlo rhi rcut rbag k) x0 x1 x2
noncomputable def RSize2.b (rid : Int) (rinc : Int) (rst : Int) (rlo : Int) (rhi : Int) (rcut : Bool) (rbag : List (Int × List Int)) (E3 : Int → Int → Int → Option Int) : Option Int :=
  E3 (23 : Int) ((((List.length rbag)) : Nat) : Int) (0 : Int)
noncomputable def RSize2.f (fuel : Nat) (rid : Int) (rinc : Int) (rst : Int) (rlo : Int) (rhi : Int) (rcut : Bool) (rbag : List (Int × List Int)) : Option Int := RSize2.b rid rinc rst rlo rhi rcut rbag (RSize2.l3 fuel rid rinc rst rlo rhi rcut rbag fuel)
theorem RSize2.l3_eq (fuel : Nat) (rid : Int) (rinc : Int) (rst : Int) (rlo : Int) (rhi : Int) (rcut : Bool) (rbag : List (Int × List Int)) : ∀ (k : Nat) (x0 : Int) (x1 : Int) (x2 : Int), lp RSize2_E fuel Try.f65 [.raw] 0 RSize2.k 3 [] k (RSize2.s3 rid rinc rst rlo rhi rcut rbag x0 x1 x2) = RSize2.l3 fuel rid rinc rst rlo rhi rcut rbag k x0 x1 x2 := by
  intro k
  induction k with
  | zero => intro x0 x1 x2; rfl
  | succ k ih =>
    intro x0 x1 x2
    have h : lp RSize2_E fuel Try.f65 [.raw] 0 RSize2.k 3 [] (k + 1) (RSize2.s3 rid rinc rst rlo rhi rcut rbag x0 x1 x2) = RSize2.b3 rid rinc rst rlo rhi rcut rbag (fun x0 x1 x2 => lp RSize2_E fuel Try.f65 [.raw] 0 RSize2.k 3 [] k (RSize2.s3 rid rinc rst rlo rhi rcut rbag x0 x1 x2)) x0 x1 x2 := by kernel_rfl
    rw [h]
    have e3 : (fun x0 x1 x2 => lp RSize2_E fuel Try.f65 [.raw] 0 RSize2.k 3 [] k (RSize2.s3 rid rinc rst rlo rhi rcut rbag x0 x1 x2)) = RSize2.l3 fuel rid rinc rst rlo rhi rcut rbag k := (funext fun x0 => (funext fun x1 => (funext fun x2 => ih x0 x1 x2)))
    rw [e3]
    rfl
theorem RSize2.eq (fuel : Nat) (rid : Int) (rinc : Int) (rst : Int) (rlo : Int) (rhi : Int) (rcut : Bool) (rbag : List (Int × List Int)) : (denF RSize2_E loopN fuel Try.f65 [.raw] [.agg [.d (.int .i64) rid, .d (.int .i64) rinc, .d (.int .i64) rst, .d (.int .i64) rlo, .d (.int .i64) rhi, .d .bool rcut, .d (.sl (.pair (.int .i64) (.sl (.int .u8)))) rbag]] [] RSize2.k) = RSize2.f fuel rid rinc rst rlo rhi rcut rbag := by
  have h : (denF RSize2_E loopN fuel Try.f65 [.raw] [.agg [.d (.int .i64) rid, .d (.int .i64) rinc, .d (.int .i64) rst, .d (.int .i64) rlo, .d (.int .i64) rhi, .d .bool rcut, .d (.sl (.pair (.int .i64) (.sl (.int .u8)))) rbag]] [] RSize2.k) = RSize2.b rid rinc rst rlo rhi rcut rbag (fun x0 x1 x2 => lp RSize2_E fuel Try.f65 [.raw] 0 RSize2.k 3 [] fuel (RSize2.s3 rid rinc rst rlo rhi rcut rbag x0 x1 x2)) := by kernel_rfl
  rw [h]
  have e3 : (fun x0 x1 x2 => lp RSize2_E fuel Try.f65 [.raw] 0 RSize2.k 3 [] fuel (RSize2.s3 rid rinc rst rlo rhi rcut rbag x0 x1 x2)) = RSize2.l3 fuel rid rinc rst rlo rhi rcut rbag fuel := (funext fun x0 => (funext fun x1 => (funext fun x2 => RSize2.l3_eq fuel rid rinc rst rlo rhi rcut rbag fuel x0 x1 x2)))
  rw [e3]
  rfl


noncomputable def Size2_E : Env := ⟨th, gam [(20, s_valid), (50, s_has), (65, s_rsz2)], fun i => if i = 9 then ⟨[3, 20, 21, 22], [], []⟩ else ⟨[], [], []⟩⟩
noncomputable def Size2.k (rs : List AV) (os : List Den.Obj) : Option Int :=
  match rs, os with
  | [.d (.int .i64) r0], [] => some r0
  | _, _ => none
noncomputable def Size2.s9 (mkind : Int) (mfrom0 : Int) (minc : Int) (mlo : Int) (mhi : Int) (mseq : Int) (mtarget : Int) (mlife : Int) (mepoch : Int) (mbase : Int) (mrecs : List (Int × Int × Int × (Int × Int) × Bool × List (Int × List Int))) (x0 : Int) (x1 : Int) (x2 : Int) : St := ⟨[.dead, .dead, .dead, .d (.int .i64) x0, .dead, .dead, .dead, .dead, .dead, .dead, .dead, .dead, .dead, .dead, .dead, .dead, .dead, .dead, .dead, .dead, .d (.sl (.pair (.int .i64) (.pair (.int .i64) (.pair (.int .i64) (.pair (.pair (.int .i64) (.int .i64)) (.pair .bool (.sl (.pair (.int .i64) (.sl (.int .u8)))))))))) (mrecs), .d (.int .i64) x1, .d (.int .i64) x2, .dead, .dead, .dead, .dead, .dead, .dead, .dead, .dead, .dead], ofL [], 0⟩
noncomputable def Size2.b9 (mkind : Int) (mfrom0 : Int) (minc : Int) (mlo : Int) (mhi : Int) (mseq : Int) (mtarget : Int) (mlife : Int) (mepoch : Int) (mbase : Int) (mrecs : List (Int × Int × Int × (Int × Int) × Bool × List (Int × List Int))) (A9 : Int → Int → Int → Option Int) (x0 : Int) (x1 : Int) (x2 : Int) : Option Int :=
  (if (decide (x2 < x1)) then (match (idx mrecs x2) with | none => none | some y3 => (if (bagFit y3.2.2.2.2.2) then A9 (Go.IntKind.wrap .i64 (x0 + (recLen (y3.1, (y3.2.1, (y3.2.2.1, ((y3.2.2.2.1.1, y3.2.2.2.1.2), (y3.2.2.2.2.1, y3.2.2.2.2.2)))))))) x1 (Go.IntKind.wrap .i64 (x2 + (1 : Int))) else none)) else some (x0))
noncomputable def Size2.l9 (fuel : Nat) (mkind : Int) (mfrom0 : Int) (minc : Int) (mlo : Int) (mhi : Int) (mseq : Int) (mtarget : Int) (mlife : Int) (mepoch : Int) (mbase : Int) (mrecs : List (Int × Int × Int × (Int × Int) × Bool × List (Int × List Int))) : Nat → Int → Int → Int → Option Int
  | 0, _, _, _ => none
  | k + 1, x0, x1, x2 => Size2.b9 mkind mfrom0 minc mlo mhi mseq mtarget mlife mepoch mbase mrecs (Size2.l9 fuel mkind mfrom0 minc mlo mhi mseq mtarget mlife mepoch mbase mrecs k) x0 x1 x2
noncomputable def Size2.b (mkind : Int) (mfrom0 : Int) (minc : Int) (mlo : Int) (mhi : Int) (mseq : Int) (mtarget : Int) (mlife : Int) (mepoch : Int) (mbase : Int) (mrecs : List (Int × Int × Int × (Int × Int) × Bool × List (Int × List Int))) (E9 : Int → Int → Int → Option Int) : Option Int :=
  (if (smallRecs mrecs) then (if (!(validF mkind mfrom0 minc mlo mhi mseq mtarget mlife mepoch mbase mrecs)) then some ((0 : Int)) else (if (hasF mkind (0 : Int)) then (if (hasF mkind (1 : Int)) then E9 (Go.IntKind.wrap .i64 ((Go.IntKind.wrap .i64 ((22 : Int) + (5 : Int))) + (5 : Int))) ((((List.length mrecs)) : Nat) : Int) (0 : Int) else E9 (Go.IntKind.wrap .i64 ((22 : Int) + (5 : Int))) ((((List.length mrecs)) : Nat) : Int) (0 : Int)) else (if (hasF mkind (1 : Int)) then E9 (Go.IntKind.wrap .i64 ((22 : Int) + (5 : Int))) ((((List.length mrecs)) : Nat) : Int) (0 : Int) else E9 (22 : Int) ((((List.length mrecs)) : Nat) : Int) (0 : Int)))) else none)
noncomputable def Size2.f (fuel : Nat) (mkind : Int) (mfrom0 : Int) (minc : Int) (mlo : Int) (mhi : Int) (mseq : Int) (mtarget : Int) (mlife : Int) (mepoch : Int) (mbase : Int) (mrecs : List (Int × Int × Int × (Int × Int) × Bool × List (Int × List Int))) : Option Int := Size2.b mkind mfrom0 minc mlo mhi mseq mtarget mlife mepoch mbase mrecs (Size2.l9 fuel mkind mfrom0 minc mlo mhi mseq mtarget mlife mepoch mbase mrecs fuel)
theorem Size2.l9_eq (fuel : Nat) (mkind : Int) (mfrom0 : Int) (minc : Int) (mlo : Int) (mhi : Int) (mseq : Int) (mtarget : Int) (mlife : Int) (mepoch : Int) (mbase : Int) (mrecs : List (Int × Int × Int × (Int × Int) × Bool × List (Int × List Int))) : ∀ (k : Nat) (x0 : Int) (x1 : Int) (x2 : Int), lp Size2_E fuel Try.f29 [.raw] 0 Size2.k 9 [] k (Size2.s9 mkind mfrom0 minc mlo mhi mseq mtarget mlife mepoch mbase mrecs x0 x1 x2) = Size2.l9 fuel mkind mfrom0 minc mlo mhi mseq mtarget mlife mepoch mbase mrecs k x0 x1 x2 := by
  intro k
  induction k with
  | zero => intro x0 x1 x2; rfl
  | succ k ih =>
    intro x0 x1 x2
    have h : lp Size2_E fuel Try.f29 [.raw] 0 Size2.k 9 [] (k + 1) (Size2.s9 mkind mfrom0 minc mlo mhi mseq mtarget mlife mepoch mbase mrecs x0 x1 x2) = Size2.b9 mkind mfrom0 minc mlo mhi mseq mtarget mlife mepoch mbase mrecs (fun x0 x1 x2 => lp Size2_E fuel Try.f29 [.raw] 0 Size2.k 9 [] k (Size2.s9 mkind mfrom0 minc mlo mhi mseq mtarget mlife mepoch mbase mrecs x0 x1 x2)) x0 x1 x2 := by kernel_rfl
    rw [h]
    have e9 : (fun x0 x1 x2 => lp Size2_E fuel Try.f29 [.raw] 0 Size2.k 9 [] k (Size2.s9 mkind mfrom0 minc mlo mhi mseq mtarget mlife mepoch mbase mrecs x0 x1 x2)) = Size2.l9 fuel mkind mfrom0 minc mlo mhi mseq mtarget mlife mepoch mbase mrecs k := (funext fun x0 => (funext fun x1 => (funext fun x2 => ih x0 x1 x2)))
    rw [e9]
    rfl
theorem Size2.eq (fuel : Nat) (mkind : Int) (mfrom0 : Int) (minc : Int) (mlo : Int) (mhi : Int) (mseq : Int) (mtarget : Int) (mlife : Int) (mepoch : Int) (mbase : Int) (mrecs : List (Int × Int × Int × (Int × Int) × Bool × List (Int × List Int))) : (denF Size2_E loopN fuel Try.f29 [.raw] [.agg [.d (.int .i64) mkind, .d (.int .i64) mfrom0, .d (.int .i64) minc, .d (.int .i64) mlo, .d (.int .i64) mhi, .d (.int .i64) mseq, .d (.int .i64) mtarget, .d (.int .i64) mlife, .d (.int .i64) mepoch, .d (.int .i64) mbase, .d (.sl (.pair (.int .i64) (.pair (.int .i64) (.pair (.int .i64) (.pair (.pair (.int .i64) (.int .i64)) (.pair .bool (.sl (.pair (.int .i64) (.sl (.int .u8)))))))))) mrecs]] [] Size2.k) = Size2.f fuel mkind mfrom0 minc mlo mhi mseq mtarget mlife mepoch mbase mrecs := by
  have h : (denF Size2_E loopN fuel Try.f29 [.raw] [.agg [.d (.int .i64) mkind, .d (.int .i64) mfrom0, .d (.int .i64) minc, .d (.int .i64) mlo, .d (.int .i64) mhi, .d (.int .i64) mseq, .d (.int .i64) mtarget, .d (.int .i64) mlife, .d (.int .i64) mepoch, .d (.int .i64) mbase, .d (.sl (.pair (.int .i64) (.pair (.int .i64) (.pair (.int .i64) (.pair (.pair (.int .i64) (.int .i64)) (.pair .bool (.sl (.pair (.int .i64) (.sl (.int .u8)))))))))) mrecs]] [] Size2.k) = Size2.b mkind mfrom0 minc mlo mhi mseq mtarget mlife mepoch mbase mrecs (fun x0 x1 x2 => lp Size2_E fuel Try.f29 [.raw] 0 Size2.k 9 [] fuel (Size2.s9 mkind mfrom0 minc mlo mhi mseq mtarget mlife mepoch mbase mrecs x0 x1 x2)) := by kernel_rfl
  rw [h]
  have e9 : (fun x0 x1 x2 => lp Size2_E fuel Try.f29 [.raw] 0 Size2.k 9 [] fuel (Size2.s9 mkind mfrom0 minc mlo mhi mseq mtarget mlife mepoch mbase mrecs x0 x1 x2)) = Size2.l9 fuel mkind mfrom0 minc mlo mhi mseq mtarget mlife mepoch mbase mrecs fuel := (funext fun x0 => (funext fun x1 => (funext fun x2 => Size2.l9_eq fuel mkind mfrom0 minc mlo mhi mseq mtarget mlife mepoch mbase mrecs fuel x0 x1 x2)))
  rw [e9]
  rfl


noncomputable def Fits2_E : Env := ⟨th, gam [(20, s_valid), (29, s_size2)], fun i => if i = 4 then ⟨[24, 25, 26], [], []⟩ else ⟨[], [], []⟩⟩
noncomputable def Fits2.k (rs : List AV) (os : List Den.Obj) : Option Bool :=
  match rs, os with
  | [.d .bool r0], [] => some r0
  | _, _ => none
noncomputable def Fits2.s4 (mkind : Int) (mfrom0 : Int) (minc : Int) (mlo : Int) (mhi : Int) (mseq : Int) (mtarget : Int) (mlife : Int) (mepoch : Int) (mbase : Int) (mrecs : List (Int × Int × Int × (Int × Int) × Bool × List (Int × List Int))) (x0 : Int) (x1 : Int) : St := ⟨[.dead, .dead, .dead, .dead, .dead, .dead, .dead, .dead, .dead, .dead, .dead, .dead, .dead, .dead, .dead, .dead, .dead, .dead, .dead, .dead, .dead, .dead, .dead, .dead, .d (.sl (.pair (.int .i64) (.pair (.int .i64) (.pair (.int .i64) (.pair (.pair (.int .i64) (.int .i64)) (.pair .bool (.sl (.pair (.int .i64) (.sl (.int .u8)))))))))) (mrecs), .d (.int .i64) x0, .d (.int .i64) x1, .dead, .dead, .dead, .dead, .dead, .dead, .dead], ofL [], 0⟩
noncomputable def Fits2.b4 (mkind : Int) (mfrom0 : Int) (minc : Int) (mlo : Int) (mhi : Int) (mseq : Int) (mtarget : Int) (mlife : Int) (mepoch : Int) (mbase : Int) (mrecs : List (Int × Int × Int × (Int × Int) × Bool × List (Int × List Int))) (A4 : Int → Int → Option Bool) (x0 : Int) (x1 : Int) : Option Bool :=
  (if (decide (x1 < x0)) then (match (idx mrecs x1) with | none => none | some y2 => (if (decide (y2.2.1 > (veil (4294967295 : Int)))) then some (false) else A4 x0 (Go.IntKind.wrap .i64 (x1 + (1 : Int))))) else some (true))
noncomputable def Fits2.l4 (fuel : Nat) (mkind : Int) (mfrom0 : Int) (minc : Int) (mlo : Int) (mhi : Int) (mseq : Int) (mtarget : Int) (mlife : Int) (mepoch : Int) (mbase : Int) (mrecs : List (Int × Int × Int × (Int × Int) × Bool × List (Int × List Int))) : Nat → Int → Int → Option Bool
  | 0, _, _ => none
  | k + 1, x0, x1 => Fits2.b4 mkind mfrom0 minc mlo mhi mseq mtarget mlife mepoch mbase mrecs (Fits2.l4 fuel mkind mfrom0 minc mlo mhi mseq mtarget mlife mepoch mbase mrecs k) x0 x1
noncomputable def Fits2.b (mkind : Int) (mfrom0 : Int) (minc : Int) (mlo : Int) (mhi : Int) (mseq : Int) (mtarget : Int) (mlife : Int) (mepoch : Int) (mbase : Int) (mrecs : List (Int × Int × Int × (Int × Int) × Bool × List (Int × List Int))) (E4 : Int → Int → Option Bool) : Option Bool :=
  (if (smallRecs mrecs) then (if (!(validF mkind mfrom0 minc mlo mhi mseq mtarget mlife mepoch mbase mrecs)) then some (false) else (if (mkind == (9 : Int)) then some (false) else (if (mepoch != (0 : Int)) then some (false) else (if (smallRecs mrecs) then (if (decide ((size2 mkind mfrom0 minc mlo mhi mseq mtarget mlife mepoch mbase mrecs) > (65499 : Int))) then some (false) else E4 ((((List.length mrecs)) : Nat) : Int) (0 : Int)) else none)))) else none)
noncomputable def Fits2.f (fuel : Nat) (mkind : Int) (mfrom0 : Int) (minc : Int) (mlo : Int) (mhi : Int) (mseq : Int) (mtarget : Int) (mlife : Int) (mepoch : Int) (mbase : Int) (mrecs : List (Int × Int × Int × (Int × Int) × Bool × List (Int × List Int))) : Option Bool := Fits2.b mkind mfrom0 minc mlo mhi mseq mtarget mlife mepoch mbase mrecs (Fits2.l4 fuel mkind mfrom0 minc mlo mhi mseq mtarget mlife mepoch mbase mrecs fuel)
theorem Fits2.l4_eq (fuel : Nat) (mkind : Int) (mfrom0 : Int) (minc : Int) (mlo : Int) (mhi : Int) (mseq : Int) (mtarget : Int) (mlife : Int) (mepoch : Int) (mbase : Int) (mrecs : List (Int × Int × Int × (Int × Int) × Bool × List (Int × List Int))) : ∀ (k : Nat) (x0 : Int) (x1 : Int), lp Fits2_E fuel Try.f27 [.raw] 0 Fits2.k 4 [] k (Fits2.s4 mkind mfrom0 minc mlo mhi mseq mtarget mlife mepoch mbase mrecs x0 x1) = Fits2.l4 fuel mkind mfrom0 minc mlo mhi mseq mtarget mlife mepoch mbase mrecs k x0 x1 := by
  intro k
  induction k with
  | zero => intro x0 x1; rfl
  | succ k ih =>
    intro x0 x1
    have h : lp Fits2_E fuel Try.f27 [.raw] 0 Fits2.k 4 [] (k + 1) (Fits2.s4 mkind mfrom0 minc mlo mhi mseq mtarget mlife mepoch mbase mrecs x0 x1) = Fits2.b4 mkind mfrom0 minc mlo mhi mseq mtarget mlife mepoch mbase mrecs (fun x0 x1 => lp Fits2_E fuel Try.f27 [.raw] 0 Fits2.k 4 [] k (Fits2.s4 mkind mfrom0 minc mlo mhi mseq mtarget mlife mepoch mbase mrecs x0 x1)) x0 x1 := by kernel_rfl
    rw [h]
    have e4 : (fun x0 x1 => lp Fits2_E fuel Try.f27 [.raw] 0 Fits2.k 4 [] k (Fits2.s4 mkind mfrom0 minc mlo mhi mseq mtarget mlife mepoch mbase mrecs x0 x1)) = Fits2.l4 fuel mkind mfrom0 minc mlo mhi mseq mtarget mlife mepoch mbase mrecs k := (funext fun x0 => (funext fun x1 => ih x0 x1))
    rw [e4]
    rfl
theorem Fits2.eq (fuel : Nat) (mkind : Int) (mfrom0 : Int) (minc : Int) (mlo : Int) (mhi : Int) (mseq : Int) (mtarget : Int) (mlife : Int) (mepoch : Int) (mbase : Int) (mrecs : List (Int × Int × Int × (Int × Int) × Bool × List (Int × List Int))) : (denF Fits2_E loopN fuel Try.f27 [.raw] [.agg [.d (.int .i64) mkind, .d (.int .i64) mfrom0, .d (.int .i64) minc, .d (.int .i64) mlo, .d (.int .i64) mhi, .d (.int .i64) mseq, .d (.int .i64) mtarget, .d (.int .i64) mlife, .d (.int .i64) mepoch, .d (.int .i64) mbase, .d (.sl (.pair (.int .i64) (.pair (.int .i64) (.pair (.int .i64) (.pair (.pair (.int .i64) (.int .i64)) (.pair .bool (.sl (.pair (.int .i64) (.sl (.int .u8)))))))))) mrecs]] [] Fits2.k) = Fits2.f fuel mkind mfrom0 minc mlo mhi mseq mtarget mlife mepoch mbase mrecs := by
  have h : (denF Fits2_E loopN fuel Try.f27 [.raw] [.agg [.d (.int .i64) mkind, .d (.int .i64) mfrom0, .d (.int .i64) minc, .d (.int .i64) mlo, .d (.int .i64) mhi, .d (.int .i64) mseq, .d (.int .i64) mtarget, .d (.int .i64) mlife, .d (.int .i64) mepoch, .d (.int .i64) mbase, .d (.sl (.pair (.int .i64) (.pair (.int .i64) (.pair (.int .i64) (.pair (.pair (.int .i64) (.int .i64)) (.pair .bool (.sl (.pair (.int .i64) (.sl (.int .u8)))))))))) mrecs]] [] Fits2.k) = Fits2.b mkind mfrom0 minc mlo mhi mseq mtarget mlife mepoch mbase mrecs (fun x0 x1 => lp Fits2_E fuel Try.f27 [.raw] 0 Fits2.k 4 [] fuel (Fits2.s4 mkind mfrom0 minc mlo mhi mseq mtarget mlife mepoch mbase mrecs x0 x1)) := by kernel_rfl
  rw [h]
  have e4 : (fun x0 x1 => lp Fits2_E fuel Try.f27 [.raw] 0 Fits2.k 4 [] fuel (Fits2.s4 mkind mfrom0 minc mlo mhi mseq mtarget mlife mepoch mbase mrecs x0 x1)) = Fits2.l4 fuel mkind mfrom0 minc mlo mhi mseq mtarget mlife mepoch mbase mrecs fuel := (funext fun x0 => (funext fun x1 => Fits2.l4_eq fuel mkind mfrom0 minc mlo mhi mseq mtarget mlife mepoch mbase mrecs fuel x0 x1))
  rw [e4]
  rfl


noncomputable def Item13_E : Env := ⟨th, gam [], fun i => if i = 3 then ⟨[0, 1, 2, 3, 9, 10], [], []⟩ else ⟨[], [], []⟩⟩
noncomputable def Item13.k (rs : List AV) (os : List Den.Obj) : Option (List Int) :=
  match rs, os with
  | [.row 1], [.gone, .row 5 (.int .u8) r0 false] => some r0
  | _, _ => none
noncomputable def Item13.s3 (t : Int) (n : Int) (v : Int) (l : List Int) (x0 : Int) (x1 : Int) (x2 : (List Int)) : St := ⟨[.row 0, .d (.int .i64) (t), .d (.int .i64) (n), .d (.int .i64) x0, .dead, .dead, .dead, .dead, .dead, .row 64, .d (.int .i64) x1, .dead, .dead, .dead, .dead, .dead, .dead, .dead, .dead, .dead, .dead, .dead, .dead, .dead, .dead, .dead, .dead, .dead, .dead, .dead, .dead, .dead, .dead, .dead, .dead, .dead], ofL [(0, .row 5 (.int .u8) (l) false), (64, .row 5 (.int .u8) x2 false)], 1⟩
noncomputable def Item13.b3 (t : Int) (n : Int) (v : Int) (l : List Int) (A3 : Int → Int → (List Int) → Option (List Int)) (x0 : Int) (x1 : Int) (x2 : (List Int)) : Option (List Int) :=
  (if (decide (x1 ≥ (0 : Int))) then (match (idx x2 x1) with | none => none | some y3 => (match (idx x2 x1) with | none => none | some y4 => A3 (Go.IntKind.wrap .i64 (Int.tdiv x0 (256 : Int))) (Go.IntKind.wrap .i64 (x1 - (1 : Int))) (List.set x2 (Int.toNat x1) (Go.IntKind.wrap .u8 (Int.tmod x0 (256 : Int)))))) else (if ((((List.length l) + (List.length ((Go.IntKind.wrap .u8 t) :: ((0 : Int) :: ((Go.IntKind.wrap .u8 n) :: ([] : List Int)))))) * (1 : Nat)) ≤ lim) then (if ((((List.length (l ++ ((Go.IntKind.wrap .u8 t) :: ((0 : Int) :: ((Go.IntKind.wrap .u8 n) :: ([] : List Int)))))) + (List.length x2)) * (1 : Nat)) ≤ lim) then some (((l ++ ((Go.IntKind.wrap .u8 t) :: ((0 : Int) :: ((Go.IntKind.wrap .u8 n) :: ([] : List Int))))) ++ x2)) else none) else none))
noncomputable def Item13.l3 (fuel : Nat) (t : Int) (n : Int) (v : Int) (l : List Int) : Nat → Int → Int → (List Int) → Option (List Int)
  | 0, _, _, _ => none
  | k + 1, x0, x1, x2 => Item13.b3 t n v l (Item13.l3 fuel t n v l k) x0 x1 x2
noncomputable def Item13.b (t : Int) (n : Int) (v : Int) (l : List Int) (E3 : Int → Int → (List Int) → Option (List Int)) : Option (List Int) :=
  (if (((0 : Int) ≤ n) ∧ ((n ≤ n) ∧ (((n * ((((1 : Nat)) : Nat) : Int)) ≤ (1099511627776 : Int)) ∧ (n ≤ (1099511627776 : Int))))) then E3 v (Go.IntKind.wrap .i64 (n - (1 : Int))) (List.replicate (Int.toNat n) (zeroI (Go.Den.Ty.int .u8))) else none)
noncomputable def Item13.f (fuel : Nat) (t : Int) (n : Int) (v : Int) (l : List Int) : Option (List Int) := Item13.b t n v l (Item13.l3 fuel t n v l fuel)
theorem Item13.l3_eq (fuel : Nat) (t : Int) (n : Int) (v : Int) (l : List Int) : ∀ (k : Nat) (x0 : Int) (x1 : Int) (x2 : (List Int)), lp Item13_E fuel Try.f66 [.own 5 (.int .u8)] 1 Item13.k 3 [] k (Item13.s3 t n v l x0 x1 x2) = Item13.l3 fuel t n v l k x0 x1 x2 := by
  intro k
  induction k with
  | zero => intro x0 x1 x2; rfl
  | succ k ih =>
    intro x0 x1 x2
    have h : lp Item13_E fuel Try.f66 [.own 5 (.int .u8)] 1 Item13.k 3 [] (k + 1) (Item13.s3 t n v l x0 x1 x2) = Item13.b3 t n v l (fun x0 x1 x2 => lp Item13_E fuel Try.f66 [.own 5 (.int .u8)] 1 Item13.k 3 [] k (Item13.s3 t n v l x0 x1 x2)) x0 x1 x2 := by kernel_rfl
    rw [h]
    have e3 : (fun x0 x1 x2 => lp Item13_E fuel Try.f66 [.own 5 (.int .u8)] 1 Item13.k 3 [] k (Item13.s3 t n v l x0 x1 x2)) = Item13.l3 fuel t n v l k := (funext fun x0 => (funext fun x1 => (funext fun x2 => ih x0 x1 x2)))
    rw [e3]
    rfl
theorem Item13.eq (fuel : Nat) (t : Int) (n : Int) (v : Int) (l : List Int) : (denF Item13_E loopN fuel Try.f66 [.own 5 (.int .u8)] [.row 0, .d (.int .i64) t, .d (.int .i64) n, .d (.int .i64) v] [.row 5 (.int .u8) l false] Item13.k) = Item13.f fuel t n v l := by
  have h : (denF Item13_E loopN fuel Try.f66 [.own 5 (.int .u8)] [.row 0, .d (.int .i64) t, .d (.int .i64) n, .d (.int .i64) v] [.row 5 (.int .u8) l false] Item13.k) = Item13.b t n v l (fun x0 x1 x2 => lp Item13_E fuel Try.f66 [.own 5 (.int .u8)] 1 Item13.k 3 [] fuel (Item13.s3 t n v l x0 x1 x2)) := by kernel_rfl
  rw [h]
  have e3 : (fun x0 x1 x2 => lp Item13_E fuel Try.f66 [.own 5 (.int .u8)] 1 Item13.k 3 [] fuel (Item13.s3 t n v l x0 x1 x2)) = Item13.l3 fuel t n v l fuel := (funext fun x0 => (funext fun x1 => (funext fun x2 => Item13.l3_eq fuel t n v l fuel x0 x1 x2)))
  rw [e3]
  rfl


noncomputable def TNum_E : Env := ⟨th, gam [(42, s_write), (43, s_num), (46, s_bytes)], fun i => ⟨[], [], []⟩⟩
noncomputable def TNum.k (rs : List AV) (os : List Den.Obj) : Option (Int × (List Int)) :=
  match rs, os with
  | [.agg [.d (.int .i64) r0, .d (.sl (.int .u8)) r1]], [] => some (r0, r1)
  | _, _ => none
noncomputable def TNum.b (t : Int) (n : Int) (v : Int) : Option (Int × (List Int)) :=
  (if (fitsF n v) then (if (roomy (be (Int.toNat n) v)) then some (t, (be (Int.toNat n) v)) else none) else none)
noncomputable def TNum.f (fuel : Nat) (t : Int) (n : Int) (v : Int) : Option (Int × (List Int)) := TNum.b t n v
theorem TNum.eq (fuel : Nat) (t : Int) (n : Int) (v : Int) : (denF TNum_E loopN fuel Try.f62 [.dat (.pair (.int .i64) (.sl (.int .u8))) true] [.d (.int .i64) t, .d (.int .i64) n, .d (.int .i64) v] [] TNum.k) = TNum.f fuel t n v := by
  kernel_rfl


end Go.Proofs.Ytlmljpmohljefaa

set_option linter.unusedVariables false
set_option linter.unusedSimpArgs false
namespace Go.Proofs.Ytlmljpmohljefaa
open Go.Den
theorem bagLen_cons (x : Int × List Int) (b : List (Int × List Int)) : bagLen (x :: b) = 3 + (x.2.length : Int) + bagLen b := by
  unfold bagLen; simp
theorem bagLen_nonneg (b : List (Int × List Int)) : 0 ≤ bagLen b := by unfold bagLen; omega
theorem bagGo_len : ∀ (l : List (Int × List Int)) (last size : Int), size ≤ 4096 → bagGo l last size = true → size + bagLen l ≤ 4096 + 3 * (l.length : Int)
  | [], last, size, h0, h => by simp [bagLen]; omega
  | x :: l, last, size, h0, h => by
    unfold bagGo at h
    split at h
    · cases h
    · split at h
      · cases h
      · rename_i h1 h2
        simp at h2
        have ih := bagGo_len l x.1 (size + (x.2.length : Int)) h2 h
        rw [bagLen_cons]
        simp
        omega
theorem bagOk_len {b : List (Int × List Int)} (h : bagOk b = true) : b.length ≤ 32 ∧ 0 ≤ bagLen b ∧ bagLen b ≤ 4192 := by
  unfold bagOk at h
  split at h
  · cases h
  · rename_i h1
    simp at h1
    have := bagGo_len b 32 0 (by omega) h
    have := bagLen_nonneg b
    omega
theorem bagFit_iff (b : List (Int × List Int)) : bagFit b = true ↔ bagOk b = true ∧ smallBag b = true := by unfold bagFit; simp
theorem RSize2.loop (fuel : Nat) (id inc st lo hi : Int) (cut : Bool) (bag : List (Int × List Int)) (hb : bag.length ≤ 32) : ∀ (k i : Nat) (n : Int), i ≤ bag.length → bag.length - i < k → 0 ≤ n → n + bagLen (bag.drop i) < 1000000 →
    RSize2.l3 fuel id inc st lo hi cut bag k n (bag.length : Int) (i : Int) = some (n + bagLen (bag.drop i)) := by
  intro k
  induction k with
  | zero => intro i n h1 h2; omega
  | succ k ih =>
    intro i n h1 h2 h3 h4
    rw [RSize2.l3]
    unfold RSize2.b3
    by_cases hi' : i < bag.length
    · rw [if_pos (by simp; omega), idx_at, List.getElem?_eq_getElem hi']
      dsimp only
      rw [List.drop_eq_getElem_cons hi', bagLen_cons] at h4 ⊢
      have hn := bagLen_nonneg (bag.drop (i + 1))
      rw [wrap_small (3 + _) (by omega) (by omega), wrap_small (n + _) (by omega) (by omega), wrap_small ((i : Int) + 1) (by omega) (by omega)]
      have := ih (i + 1) (n + (3 + (bag[i].2.length : Int))) (by omega) (by omega) (by omega) (by omega)
      rw [show ((i + 1 : Nat) : Int) = (i : Int) + 1 from by omega] at this
      rw [this]
      congr 1
      omega
    · rw [if_neg (by simp; omega), List.drop_of_length_le (by omega)]
      simp [bagLen]
theorem RSize2.pure (id inc st lo hi : Int) (cut : Bool) (bag : List (Int × List Int)) (hl : bagFit bag = true) :
    RSize2.f (bag.length + 1) id inc st lo hi cut bag = some (recLen (id, inc, st, (lo, hi), cut, bag)) := by
  obtain ⟨h1, h2⟩ := (bagFit_iff bag).1 hl
  obtain ⟨b1, b2, b3⟩ := bagOk_len h1
  unfold RSize2.f RSize2.b
  have := RSize2.loop (bag.length + 1) id inc st lo hi cut bag b1 (bag.length + 1) 0 23 (by omega) (by omega) (by omega) (by rw [List.drop_zero]; omega)
  rw [List.drop_zero] at this
  exact this
theorem rec_eta (r : Int × Int × Int × (Int × Int) × Bool × List (Int × List Int)) : (r.1, r.2.1, r.2.2.1, (r.2.2.2.1.1, r.2.2.2.1.2), r.2.2.2.2.1, r.2.2.2.2.2) = r := rfl
abbrev LR := List (Int × Int × Int × (Int × Int) × Bool × List (Int × List Int))
theorem recLen_le {r : Int × Int × Int × (Int × Int) × Bool × List (Int × List Int)} (h : recOkT r = true) : 23 ≤ recLen r ∧ recLen r ≤ 4215 := by
  obtain ⟨_, _, _, _, _, _, _, f8, _⟩ := recOk_facts h
  have := bagOk_len f8
  unfold recLen
  omega
theorem recsLen_le : ∀ (l : LR), (∀ r ∈ l, recOkT r = true) → 0 ≤ recsLen l ∧ recsLen l ≤ 4215 * (l.length : Int)
  | [], h => by simp [recsLen]
  | r :: l, h => by
    have h1 := recLen_le (h r (by simp))
    have h2 := recsLen_le l (fun r hr => h r (by simp [hr]))
    simp [recsLen]
    omega
theorem Size2.loop (fuel : Nat) (kind from0 inc lo hi seq target life epoch base : Int) (recs : LR) (hr : ∀ r ∈ recs, recOkT r = true ∧ smallBag r.2.2.2.2.2 = true) (hlen : recs.length ≤ 255) : ∀ (k i : Nat) (n : Int), i ≤ recs.length → recs.length - i < k → 0 ≤ n → n + recsLen (recs.drop i) < 2000000 →
    Size2.l9 fuel kind from0 inc lo hi seq target life epoch base recs k n (recs.length : Int) (i : Int) = some (n + recsLen (recs.drop i)) := by
  intro k
  induction k with
  | zero => intro i n h1 h2; omega
  | succ k ih =>
    intro i n h1 h2 h3 h4
    rw [Size2.l9]
    unfold Size2.b9
    by_cases hi' : i < recs.length
    · rw [if_pos (by simp; omega), idx_at, List.getElem?_eq_getElem hi']
      dsimp only
      rw [List.drop_eq_getElem_cons hi'] at h4 ⊢
      have hn := recsLen_le (recs.drop (i + 1)) (fun r hm => (hr r (List.mem_of_mem_drop hm)).1)
      obtain ⟨hok, hs⟩ := hr recs[i] (List.getElem_mem hi')
      have hfit : bagFit recs[i].2.2.2.2.2 = true := (bagFit_iff _).2 ⟨(recOk_facts hok).2.2.2.2.2.2.2.1, hs⟩
      have hq := recLen_le hok
      simp only [recsLen] at h4 ⊢
      rw [rec_eta, if_pos hfit, wrap_small (n + _) (by omega) (by omega), wrap_small ((i : Int) + 1) (by omega) (by omega)]
      have := ih (i + 1) (n + recLen recs[i]) (by omega) (by omega) (by omega) (by omega)
      rw [show ((i + 1 : Nat) : Int) = (i : Int) + 1 from by omega] at this
      rw [this]
      congr 1
      omega
    · rw [if_neg (by simp; omega), List.drop_of_length_le (by omega)]
      simp [recsLen]
theorem Size2.pure (kind from0 inc lo hi seq target life epoch base : Int) (recs : LR) (hl : smallRecs recs = true) :
    Size2.f (recs.length + 1) kind from0 inc lo hi seq target life epoch base recs = some (size2 kind from0 inc lo hi seq target life epoch base recs) := by
  unfold Size2.f Size2.b size2
  rw [if_pos hl]
  cases hv : validF kind from0 inc lo hi seq target life epoch base recs
  · rfl
  obtain ⟨v1, v2, v3, v4, v5, v6, v7, v8, v9, v10, v11, _, v12, v13⟩ := valid_facts hv
  have hs := ((smallRecs_iff recs).1 hl).2
  have hn := recsLen_le recs v13
  have hlp := fun n h0 h1 => Size2.loop (recs.length + 1) kind from0 inc lo hi seq target life epoch base recs (fun r hr => ⟨v13 r hr, hs r hr⟩) v12 (recs.length + 1) 0 n (by omega) (by omega) h0 h1
  simp only [List.drop_zero] at hlp
  have w1 : Go.IntKind.wrap .i64 (22 + 5) = 27 := rfl
  have w2 : Go.IntKind.wrap .i64 (27 + 5) = 32 := rfl
  have hz : ((0 : Nat) : Int) = 0 := rfl
  rw [hz] at hlp
  simp only [w1, w2, hlp 22 (by omega) (by omega), hlp 27 (by omega) (by omega), hlp 32 (by omega) (by omega)]
  cases hasF kind 0 <;> cases hasF kind 1 <;> simp
theorem Fits2.loop (fuel : Nat) (kind from0 inc lo hi seq target life epoch base : Int) (recs : LR) (hlen : recs.length < 281474976710656) : ∀ (k i : Nat), i ≤ recs.length → recs.length - i < k →
    Fits2.l4 fuel kind from0 inc lo hi seq target life epoch base recs k (recs.length : Int) (i : Int) = some (fit2Go (recs.drop i)) := by
  intro k
  induction k with
  | zero => intro i h1 h2; omega
  | succ k ih =>
    intro i h1 h2
    rw [Fits2.l4]
    unfold Fits2.b4
    by_cases hi' : i < recs.length
    · rw [if_pos (by simp; omega), idx_at, List.getElem?_eq_getElem hi', veil_eq]
      dsimp only
      rw [List.drop_eq_getElem_cons hi', fit2Go]
      have := ih (i + 1) (by omega) (by omega)
      rw [show ((i + 1 : Nat) : Int) = (i : Int) + 1 from by omega] at this
      rw [wrap_small ((i : Int) + 1) (by omega) (by omega), this]
      split <;> rfl
    · rw [if_neg (by simp; omega), List.drop_of_length_le (by omega)]
      rfl
theorem Fits2.pure (kind from0 inc lo hi seq target life epoch base : Int) (recs : LR) (hl : smallRecs recs = true) :
    Fits2.f (recs.length + 1) kind from0 inc lo hi seq target life epoch base recs = some (fits2 kind from0 inc lo hi seq target life epoch base recs) := by
  unfold Fits2.f Fits2.b fits2
  have := Fits2.loop (recs.length + 1) kind from0 inc lo hi seq target life epoch base recs ((smallRecs_iff recs).1 hl).1 (recs.length + 1) 0 (by omega) (by omega)
  rw [show ((0 : Nat) : Int) = 0 from rfl, List.drop_zero] at this
  rw [if_pos hl, this]
  cases validF kind from0 inc lo hi seq target life epoch base recs <;> cases (kind == 9) <;> cases (epoch != 0) <;> cases (decide (size2 kind from0 inc lo hi seq target life epoch base recs > 65499)) <;> simp [hl]
theorem tagOk_iff (t : Int) : tagOk t = true ↔ 0 ≤ t ∧ t ≤ 255 := by unfold tagOk; simp
theorem Item13.loop (fuel : Nat) (t n v0 : Int) (l : List Int) (ht : 0 ≤ t ∧ t ≤ 255) (hn : 0 ≤ n ∧ n ≤ 7) (hr : roomy l = true) : ∀ (k i : Nat) (v : Int) (d : List Int), i < k → i ≤ d.length → d.length ≤ 7 → 0 ≤ v → v < 9223372036854775808 →
    Item13.l3 fuel t n v0 l k v ((i : Int) - 1) d = some (l ++ (t :: 0 :: n :: (be i v ++ d.drop i))) := by
  have hr' := (roomy_iff l).1 hr
  intro k
  induction k with
  | zero => intro i v d h1; omega
  | succ k ih =>
    intro i v d h1 h2 h3 h4 h5
    rw [Item13.l3]
    unfold Item13.b3
    cases i with
    | zero =>
      rw [if_neg (by simp), if_pos (by simp [lim]; omega), if_pos (by simp [lim]; omega), wrap8, wrap8, Int.emod_eq_of_lt (by omega) (by omega), Int.emod_eq_of_lt (by omega) (by omega)]
      simp [be]
    | succ i =>
      rw [show ((i + 1 : Nat) : Int) - 1 = (i : Int) from by omega]
      rw [if_pos (by simp), idx_at, List.getElem?_eq_getElem (by omega)]
      dsimp only
      have e1 : Int.tdiv v 256 = v / 256 := Int.tdiv_eq_ediv_of_nonneg h4
      have e2 : Int.tmod v 256 = v % 256 := Int.tmod_eq_emod_of_nonneg h4
      rw [e1, e2, wrap8, Int.emod_emod_of_dvd _ (Int.dvd_refl _), wrap_small (v / 256) (by omega) (by omega), wrap_small ((i : Int) - 1) (by omega) (by omega), Int.toNat_natCast]
      rw [ih i (v / 256) (d.set i (v % 256)) (by omega) (by simp; omega) (by simpa using h3) (by omega) (by omega)]
      have e3 : (d.set i (v % 256)).drop i = (v % 256) :: d.drop (i + 1) := by
        rw [List.drop_eq_getElem_cons (by simp; omega), List.getElem_set_self, List.drop_set_of_lt (by omega)]
      rw [e3]
      simp [be]
theorem numOk_iff (n v : Int) : numOk n v = true ↔ 1 ≤ n ∧ n ≤ 7 ∧ 0 ≤ v ∧ v < 9223372036854775808 := by unfold numOk; simp
theorem Item13.pure (t n v : Int) (l : List Int) (hf : numOk n v = true) (ht : tagOk t = true) (hr : roomy l = true) : Item13.f 9 t n v l = some (l ++ (t :: 0 :: n :: be n.toNat v)) := by
  obtain ⟨h1, h2, h3, h5⟩ := (numOk_iff n v).1 hf
  unfold Item13.f Item13.b
  rw [if_pos (by refine ⟨by omega, by omega, by omega, by omega⟩), wrap_small _ (by omega) (by omega)]
  have := Item13.loop 9 t n v l ((tagOk_iff t).1 ht) (by omega) hr 9 n.toNat v (List.replicate n.toNat (zeroI (.int .u8))) (by omega) (by simp) (by simp; omega) h3 h5
  rw [Int.toNat_of_nonneg (by omega)] at this
  rw [this]
  simp
theorem TNum.pure (t n v : Int) (hf : fitsF n v = true) : TNum.f 0 t n v = some (t, be n.toNat v) := by
  unfold TNum.f TNum.b
  have hr : roomy (be n.toNat v) = true := roomy_of (by rw [be_length]; have := (fitsF_iff n v).1 hf; omega)
  rw [if_pos hf, if_pos hr]
end Go.Proofs.Ytlmljpmohljefaa

set_option linter.unusedVariables false
namespace Go.Proofs.Ytlmljpmohljefaa
open Go.Den
theorem s_rsz2_det : SumDet s_rsz2 := fun avs objs R κ => by
  show s_rsz2.run avs objs (two κ) = (s_rsz2.run avs objs (two some)).bind κ
  unfold s_rsz2
  simp only
  split
  · first | rfl | (split <;> rfl)
  · rfl
theorem s_rsz2_ok : SumOk Try.prog 65 s_rsz2 := by
  have hE : EnvOk Try.prog RSize2_E := env_ok (l := []) th_ok any_ok trivial _
  refine sum_ok hE Try.func65 rfl (by kernel_rfl) s_rsz2 [.raw] RSize2.k ?_
  intro R avs objs κ r h
  unfold s_rsz2 at h
  simp only at h
  split at h
  · rename_i rid rinc rst rlo rhi rcut rbag
    split at h
    case isFalse => cases h
    rename_i hl
    refine ⟨rbag.length + 1, _, _, _, (RSize2.eq (rbag.length + 1) rid rinc rst rlo rhi rcut rbag).trans (RSize2.pure rid rinc rst rlo rhi rcut rbag hl), ?_, h⟩
    intro rs ros hk
    unfold RSize2.k at hk
    split at hk
    · first | (cases hk; exact ⟨rfl, rfl⟩) | (have e := Option.some.inj hk; rw [← e]; exact ⟨rfl, rfl⟩)
    · cases hk
  · cases h
theorem s_size2_det : SumDet s_size2 := fun avs objs R κ => by
  show s_size2.run avs objs (two κ) = (s_size2.run avs objs (two some)).bind κ
  unfold s_size2
  simp only
  split
  · first | rfl | (split <;> rfl)
  · rfl
theorem s_size2_ok : SumOk Try.prog 29 s_size2 := by
  have hE : EnvOk Try.prog Size2_E := env_ok (l := [(20, s_valid), (50, s_has), (65, s_rsz2)]) th_ok any_ok ⟨⟨s_valid_ok, s_valid_det⟩, ⟨s_has_ok, s_has_det⟩, ⟨s_rsz2_ok, s_rsz2_det⟩, trivial⟩ _
  refine sum_ok hE Try.func29 rfl (by kernel_rfl) s_size2 [.raw] Size2.k ?_
  intro R avs objs κ r h
  unfold s_size2 at h
  simp only at h
  split at h
  · rename_i mkind mfrom0 minc mlo mhi mseq mtarget mlife mepoch mbase mrecs
    split at h
    case isFalse => cases h
    rename_i hl
    refine ⟨mrecs.length + 1, _, _, _, (Size2.eq (mrecs.length + 1) mkind mfrom0 minc mlo mhi mseq mtarget mlife mepoch mbase mrecs).trans (Size2.pure mkind mfrom0 minc mlo mhi mseq mtarget mlife mepoch mbase mrecs hl), ?_, h⟩
    intro rs ros hk
    unfold Size2.k at hk
    split at hk
    · first | (cases hk; exact ⟨rfl, rfl⟩) | (have e := Option.some.inj hk; rw [← e]; exact ⟨rfl, rfl⟩)
    · cases hk
  · cases h
theorem s_fits2_det : SumDet s_fits2 := fun avs objs R κ => by
  show s_fits2.run avs objs (two κ) = (s_fits2.run avs objs (two some)).bind κ
  unfold s_fits2
  simp only
  split
  · first | rfl | (split <;> rfl)
  · rfl
theorem s_fits2_ok : SumOk Try.prog 27 s_fits2 := by
  have hE : EnvOk Try.prog Fits2_E := env_ok (l := [(20, s_valid), (29, s_size2)]) th_ok any_ok ⟨⟨s_valid_ok, s_valid_det⟩, ⟨s_size2_ok, s_size2_det⟩, trivial⟩ _
  refine sum_ok hE Try.func27 rfl (by kernel_rfl) s_fits2 [.raw] Fits2.k ?_
  intro R avs objs κ r h
  unfold s_fits2 at h
  simp only at h
  split at h
  · rename_i mkind mfrom0 minc mlo mhi mseq mtarget mlife mepoch mbase mrecs
    split at h
    case isFalse => cases h
    rename_i hl
    refine ⟨mrecs.length + 1, _, _, _, (Fits2.eq (mrecs.length + 1) mkind mfrom0 minc mlo mhi mseq mtarget mlife mepoch mbase mrecs).trans (Fits2.pure mkind mfrom0 minc mlo mhi mseq mtarget mlife mepoch mbase mrecs hl), ?_, h⟩
    intro rs ros hk
    unfold Fits2.k at hk
    split at hk
    · first | (cases hk; exact ⟨rfl, rfl⟩) | (have e := Option.some.inj hk; rw [← e]; exact ⟨rfl, rfl⟩)
    · cases hk
  · cases h
theorem s_item13_det : SumDet s_item13 := fun avs objs R κ => by
  show s_item13.run avs objs (two κ) = (s_item13.run avs objs (two some)).bind κ
  unfold s_item13
  simp only
  split
  · first | rfl | (split <;> rfl)
  · rfl
theorem s_item13_ok : SumOk Try.prog 66 s_item13 := by
  have hE : EnvOk Try.prog Item13_E := env_ok (l := []) th_ok any_ok trivial _
  refine sum_ok hE Try.func66 rfl (by kernel_rfl) s_item13 [.own 5 (.int .u8)] Item13.k ?_
  intro R avs objs κ r h
  unfold s_item13 at h
  simp only at h
  split at h
  · rename_i t n v l
    split at h
    case isFalse => cases h
    rename_i hl
    refine ⟨9, _, _, _, (Item13.eq (9) t n v l).trans (Item13.pure t n v l hl.1 hl.2.1 hl.2.2), ?_, h⟩
    intro rs ros hk
    unfold Item13.k at hk
    split at hk
    · first | (cases hk; exact ⟨rfl, rfl⟩) | (have e := Option.some.inj hk; rw [← e]; exact ⟨rfl, rfl⟩)
    · cases hk
  · cases h
theorem s_tnum_det : SumDet s_tnum := fun avs objs R κ => by
  show s_tnum.run avs objs (two κ) = (s_tnum.run avs objs (two some)).bind κ
  unfold s_tnum
  simp only
  split
  · first | rfl | (split <;> rfl)
  · rfl
theorem s_tnum_ok : SumOk Try.prog 62 s_tnum := by
  have hE : EnvOk Try.prog TNum_E := env_ok (l := [(42, s_write), (43, s_num), (46, s_bytes)]) th_ok any_ok ⟨⟨s_write_ok, s_write_det⟩, ⟨s_num_ok, s_num_det⟩, ⟨s_bytes_ok, s_bytes_det⟩, trivial⟩ _
  refine sum_ok hE Try.func62 rfl (by kernel_rfl) s_tnum [.dat (.pair (.int .i64) (.sl (.int .u8))) true] TNum.k ?_
  intro R avs objs κ r h
  unfold s_tnum at h
  simp only at h
  split at h
  · rename_i t n v
    split at h
    case isFalse => cases h
    rename_i hl
    refine ⟨0, _, _, _, (TNum.eq (0) t n v).trans (TNum.pure t n v hl), ?_, h⟩
    intro rs ros hk
    unfold TNum.k at hk
    split at hk
    · first | (cases hk; exact ⟨rfl, rfl⟩) | (have e := Option.some.inj hk; rw [← e]; exact ⟨rfl, rfl⟩)
    · cases hk
  · cases h
end Go.Proofs.Ytlmljpmohljefaa

/- printed by denfn.py -/
set_option linter.unusedVariables false
namespace Go.Proofs.Ytlmljpmohljefaa
open Go.Den
noncomputable def fieldB (x : (Int × List Int)) : List Int := x.1 :: ((x.2.length / 256 : Nat) : Int) :: ((x.2.length % 256 : Nat) : Int) :: x.2
noncomputable def itB (t n v : Int) : List Int := t :: 0 :: n :: be n.toNat v
noncomputable def cutSt (r : (Int × Int × Int × (Int × Int) × Bool × List (Int × List Int))) : Int := if r.2.2.2.2.1 then r.2.2.1 + 128 else r.2.2.1
noncomputable def innerL (r : (Int × Int × Int × (Int × Int) × Bool × List (Int × List Int))) : List Int := itB 1 2 r.1 ++ (itB 2 4 r.2.1 ++ (itB 3 1 (cutSt r) ++ (itB 4 1 (r.2.2.2.1.1 * 16 + r.2.2.2.1.2) ++ r.2.2.2.2.2.flatMap fieldB)))
noncomputable def recB2 (r : (Int × Int × Int × (Int × Int) × Bool × List (Int × List Int))) : List Int := fieldB (7, innerL r)
noncomputable def body2 (kind from0 inc lo hi seq target : Int) (recs : List (Int × Int × Int × (Int × Int) × Bool × List (Int × List Int))) : List Int :=
  itB 1 1 kind ++ (itB 2 2 from0 ++ (itB 3 6 inc ++ (itB 4 1 (lo * 16 + hi) ++ ((if hasF kind 0 then itB 5 2 seq else []) ++ ((if hasF kind 1 then itB 6 2 target else []) ++ recs.flatMap recB2)))))
noncomputable def recFit (r : (Int × Int × Int × (Int × Int) × Bool × List (Int × List Int))) : Bool := recOkT r && smallBag r.2.2.2.2.2
noncomputable def recFit2 (r : (Int × Int × Int × (Int × Int) × Bool × List (Int × List Int))) : Bool := recFit r && decide (r.2.1 ≤ 4294967295)
noncomputable def withinL (r : (Int × Int × Int × (Int × Int) × Bool × List (Int × List Int))) : List (Int × List Int) := [(1, be 2 r.1), (2, be 4 r.2.1), (3, be 1 (cutSt r)), (4, be 1 (r.2.2.2.1.1 * 16 + r.2.2.2.1.2))] ++ r.2.2.2.2.2
noncomputable def fits13 (kind from0 inc lo hi seq target life epoch base : Int) (recs : List (Int × Int × Int × (Int × Int) × Bool × List (Int × List Int))) : Bool :=
  if !validF kind from0 inc lo hi seq target life epoch base recs || (kind == 9 || (life != 0 || (epoch != 0 || base != 0))) then false else if !fit2Go recs then false else decide (((body2 kind from0 inc lo hi seq target recs).length : Int) ≤ 65499)
noncomputable def joinOk (l : List (Int × List Int)) : Bool := decide (l.length ≤ 300) && l.all fun x => tagOk x.1 && decide (x.2.length ≤ 65535)
noncomputable def enc2 (kind from0 inc lo hi seq target life epoch base : Int) (recs : List (Int × Int × Int × (Int × Int) × Bool × List (Int × List Int))) : List Int × Int :=
  if !validF kind from0 inc lo hi seq target life epoch base recs then ([], 1) else if !fits2 kind from0 inc lo hi seq target life epoch base recs then ([], 14) else (body2 kind from0 inc lo hi seq target recs, 0)
noncomputable def s_inner13 : Den.Sum := ⟨[.dat (.pair (.int .i64) (.pair (.int .i64) (.pair (.int .i64) (.pair (.pair (.int .i64) (.int .i64)) (.pair .bool (.sl (.pair (.int .i64) (.sl (.int .u8))))))))) true], fun args objs κ => match args, objs with
  | [.agg [.d (.int .i64) rid, .d (.int .i64) rinc, .d (.int .i64) rst, .d (.int .i64) rlo, .d (.int .i64) rhi, .d .bool rcut, .d (.sl (.pair (.int .i64) (.sl (.int .u8)))) rbag]], [] => if recFit (rid, rinc, rst, (rlo, rhi), rcut, rbag) = true then κ [.d (.sl (.int .u8)) (innerL (rid, rinc, rst, (rlo, rhi), rcut, rbag))] [] else none
  | _, _ => none⟩
noncomputable def s_body13 : Den.Sum := ⟨[.dat (.pair (.int .i64) (.pair (.int .i64) (.pair (.int .i64) (.pair (.pair (.int .i64) (.int .i64)) (.pair (.int .i64) (.pair (.int .i64) (.pair (.int .i64) (.pair (.int .i64) (.pair (.int .i64) (.sl (.pair (.int .i64) (.pair (.int .i64) (.pair (.int .i64) (.pair (.pair (.int .i64) (.int .i64)) (.pair .bool (.sl (.pair (.int .i64) (.sl (.int .u8))))))))))))))))))) true], fun args objs κ => match args, objs with
  | [.agg [.d (.int .i64) mkind, .d (.int .i64) mfrom0, .d (.int .i64) minc, .d (.int .i64) mlo, .d (.int .i64) mhi, .d (.int .i64) mseq, .d (.int .i64) mtarget, .d (.int .i64) mlife, .d (.int .i64) mepoch, .d (.int .i64) mbase, .d (.sl (.pair (.int .i64) (.pair (.int .i64) (.pair (.int .i64) (.pair (.pair (.int .i64) (.int .i64)) (.pair .bool (.sl (.pair (.int .i64) (.sl (.int .u8)))))))))) mrecs]], [] => if (validF mkind mfrom0 minc mlo mhi mseq mtarget mlife mepoch mbase mrecs && smallRecs mrecs) = true then κ [.d (.sl (.int .u8)) (body2 mkind mfrom0 minc mlo mhi mseq mtarget mrecs)] [] else none
  | _, _ => none⟩
noncomputable def s_fits13 : Den.Sum := ⟨[.dat (.pair (.int .i64) (.pair (.int .i64) (.pair (.int .i64) (.pair (.pair (.int .i64) (.int .i64)) (.pair (.int .i64) (.pair (.int .i64) (.pair (.int .i64) (.pair (.int .i64) (.pair (.int .i64) (.sl (.pair (.int .i64) (.pair (.int .i64) (.pair (.int .i64) (.pair (.pair (.int .i64) (.int .i64)) (.pair .bool (.sl (.pair (.int .i64) (.sl (.int .u8))))))))))))))))))) true], fun args objs κ => match args, objs with
  | [.agg [.d (.int .i64) mkind, .d (.int .i64) mfrom0, .d (.int .i64) minc, .d (.int .i64) mlo, .d (.int .i64) mhi, .d (.int .i64) mseq, .d (.int .i64) mtarget, .d (.int .i64) mlife, .d (.int .i64) mepoch, .d (.int .i64) mbase, .d (.sl (.pair (.int .i64) (.pair (.int .i64) (.pair (.int .i64) (.pair (.pair (.int .i64) (.int .i64)) (.pair .bool (.sl (.pair (.int .i64) (.sl (.int .u8)))))))))) mrecs]], [] => if smallRecs mrecs = true then κ [.d .bool (fits13 mkind mfrom0 minc mlo mhi mseq mtarget mlife mepoch mbase mrecs)] [] else none
  | _, _ => none⟩
noncomputable def s_within2 : Den.Sum := ⟨[.dat (.pair (.int .i64) (.pair (.int .i64) (.pair (.int .i64) (.pair (.pair (.int .i64) (.int .i64)) (.pair .bool (.sl (.pair (.int .i64) (.sl (.int .u8))))))))) true], fun args objs κ => match args, objs with
  | [.agg [.d (.int .i64) rid, .d (.int .i64) rinc, .d (.int .i64) rst, .d (.int .i64) rlo, .d (.int .i64) rhi, .d .bool rcut, .d (.sl (.pair (.int .i64) (.sl (.int .u8)))) rbag]], [] => if recFit2 (rid, rinc, rst, (rlo, rhi), rcut, rbag) = true then κ [.d (.sl (.pair (.int .i64) (.sl (.int .u8)))) (withinL (rid, rinc, rst, (rlo, rhi), rcut, rbag))] [] else none
  | _, _ => none⟩
noncomputable def s_join : Den.Sum := ⟨[.dat (.sl (.pair (.int .i64) (.sl (.int .u8)))) false], fun args objs κ => match args, objs with
  | [.d (.sl (.pair (.int .i64) (.sl (.int .u8)))) l], [] => if joinOk l = true then κ [.d (.sl (.int .u8)) (l.flatMap fieldB), .d (.int .i64) 0] [] else none
  | _, _ => none⟩
noncomputable def s_enc2 : Den.Sum := ⟨[.dat (.pair (.int .i64) (.pair (.int .i64) (.pair (.int .i64) (.pair (.pair (.int .i64) (.int .i64)) (.pair (.int .i64) (.pair (.int .i64) (.pair (.int .i64) (.pair (.int .i64) (.pair (.int .i64) (.sl (.pair (.int .i64) (.pair (.int .i64) (.pair (.int .i64) (.pair (.pair (.int .i64) (.int .i64)) (.pair .bool (.sl (.pair (.int .i64) (.sl (.int .u8))))))))))))))))))) true], fun args objs κ => match args, objs with
  | [.agg [.d (.int .i64) mkind, .d (.int .i64) mfrom0, .d (.int .i64) minc, .d (.int .i64) mlo, .d (.int .i64) mhi, .d (.int .i64) mseq, .d (.int .i64) mtarget, .d (.int .i64) mlife, .d (.int .i64) mepoch, .d (.int .i64) mbase, .d (.sl (.pair (.int .i64) (.pair (.int .i64) (.pair (.int .i64) (.pair (.pair (.int .i64) (.int .i64)) (.pair .bool (.sl (.pair (.int .i64) (.sl (.int .u8)))))))))) mrecs]], [] => if smallRecs mrecs = true then κ [.d (.sl (.int .u8)) (enc2 mkind mfrom0 minc mlo mhi mseq mtarget mlife mepoch mbase mrecs).1, .d (.int .i64) (enc2 mkind mfrom0 minc mlo mhi mseq mtarget mlife mepoch mbase mrecs).2] [] else none
  | _, _ => none⟩
noncomputable def Inner13_E : Env := ⟨th, gam [(66, s_item13)], fun i => if i = 8 then ⟨[1, 3, 4], [], []⟩ else ⟨[], [], []⟩⟩
noncomputable def Inner13.k (rs : List AV) (os : List Den.Obj) : Option (List Int) :=
  match rs, os with
  | [.d (.sl (.int .u8)) r0], [] => some r0
  | _, _ => none
noncomputable def Inner13.s8 (rid : Int) (rinc : Int) (rst : Int) (rlo : Int) (rhi : Int) (rcut : Bool) (rbag : List (Int × List Int)) (x0 : Int) (x1 : (List Int)) : St := ⟨[.dead, .ptr 64 0, .dead, .row 65, .d (.int .i64) x0, .dead, .dead, .dead, .dead, .dead, .dead, .dead, .dead, .dead, .dead, .dead, .dead, .dead, .dead, .dead, .dead, .dead, .dead, .dead, .dead, .dead, .dead, .dead, .dead, .dead, .dead, .dead, .dead, .dead, .dead, .dead, .dead, .dead, .dead, .dead, .dead, .dead, .dead, .dead, .dead, .dead, .dead, .dead, .dead, .dead, .dead, .dead, .dead, .dead, .dead, .dead, .dead, .dead, .dead, .dead, .dead, .dead, .dead, .dead, .dead, .dead, .dead, .dead, .dead, .dead, .dead, .dead, .dead], ofL [(64, .box [.d (.int .i64) (rid), .d (.int .i64) (rinc), .d (.int .i64) (rst), .d (.int .i64) (rlo), .d (.int .i64) (rhi), .d .bool (rcut), .d (.sl (.pair (.int .i64) (.sl (.int .u8)))) (rbag)]), (65, .row 5 (.int .u8) x1 false)], 0⟩
noncomputable def Inner13.b8 (rid : Int) (rinc : Int) (rst : Int) (rlo : Int) (rhi : Int) (rcut : Bool) (rbag : List (Int × List Int)) (A8 : Int → (List Int) → Option (List Int)) (x0 : Int) (x1 : (List Int)) : Option (List Int) :=
  (if (decide (x0 < ((((List.length rbag)) : Nat) : Int))) then (match (idx rbag x0) with | none => none | some y2 => (match (idx rbag x0) with | none => none | some y3 => (if ((((List.length x1) + (List.length ((Go.IntKind.wrap .u8 y3.1) :: ((Go.IntKind.wrap .u8 (Go.IntKind.wrap .i64 (Int.tdiv ((((List.length y2.2)) : Nat) : Int) (256 : Int)))) :: ((Go.IntKind.wrap .u8 (Int.tmod ((((List.length y2.2)) : Nat) : Int) (256 : Int))) :: ([] : List Int)))))) * (1 : Nat)) ≤ lim) then (match (idx rbag x0) with | none => none | some y4 => (if ((((List.length (x1 ++ ((Go.IntKind.wrap .u8 y3.1) :: ((Go.IntKind.wrap .u8 (Go.IntKind.wrap .i64 (Int.tdiv ((((List.length y2.2)) : Nat) : Int) (256 : Int)))) :: ((Go.IntKind.wrap .u8 (Int.tmod ((((List.length y2.2)) : Nat) : Int) (256 : Int))) :: ([] : List Int)))))) + (List.length y4.2)) * (1 : Nat)) ≤ lim) then A8 (Go.IntKind.wrap .i64 (x0 + (1 : Int))) ((x1 ++ ((Go.IntKind.wrap .u8 y3.1) :: ((Go.IntKind.wrap .u8 (Go.IntKind.wrap .i64 (Int.tdiv ((((List.length y2.2)) : Nat) : Int) (256 : Int)))) :: ((Go.IntKind.wrap .u8 (Int.tmod ((((List.length y2.2)) : Nat) : Int) (256 : Int))) :: ([] : List Int))))) ++ y4.2) else none)) else none))) else some (x1))
noncomputable def Inner13.l8 (fuel : Nat) (rid : Int) (rinc : Int) (rst : Int) (rlo : Int) (rhi : Int) (rcut : Bool) (rbag : List (Int × List Int)) : Nat → Int → (List Int) → Option (List Int)
  | 0, _, _ => none
  | k + 1, x0, x1 => Inner13.b8 rid rinc rst rlo rhi rcut rbag (Inner13.l8 fuel rid rinc rst rlo rhi rcut rbag k) x0 x1
noncomputable def Inner13.b (rid : Int) (rinc : Int) (rst : Int) (rlo : Int) (rhi : Int) (rcut : Bool) (rbag : List (Int × List Int)) (E8 : Int → (List Int) → Option (List Int)) : Option (List Int) :=
  (if ((numOk (2 : Int) rid) ∧ ((tagOk (1 : Int)) ∧ (roomy ([] : List Int)))) then (if ((numOk (4 : Int) rinc) ∧ ((tagOk (2 : Int)) ∧ (roomy (([] : List Int) ++ ((1 : Int) :: (0 :: ((2 : Int) :: (be (Int.toNat (2 : Int)) rid)))))))) then (if rcut then (if ((numOk (1 : Int) (Go.IntKind.wrap .i64 (rst + (128 : Int)))) ∧ ((tagOk (3 : Int)) ∧ (roomy ((([] : List Int) ++ ((1 : Int) :: (0 :: ((2 : Int) :: (be (Int.toNat (2 : Int)) rid))))) ++ ((2 : Int) :: (0 :: ((4 : Int) :: (be (Int.toNat (4 : Int)) rinc)))))))) then (if ((numOk (1 : Int) (Go.IntKind.wrap .i64 ((Go.IntKind.wrap .i64 (rlo * (16 : Int))) + rhi))) ∧ ((tagOk (4 : Int)) ∧ (roomy (((([] : List Int) ++ ((1 : Int) :: (0 :: ((2 : Int) :: (be (Int.toNat (2 : Int)) rid))))) ++ ((2 : Int) :: (0 :: ((4 : Int) :: (be (Int.toNat (4 : Int)) rinc))))) ++ ((3 : Int) :: (0 :: ((1 : Int) :: (be (Int.toNat (1 : Int)) (Go.IntKind.wrap .i64 (rst + (128 : Int))))))))))) then E8 (0 : Int) ((((([] : List Int) ++ ((1 : Int) :: (0 :: ((2 : Int) :: (be (Int.toNat (2 : Int)) rid))))) ++ ((2 : Int) :: (0 :: ((4 : Int) :: (be (Int.toNat (4 : Int)) rinc))))) ++ ((3 : Int) :: (0 :: ((1 : Int) :: (be (Int.toNat (1 : Int)) (Go.IntKind.wrap .i64 (rst + (128 : Int)))))))) ++ ((4 : Int) :: (0 :: ((1 : Int) :: (be (Int.toNat (1 : Int)) (Go.IntKind.wrap .i64 ((Go.IntKind.wrap .i64 (rlo * (16 : Int))) + rhi))))))) else none) else none) else (if ((numOk (1 : Int) rst) ∧ ((tagOk (3 : Int)) ∧ (roomy ((([] : List Int) ++ ((1 : Int) :: (0 :: ((2 : Int) :: (be (Int.toNat (2 : Int)) rid))))) ++ ((2 : Int) :: (0 :: ((4 : Int) :: (be (Int.toNat (4 : Int)) rinc)))))))) then (if ((numOk (1 : Int) (Go.IntKind.wrap .i64 ((Go.IntKind.wrap .i64 (rlo * (16 : Int))) + rhi))) ∧ ((tagOk (4 : Int)) ∧ (roomy (((([] : List Int) ++ ((1 : Int) :: (0 :: ((2 : Int) :: (be (Int.toNat (2 : Int)) rid))))) ++ ((2 : Int) :: (0 :: ((4 : Int) :: (be (Int.toNat (4 : Int)) rinc))))) ++ ((3 : Int) :: (0 :: ((1 : Int) :: (be (Int.toNat (1 : Int)) rst)))))))) then E8 (0 : Int) ((((([] : List Int) ++ ((1 : Int) :: (0 :: ((2 : Int) :: (be (Int.toNat (2 : Int)) rid))))) ++ ((2 : Int) :: (0 :: ((4 : Int) :: (be (Int.toNat (4 : Int)) rinc))))) ++ ((3 : Int) :: (0 :: ((1 : Int) :: (be (Int.toNat (1 : Int)) rst))))) ++ ((4 : Int) :: (0 :: ((1 : Int) :: (be (Int.toNat (1 : Int)) (Go.IntKind.wrap .i64 ((Go.IntKind.wrap .i64 (rlo * (16 : Int))) + rhi))))))) else none) else none)) else none) else none)
noncomputable def Inner13.f (fuel : Nat) (rid : Int) (rinc : Int) (rst : Int) (rlo : Int) (rhi : Int) (rcut : Bool) (rbag : List (Int × List Int)) : Option (List Int) := Inner13.b rid rinc rst rlo rhi rcut rbag (Inner13.l8 fuel rid rinc rst rlo rhi rcut rbag fuel)
theorem Inner13.l8_eq (fuel : Nat) (rid : Int) (rinc : Int) (rst : Int) (rlo : Int) (rhi : Int) (rcut : Bool) (rbag : List (Int × List Int)) : ∀ (k : Nat) (x0 : Int) (x1 : (List Int)), lp Inner13_E fuel Try.f67 [.dat (.sl (.int .u8)) false] 0 Inner13.k 8 [] k (Inner13.s8 rid rinc rst rlo rhi rcut rbag x0 x1) = Inner13.l8 fuel rid rinc rst rlo rhi rcut rbag k x0 x1 := by
  intro k
  induction k with
  | zero => intro x0 x1; rfl
  | succ k ih =>
    intro x0 x1
    have h : lp Inner13_E fuel Try.f67 [.dat (.sl (.int .u8)) false] 0 Inner13.k 8 [] (k + 1) (Inner13.s8 rid rinc rst rlo rhi rcut rbag x0 x1) = Inner13.b8 rid rinc rst rlo rhi rcut rbag (fun x0 x1 => lp Inner13_E fuel Try.f67 [.dat (.sl (.int .u8)) false] 0 Inner13.k 8 [] k (Inner13.s8 rid rinc rst rlo rhi rcut rbag x0 x1)) x0 x1 := by kernel_rfl
    rw [h]
    have e8 : (fun x0 x1 => lp Inner13_E fuel Try.f67 [.dat (.sl (.int .u8)) false] 0 Inner13.k 8 [] k (Inner13.s8 rid rinc rst rlo rhi rcut rbag x0 x1)) = Inner13.l8 fuel rid rinc rst rlo rhi rcut rbag k := (funext fun x0 => (funext fun x1 => ih x0 x1))
    rw [e8]
    rfl
theorem Inner13.eq (fuel : Nat) (rid : Int) (rinc : Int) (rst : Int) (rlo : Int) (rhi : Int) (rcut : Bool) (rbag : List (Int × List Int)) : (denF Inner13_E loopN fuel Try.f67 [.dat (.sl (.int .u8)) false] [.agg [.d (.int .i64) rid, .d (.int .i64) rinc, .d (.int .i64) rst, .d (.int .i64) rlo, .d (.int .i64) rhi, .d .bool rcut, .d (.sl (.pair (.int .i64) (.sl (.int .u8)))) rbag]] [] Inner13.k) = Inner13.f fuel rid rinc rst rlo rhi rcut rbag := by
  have h : (denF Inner13_E loopN fuel Try.f67 [.dat (.sl (.int .u8)) false] [.agg [.d (.int .i64) rid, .d (.int .i64) rinc, .d (.int .i64) rst, .d (.int .i64) rlo, .d (.int .i64) rhi, .d .bool rcut, .d (.sl (.pair (.int .i64) (.sl (.int .u8)))) rbag]] [] Inner13.k) = Inner13.b rid rinc rst rlo rhi rcut rbag (fun x0 x1 => lp Inner13_E fuel Try.f67 [.dat (.sl (.int .u8)) false] 0 Inner13.k 8 [] fuel (Inner13.s8 rid rinc rst rlo rhi rcut rbag x0 x1)) := by kernel_rfl
  rw [h]
  have e8 : (fun x0 x1 => lp Inner13_E fuel Try.f67 [.dat (.sl (.int .u8)) false] 0 Inner13.k 8 [] fuel (Inner13.s8 rid rinc rst rlo rhi rcut rbag x0 x1)) = Inner13.l8 fuel rid rinc rst rlo rhi rcut rbag fuel := (funext fun x0 => (funext fun x1 => Inner13.l8_eq fuel rid rinc rst rlo rhi rcut rbag fuel x0 x1))
  rw [e8]
  rfl


noncomputable def Body13_E : Env := ⟨th, gam [(66, s_item13), (50, s_has), (67, s_inner13)], fun i => if i = 10 then ⟨[1, 3, 4], [], []⟩ else ⟨[], [], []⟩⟩
noncomputable def Body13.k (rs : List AV) (os : List Den.Obj) : Option (List Int) :=
  match rs, os with
  | [.d (.sl (.int .u8)) r0], [] => some r0
  | _, _ => none
noncomputable def Body13.s10 (mkind : Int) (mfrom0 : Int) (minc : Int) (mlo : Int) (mhi : Int) (mseq : Int) (mtarget : Int) (mlife : Int) (mepoch : Int) (mbase : Int) (mrecs : List (Int × Int × Int × (Int × Int) × Bool × List (Int × List Int))) (x0 : Int) (x1 : (List Int)) : St := ⟨[.dead, .ptr 64 0, .dead, .row 65, .d (.int .i64) x0, .dead, .dead, .dead, .dead, .dead, .dead, .dead, .dead, .dead, .dead, .dead, .dead, .dead, .dead, .dead, .dead, .dead, .dead, .dead, .dead, .dead, .dead, .dead, .dead, .dead, .dead, .dead, .dead, .dead, .dead, .dead, .dead, .dead, .dead, .dead, .dead, .dead, .dead, .dead, .dead, .dead, .dead, .dead, .dead, .dead, .dead, .dead, .dead, .dead, .dead, .dead, .dead, .dead, .dead, .dead, .dead, .dead, .dead, .dead, .dead, .dead, .dead, .dead, .dead], ofL [(64, .box [.d (.int .i64) (mkind), .d (.int .i64) (mfrom0), .d (.int .i64) (minc), .d (.int .i64) (mlo), .d (.int .i64) (mhi), .d (.int .i64) (mseq), .d (.int .i64) (mtarget), .d (.int .i64) (mlife), .d (.int .i64) (mepoch), .d (.int .i64) (mbase), .d (.sl (.pair (.int .i64) (.pair (.int .i64) (.pair (.int .i64) (.pair (.pair (.int .i64) (.int .i64)) (.pair .bool (.sl (.pair (.int .i64) (.sl (.int .u8)))))))))) (mrecs)]), (65, .row 5 (.int .u8) x1 false)], 0⟩
noncomputable def Body13.b10 (mkind : Int) (mfrom0 : Int) (minc : Int) (mlo : Int) (mhi : Int) (mseq : Int) (mtarget : Int) (mlife : Int) (mepoch : Int) (mbase : Int) (mrecs : List (Int × Int × Int × (Int × Int) × Bool × List (Int × List Int))) (A10 : Int → (List Int) → Option (List Int)) (x0 : Int) (x1 : (List Int)) : Option (List Int) :=
  (if (decide (x0 < ((((List.length mrecs)) : Nat) : Int))) then (match (idx mrecs x0) with | none => none | some y2 => (if (recFit (y2.1, (y2.2.1, (y2.2.2.1, ((y2.2.2.2.1.1, y2.2.2.2.1.2), (y2.2.2.2.2.1, y2.2.2.2.2.2)))))) then (if ((((List.length x1) + (List.length ((7 : Int) :: ((Go.IntKind.wrap .u8 (Go.IntKind.wrap .i64 (Int.tdiv ((((List.length (innerL (y2.1, (y2.2.1, (y2.2.2.1, ((y2.2.2.2.1.1, y2.2.2.2.1.2), (y2.2.2.2.2.1, y2.2.2.2.2.2)))))))) : Nat) : Int) (256 : Int)))) :: ((Go.IntKind.wrap .u8 (Int.tmod ((((List.length (innerL (y2.1, (y2.2.1, (y2.2.2.1, ((y2.2.2.2.1.1, y2.2.2.2.1.2), (y2.2.2.2.2.1, y2.2.2.2.2.2)))))))) : Nat) : Int) (256 : Int))) :: ([] : List Int)))))) * (1 : Nat)) ≤ lim) then (if ((((List.length (x1 ++ ((7 : Int) :: ((Go.IntKind.wrap .u8 (Go.IntKind.wrap .i64 (Int.tdiv ((((List.length (innerL (y2.1, (y2.2.1, (y2.2.2.1, ((y2.2.2.2.1.1, y2.2.2.2.1.2), (y2.2.2.2.2.1, y2.2.2.2.2.2)))))))) : Nat) : Int) (256 : Int)))) :: ((Go.IntKind.wrap .u8 (Int.tmod ((((List.length (innerL (y2.1, (y2.2.1, (y2.2.2.1, ((y2.2.2.2.1.1, y2.2.2.2.1.2), (y2.2.2.2.2.1, y2.2.2.2.2.2)))))))) : Nat) : Int) (256 : Int))) :: ([] : List Int)))))) + (List.length (innerL (y2.1, (y2.2.1, (y2.2.2.1, ((y2.2.2.2.1.1, y2.2.2.2.1.2), (y2.2.2.2.2.1, y2.2.2.2.2.2)))))))) * (1 : Nat)) ≤ lim) then A10 (Go.IntKind.wrap .i64 (x0 + (1 : Int))) ((x1 ++ ((7 : Int) :: ((Go.IntKind.wrap .u8 (Go.IntKind.wrap .i64 (Int.tdiv ((((List.length (innerL (y2.1, (y2.2.1, (y2.2.2.1, ((y2.2.2.2.1.1, y2.2.2.2.1.2), (y2.2.2.2.2.1, y2.2.2.2.2.2)))))))) : Nat) : Int) (256 : Int)))) :: ((Go.IntKind.wrap .u8 (Int.tmod ((((List.length (innerL (y2.1, (y2.2.1, (y2.2.2.1, ((y2.2.2.2.1.1, y2.2.2.2.1.2), (y2.2.2.2.2.1, y2.2.2.2.2.2)))))))) : Nat) : Int) (256 : Int))) :: ([] : List Int))))) ++ (innerL (y2.1, (y2.2.1, (y2.2.2.1, ((y2.2.2.2.1.1, y2.2.2.2.1.2), (y2.2.2.2.2.1, y2.2.2.2.2.2))))))) else none) else none) else none)) else some (x1))
noncomputable def Body13.l10 (fuel : Nat) (mkind : Int) (mfrom0 : Int) (minc : Int) (mlo : Int) (mhi : Int) (mseq : Int) (mtarget : Int) (mlife : Int) (mepoch : Int) (mbase : Int) (mrecs : List (Int × Int × Int × (Int × Int) × Bool × List (Int × List Int))) : Nat → Int → (List Int) → Option (List Int)
  | 0, _, _ => none
  | k + 1, x0, x1 => Body13.b10 mkind mfrom0 minc mlo mhi mseq mtarget mlife mepoch mbase mrecs (Body13.l10 fuel mkind mfrom0 minc mlo mhi mseq mtarget mlife mepoch mbase mrecs k) x0 x1
noncomputable def Body13.b (mkind : Int) (mfrom0 : Int) (minc : Int) (mlo : Int) (mhi : Int) (mseq : Int) (mtarget : Int) (mlife : Int) (mepoch : Int) (mbase : Int) (mrecs : List (Int × Int × Int × (Int × Int) × Bool × List (Int × List Int))) (E10 : Int → (List Int) → Option (List Int)) : Option (List Int) :=
  (if ((numOk (1 : Int) mkind) ∧ ((tagOk (1 : Int)) ∧ (roomy ([] : List Int)))) then (if ((numOk (2 : Int) mfrom0) ∧ ((tagOk (2 : Int)) ∧ (roomy (([] : List Int) ++ ((1 : Int) :: (0 :: ((1 : Int) :: (be (Int.toNat (1 : Int)) mkind)))))))) then (if ((numOk (6 : Int) minc) ∧ ((tagOk (3 : Int)) ∧ (roomy ((([] : List Int) ++ ((1 : Int) :: (0 :: ((1 : Int) :: (be (Int.toNat (1 : Int)) mkind))))) ++ ((2 : Int) :: (0 :: ((2 : Int) :: (be (Int.toNat (2 : Int)) mfrom0)))))))) then (if ((numOk (1 : Int) (Go.IntKind.wrap .i64 ((Go.IntKind.wrap .i64 (mlo * (16 : Int))) + mhi))) ∧ ((tagOk (4 : Int)) ∧ (roomy (((([] : List Int) ++ ((1 : Int) :: (0 :: ((1 : Int) :: (be (Int.toNat (1 : Int)) mkind))))) ++ ((2 : Int) :: (0 :: ((2 : Int) :: (be (Int.toNat (2 : Int)) mfrom0))))) ++ ((3 : Int) :: (0 :: ((6 : Int) :: (be (Int.toNat (6 : Int)) minc)))))))) then (if (hasF mkind (0 : Int)) then (if ((numOk (2 : Int) mseq) ∧ ((tagOk (5 : Int)) ∧ (roomy ((((([] : List Int) ++ ((1 : Int) :: (0 :: ((1 : Int) :: (be (Int.toNat (1 : Int)) mkind))))) ++ ((2 : Int) :: (0 :: ((2 : Int) :: (be (Int.toNat (2 : Int)) mfrom0))))) ++ ((3 : Int) :: (0 :: ((6 : Int) :: (be (Int.toNat (6 : Int)) minc))))) ++ ((4 : Int) :: (0 :: ((1 : Int) :: (be (Int.toNat (1 : Int)) (Go.IntKind.wrap .i64 ((Go.IntKind.wrap .i64 (mlo * (16 : Int))) + mhi)))))))))) then (if (hasF mkind (1 : Int)) then (if ((numOk (2 : Int) mtarget) ∧ ((tagOk (6 : Int)) ∧ (roomy (((((([] : List Int) ++ ((1 : Int) :: (0 :: ((1 : Int) :: (be (Int.toNat (1 : Int)) mkind))))) ++ ((2 : Int) :: (0 :: ((2 : Int) :: (be (Int.toNat (2 : Int)) mfrom0))))) ++ ((3 : Int) :: (0 :: ((6 : Int) :: (be (Int.toNat (6 : Int)) minc))))) ++ ((4 : Int) :: (0 :: ((1 : Int) :: (be (Int.toNat (1 : Int)) (Go.IntKind.wrap .i64 ((Go.IntKind.wrap .i64 (mlo * (16 : Int))) + mhi))))))) ++ ((5 : Int) :: (0 :: ((2 : Int) :: (be (Int.toNat (2 : Int)) mseq)))))))) then E10 (0 : Int) ((((((([] : List Int) ++ ((1 : Int) :: (0 :: ((1 : Int) :: (be (Int.toNat (1 : Int)) mkind))))) ++ ((2 : Int) :: (0 :: ((2 : Int) :: (be (Int.toNat (2 : Int)) mfrom0))))) ++ ((3 : Int) :: (0 :: ((6 : Int) :: (be (Int.toNat (6 : Int)) minc))))) ++ ((4 : Int) :: (0 :: ((1 : Int) :: (be (Int.toNat (1 : Int)) (Go.IntKind.wrap .i64 ((Go.IntKind.wrap .i64 (mlo * (16 : Int))) + mhi))))))) ++ ((5 : Int) :: (0 :: ((2 : Int) :: (be (Int.toNat (2 : Int)) mseq))))) ++ ((6 : Int) :: (0 :: ((2 : Int) :: (be (Int.toNat (2 : Int)) mtarget))))) else none) else E10 (0 : Int) (((((([] : List Int) ++ ((1 : Int) :: (0 :: ((1 : Int) :: (be (Int.toNat (1 : Int)) mkind))))) ++ ((2 : Int) :: (0 :: ((2 : Int) :: (be (Int.toNat (2 : Int)) mfrom0))))) ++ ((3 : Int) :: (0 :: ((6 : Int) :: (be (Int.toNat (6 : Int)) minc))))) ++ ((4 : Int) :: (0 :: ((1 : Int) :: (be (Int.toNat (1 : Int)) (Go.IntKind.wrap .i64 ((Go.IntKind.wrap .i64 (mlo * (16 : Int))) + mhi))))))) ++ ((5 : Int) :: (0 :: ((2 : Int) :: (be (Int.toNat (2 : Int)) mseq)))))) else none) else (if (hasF mkind (1 : Int)) then (if ((numOk (2 : Int) mtarget) ∧ ((tagOk (6 : Int)) ∧ (roomy ((((([] : List Int) ++ ((1 : Int) :: (0 :: ((1 : Int) :: (be (Int.toNat (1 : Int)) mkind))))) ++ ((2 : Int) :: (0 :: ((2 : Int) :: (be (Int.toNat (2 : Int)) mfrom0))))) ++ ((3 : Int) :: (0 :: ((6 : Int) :: (be (Int.toNat (6 : Int)) minc))))) ++ ((4 : Int) :: (0 :: ((1 : Int) :: (be (Int.toNat (1 : Int)) (Go.IntKind.wrap .i64 ((Go.IntKind.wrap .i64 (mlo * (16 : Int))) + mhi)))))))))) then E10 (0 : Int) (((((([] : List Int) ++ ((1 : Int) :: (0 :: ((1 : Int) :: (be (Int.toNat (1 : Int)) mkind))))) ++ ((2 : Int) :: (0 :: ((2 : Int) :: (be (Int.toNat (2 : Int)) mfrom0))))) ++ ((3 : Int) :: (0 :: ((6 : Int) :: (be (Int.toNat (6 : Int)) minc))))) ++ ((4 : Int) :: (0 :: ((1 : Int) :: (be (Int.toNat (1 : Int)) (Go.IntKind.wrap .i64 ((Go.IntKind.wrap .i64 (mlo * (16 : Int))) + mhi))))))) ++ ((6 : Int) :: (0 :: ((2 : Int) :: (be (Int.toNat (2 : Int)) mtarget))))) else none) else E10 (0 : Int) ((((([] : List Int) ++ ((1 : Int) :: (0 :: ((1 : Int) :: (be (Int.toNat (1 : Int)) mkind))))) ++ ((2 : Int) :: (0 :: ((2 : Int) :: (be (Int.toNat (2 : Int)) mfrom0))))) ++ ((3 : Int) :: (0 :: ((6 : Int) :: (be (Int.toNat (6 : Int)) minc))))) ++ ((4 : Int) :: (0 :: ((1 : Int) :: (be (Int.toNat (1 : Int)) (Go.IntKind.wrap .i64 ((Go.IntKind.wrap .i64 (mlo * (16 : Int))) + mhi))))))))) else none) else none) else none) else none)
noncomputable def Body13.f (fuel : Nat) (mkind : Int) (mfrom0 : Int) (minc : Int) (mlo : Int) (mhi : Int) (mseq : Int) (mtarget : Int) (mlife : Int) (mepoch : Int) (mbase : Int) (mrecs : List (Int × Int × Int × (Int × Int) × Bool × List (Int × List Int))) : Option (List Int) := Body13.b mkind mfrom0 minc mlo mhi mseq mtarget mlife mepoch mbase mrecs (Body13.l10 fuel mkind mfrom0 minc mlo mhi mseq mtarget mlife mepoch mbase mrecs fuel)
theorem Body13.l10_eq (fuel : Nat) (mkind : Int) (mfrom0 : Int) (minc : Int) (mlo : Int) (mhi : Int) (mseq : Int) (mtarget : Int) (mlife : Int) (mepoch : Int) (mbase : Int) (mrecs : List (Int × Int × Int × (Int × Int) × Bool × List (Int × List Int))) : ∀ (k : Nat) (x0 : Int) (x1 : (List Int)), lp Body13_E fuel Try.f30 [.dat (.sl (.int .u8)) false] 0 Body13.k 10 [] k (Body13.s10 mkind mfrom0 minc mlo mhi mseq mtarget mlife mepoch mbase mrecs x0 x1) = Body13.l10 fuel mkind mfrom0 minc mlo mhi mseq mtarget mlife mepoch mbase mrecs k x0 x1 := by
  intro k
  induction k with
  | zero => intro x0 x1; rfl
  | succ k ih =>
    intro x0 x1
    have h : lp Body13_E fuel Try.f30 [.dat (.sl (.int .u8)) false] 0 Body13.k 10 [] (k + 1) (Body13.s10 mkind mfrom0 minc mlo mhi mseq mtarget mlife mepoch mbase mrecs x0 x1) = Body13.b10 mkind mfrom0 minc mlo mhi mseq mtarget mlife mepoch mbase mrecs (fun x0 x1 => lp Body13_E fuel Try.f30 [.dat (.sl (.int .u8)) false] 0 Body13.k 10 [] k (Body13.s10 mkind mfrom0 minc mlo mhi mseq mtarget mlife mepoch mbase mrecs x0 x1)) x0 x1 := by kernel_rfl
    rw [h]
    have e10 : (fun x0 x1 => lp Body13_E fuel Try.f30 [.dat (.sl (.int .u8)) false] 0 Body13.k 10 [] k (Body13.s10 mkind mfrom0 minc mlo mhi mseq mtarget mlife mepoch mbase mrecs x0 x1)) = Body13.l10 fuel mkind mfrom0 minc mlo mhi mseq mtarget mlife mepoch mbase mrecs k := (funext fun x0 => (funext fun x1 => ih x0 x1))
    rw [e10]
    rfl
theorem Body13.eq (fuel : Nat) (mkind : Int) (mfrom0 : Int) (minc : Int) (mlo : Int) (mhi : Int) (mseq : Int) (mtarget : Int) (mlife : Int) (mepoch : Int) (mbase : Int) (mrecs : List (Int × Int × Int × (Int × Int) × Bool × List (Int × List Int))) : (denF Body13_E loopN fuel Try.f30 [.dat (.sl (.int .u8)) false] [.agg [.d (.int .i64) mkind, .d (.int .i64) mfrom0, .d (.int .i64) minc, .d (.int .i64) mlo, .d (.int .i64) mhi, .d (.int .i64) mseq, .d (.int .i64) mtarget, .d (.int .i64) mlife, .d (.int .i64) mepoch, .d (.int .i64) mbase, .d (.sl (.pair (.int .i64) (.pair (.int .i64) (.pair (.int .i64) (.pair (.pair (.int .i64) (.int .i64)) (.pair .bool (.sl (.pair (.int .i64) (.sl (.int .u8)))))))))) mrecs]] [] Body13.k) = Body13.f fuel mkind mfrom0 minc mlo mhi mseq mtarget mlife mepoch mbase mrecs := by
  have h : (denF Body13_E loopN fuel Try.f30 [.dat (.sl (.int .u8)) false] [.agg [.d (.int .i64) mkind, .d (.int .i64) mfrom0, .d (.int .i64) minc, .d (.int .i64) mlo, .d (.int .i64) mhi, .d (.int .i64) mseq, .d (.int .i64) mtarget, .d (.int .i64) mlife, .d (.int .i64) mepoch, .d (.int .i64) mbase, .d (.sl (.pair (.int .i64) (.pair (.int .i64) (.pair (.int .i64) (.pair (.pair (.int .i64) (.int .i64)) (.pair .bool (.sl (.pair (.int .i64) (.sl (.int .u8)))))))))) mrecs]] [] Body13.k) = Body13.b mkind mfrom0 minc mlo mhi mseq mtarget mlife mepoch mbase mrecs (fun x0 x1 => lp Body13_E fuel Try.f30 [.dat (.sl (.int .u8)) false] 0 Body13.k 10 [] fuel (Body13.s10 mkind mfrom0 minc mlo mhi mseq mtarget mlife mepoch mbase mrecs x0 x1)) := by kernel_rfl
  rw [h]
  have e10 : (fun x0 x1 => lp Body13_E fuel Try.f30 [.dat (.sl (.int .u8)) false] 0 Body13.k 10 [] fuel (Body13.s10 mkind mfrom0 minc mlo mhi mseq mtarget mlife mepoch mbase mrecs x0 x1)) = Body13.l10 fuel mkind mfrom0 minc mlo mhi mseq mtarget mlife mepoch mbase mrecs fuel := (funext fun x0 => (funext fun x1 => Body13.l10_eq fuel mkind mfrom0 minc mlo mhi mseq mtarget mlife mepoch mbase mrecs fuel x0 x1))
  rw [e10]
  rfl


noncomputable def Fits13_E : Env := ⟨th, gam [(20, s_valid), (30, s_body13)], fun i => if i = 4 then ⟨[1, 3], [], []⟩ else ⟨[], [], []⟩⟩
noncomputable def Fits13.k (rs : List AV) (os : List Den.Obj) : Option Bool :=
  match rs, os with
  | [.d .bool r0], [] => some r0
  | _, _ => none
noncomputable def Fits13.s4 (mkind : Int) (mfrom0 : Int) (minc : Int) (mlo : Int) (mhi : Int) (mseq : Int) (mtarget : Int) (mlife : Int) (mepoch : Int) (mbase : Int) (mrecs : List (Int × Int × Int × (Int × Int) × Bool × List (Int × List Int))) (x0 : Int) : St := ⟨[.dead, .ptr 64 0, .dead, .d (.int .i64) x0, .dead, .dead, .dead, .dead, .dead, .dead, .dead, .dead, .dead, .dead, .dead, .dead, .dead, .dead, .dead, .dead, .dead, .dead, .dead, .dead, .dead, .dead, .dead, .dead, .dead, .dead, .dead, .dead, .dead, .dead, .dead, .dead, .dead, .dead, .dead, .dead, .dead, .dead, .dead, .dead, .dead], ofL [(64, .box [.d (.int .i64) (mkind), .d (.int .i64) (mfrom0), .d (.int .i64) (minc), .d (.int .i64) (mlo), .d (.int .i64) (mhi), .d (.int .i64) (mseq), .d (.int .i64) (mtarget), .d (.int .i64) (mlife), .d (.int .i64) (mepoch), .d (.int .i64) (mbase), .d (.sl (.pair (.int .i64) (.pair (.int .i64) (.pair (.int .i64) (.pair (.pair (.int .i64) (.int .i64)) (.pair .bool (.sl (.pair (.int .i64) (.sl (.int .u8)))))))))) (mrecs)])], 0⟩
noncomputable def Fits13.b4 (mkind : Int) (mfrom0 : Int) (minc : Int) (mlo : Int) (mhi : Int) (mseq : Int) (mtarget : Int) (mlife : Int) (mepoch : Int) (mbase : Int) (mrecs : List (Int × Int × Int × (Int × Int) × Bool × List (Int × List Int))) (A4 : Int → Option Bool) (x0 : Int) : Option Bool :=
  (if (decide (x0 < ((((List.length mrecs)) : Nat) : Int))) then (match (idx mrecs x0) with | none => none | some y1 => (if (decide (y1.2.1 > (veil (4294967295 : Int)))) then some (false) else A4 (Go.IntKind.wrap .i64 (x0 + (1 : Int))))) else (if ((validF mkind mfrom0 minc mlo mhi mseq mtarget mlife mepoch mbase mrecs) && (smallRecs mrecs)) then some ((decide (((((List.length (body2 mkind mfrom0 minc mlo mhi mseq mtarget mrecs))) : Nat) : Int) ≤ (65499 : Int)))) else none))
noncomputable def Fits13.l4 (fuel : Nat) (mkind : Int) (mfrom0 : Int) (minc : Int) (mlo : Int) (mhi : Int) (mseq : Int) (mtarget : Int) (mlife : Int) (mepoch : Int) (mbase : Int) (mrecs : List (Int × Int × Int × (Int × Int) × Bool × List (Int × List Int))) : Nat → Int → Option Bool
  | 0, _ => none
  | k + 1, x0 => Fits13.b4 mkind mfrom0 minc mlo mhi mseq mtarget mlife mepoch mbase mrecs (Fits13.l4 fuel mkind mfrom0 minc mlo mhi mseq mtarget mlife mepoch mbase mrecs k) x0
noncomputable def Fits13.b (mkind : Int) (mfrom0 : Int) (minc : Int) (mlo : Int) (mhi : Int) (mseq : Int) (mtarget : Int) (mlife : Int) (mepoch : Int) (mbase : Int) (mrecs : List (Int × Int × Int × (Int × Int) × Bool × List (Int × List Int))) (E4 : Int → Option Bool) : Option Bool :=
  (if (smallRecs mrecs) then (if (!(validF mkind mfrom0 minc mlo mhi mseq mtarget mlife mepoch mbase mrecs)) then some (false) else (if (mkind == (9 : Int)) then some (false) else (if (mlife != (0 : Int)) then some (false) else (if (mepoch != (0 : Int)) then some (false) else (if (mbase != (0 : Int)) then some (false) else E4 (0 : Int)))))) else none)
noncomputable def Fits13.f (fuel : Nat) (mkind : Int) (mfrom0 : Int) (minc : Int) (mlo : Int) (mhi : Int) (mseq : Int) (mtarget : Int) (mlife : Int) (mepoch : Int) (mbase : Int) (mrecs : List (Int × Int × Int × (Int × Int) × Bool × List (Int × List Int))) : Option Bool := Fits13.b mkind mfrom0 minc mlo mhi mseq mtarget mlife mepoch mbase mrecs (Fits13.l4 fuel mkind mfrom0 minc mlo mhi mseq mtarget mlife mepoch mbase mrecs fuel)
theorem Fits13.l4_eq (fuel : Nat) (mkind : Int) (mfrom0 : Int) (minc : Int) (mlo : Int) (mhi : Int) (mseq : Int) (mtarget : Int) (mlife : Int) (mepoch : Int) (mbase : Int) (mrecs : List (Int × Int × Int × (Int × Int) × Bool × List (Int × List Int))) : ∀ (k : Nat) (x0 : Int), lp Fits13_E fuel Try.f28 [.raw] 0 Fits13.k 4 [] k (Fits13.s4 mkind mfrom0 minc mlo mhi mseq mtarget mlife mepoch mbase mrecs x0) = Fits13.l4 fuel mkind mfrom0 minc mlo mhi mseq mtarget mlife mepoch mbase mrecs k x0 := by
  intro k
  induction k with
  | zero => intro x0; rfl
  | succ k ih =>
    intro x0
    have h : lp Fits13_E fuel Try.f28 [.raw] 0 Fits13.k 4 [] (k + 1) (Fits13.s4 mkind mfrom0 minc mlo mhi mseq mtarget mlife mepoch mbase mrecs x0) = Fits13.b4 mkind mfrom0 minc mlo mhi mseq mtarget mlife mepoch mbase mrecs (fun x0 => lp Fits13_E fuel Try.f28 [.raw] 0 Fits13.k 4 [] k (Fits13.s4 mkind mfrom0 minc mlo mhi mseq mtarget mlife mepoch mbase mrecs x0)) x0 := by kernel_rfl
    rw [h]
    have e4 : (fun x0 => lp Fits13_E fuel Try.f28 [.raw] 0 Fits13.k 4 [] k (Fits13.s4 mkind mfrom0 minc mlo mhi mseq mtarget mlife mepoch mbase mrecs x0)) = Fits13.l4 fuel mkind mfrom0 minc mlo mhi mseq mtarget mlife mepoch mbase mrecs k := (funext fun x0 => ih x0)
    rw [e4]
    rfl
theorem Fits13.eq (fuel : Nat) (mkind : Int) (mfrom0 : Int) (minc : Int) (mlo : Int) (mhi : Int) (mseq : Int) (mtarget : Int) (mlife : Int) (mepoch : Int) (mbase : Int) (mrecs : List (Int × Int × Int × (Int × Int) × Bool × List (Int × List Int))) : (denF Fits13_E loopN fuel Try.f28 [.raw] [.agg [.d (.int .i64) mkind, .d (.int .i64) mfrom0, .d (.int .i64) minc, .d (.int .i64) mlo, .d (.int .i64) mhi, .d (.int .i64) mseq, .d (.int .i64) mtarget, .d (.int .i64) mlife, .d (.int .i64) mepoch, .d (.int .i64) mbase, .d (.sl (.pair (.int .i64) (.pair (.int .i64) (.pair (.int .i64) (.pair (.pair (.int .i64) (.int .i64)) (.pair .bool (.sl (.pair (.int .i64) (.sl (.int .u8)))))))))) mrecs]] [] Fits13.k) = Fits13.f fuel mkind mfrom0 minc mlo mhi mseq mtarget mlife mepoch mbase mrecs := by
  have h : (denF Fits13_E loopN fuel Try.f28 [.raw] [.agg [.d (.int .i64) mkind, .d (.int .i64) mfrom0, .d (.int .i64) minc, .d (.int .i64) mlo, .d (.int .i64) mhi, .d (.int .i64) mseq, .d (.int .i64) mtarget, .d (.int .i64) mlife, .d (.int .i64) mepoch, .d (.int .i64) mbase, .d (.sl (.pair (.int .i64) (.pair (.int .i64) (.pair (.int .i64) (.pair (.pair (.int .i64) (.int .i64)) (.pair .bool (.sl (.pair (.int .i64) (.sl (.int .u8)))))))))) mrecs]] [] Fits13.k) = Fits13.b mkind mfrom0 minc mlo mhi mseq mtarget mlife mepoch mbase mrecs (fun x0 => lp Fits13_E fuel Try.f28 [.raw] 0 Fits13.k 4 [] fuel (Fits13.s4 mkind mfrom0 minc mlo mhi mseq mtarget mlife mepoch mbase mrecs x0)) := by kernel_rfl
  rw [h]
  have e4 : (fun x0 => lp Fits13_E fuel Try.f28 [.raw] 0 Fits13.k 4 [] fuel (Fits13.s4 mkind mfrom0 minc mlo mhi mseq mtarget mlife mepoch mbase mrecs x0)) = Fits13.l4 fuel mkind mfrom0 minc mlo mhi mseq mtarget mlife mepoch mbase mrecs fuel := (funext fun x0 => Fits13.l4_eq fuel mkind mfrom0 minc mlo mhi mseq mtarget mlife mepoch mbase mrecs fuel x0)
  rw [e4]
  rfl


noncomputable def Within2_E : Env := ⟨th, gam [(62, s_tnum), (44, s_code)], fun i => ⟨[], [], []⟩⟩
noncomputable def Within2.k (rs : List AV) (os : List Den.Obj) : Option (List (Int × (List Int))) :=
  match rs, os with
  | [.d (.sl (.pair (.int .i64) (.sl (.int .u8)))) r0], [] => some r0
  | _, _ => none
noncomputable def Within2.b (rid : Int) (rinc : Int) (rst : Int) (rlo : Int) (rhi : Int) (rcut : Bool) (rbag : List (Int × List Int)) : Option (List (Int × (List Int))) :=
  (if rcut then (if (fitsF (2 : Int) rid) then (if (fitsF (4 : Int) rinc) then (if (fitsF (1 : Int) (Go.IntKind.wrap .i64 (rst + (128 : Int)))) then (if (fitsF (1 : Int) (codeF rlo rhi)) then (if ((((List.length (((1 : Int), (be (Int.toNat (2 : Int)) rid)) :: (((2 : Int), (be (Int.toNat (4 : Int)) rinc)) :: (((3 : Int), (be (Int.toNat (1 : Int)) (Go.IntKind.wrap .i64 (rst + (128 : Int))))) :: (((4 : Int), (be (Int.toNat (1 : Int)) (codeF rlo rhi))) :: ([] : List (Int × (List Int)))))))) + (List.length rbag)) * (32 : Nat)) ≤ lim) then some (((((1 : Int), (be (Int.toNat (2 : Int)) rid)) :: (((2 : Int), (be (Int.toNat (4 : Int)) rinc)) :: (((3 : Int), (be (Int.toNat (1 : Int)) (Go.IntKind.wrap .i64 (rst + (128 : Int))))) :: (((4 : Int), (be (Int.toNat (1 : Int)) (codeF rlo rhi))) :: ([] : List (Int × (List Int))))))) ++ rbag)) else none) else none) else none) else none) else none) else (if (fitsF (2 : Int) rid) then (if (fitsF (4 : Int) rinc) then (if (fitsF (1 : Int) rst) then (if (fitsF (1 : Int) (codeF rlo rhi)) then (if ((((List.length (((1 : Int), (be (Int.toNat (2 : Int)) rid)) :: (((2 : Int), (be (Int.toNat (4 : Int)) rinc)) :: (((3 : Int), (be (Int.toNat (1 : Int)) rst)) :: (((4 : Int), (be (Int.toNat (1 : Int)) (codeF rlo rhi))) :: ([] : List (Int × (List Int)))))))) + (List.length rbag)) * (32 : Nat)) ≤ lim) then some (((((1 : Int), (be (Int.toNat (2 : Int)) rid)) :: (((2 : Int), (be (Int.toNat (4 : Int)) rinc)) :: (((3 : Int), (be (Int.toNat (1 : Int)) rst)) :: (((4 : Int), (be (Int.toNat (1 : Int)) (codeF rlo rhi))) :: ([] : List (Int × (List Int))))))) ++ rbag)) else none) else none) else none) else none) else none))
noncomputable def Within2.f (fuel : Nat) (rid : Int) (rinc : Int) (rst : Int) (rlo : Int) (rhi : Int) (rcut : Bool) (rbag : List (Int × List Int)) : Option (List (Int × (List Int))) := Within2.b rid rinc rst rlo rhi rcut rbag
theorem Within2.eq (fuel : Nat) (rid : Int) (rinc : Int) (rst : Int) (rlo : Int) (rhi : Int) (rcut : Bool) (rbag : List (Int × List Int)) : (denF Within2_E loopN fuel Try.f64 [.dat (.sl (.pair (.int .i64) (.sl (.int .u8)))) false] [.agg [.d (.int .i64) rid, .d (.int .i64) rinc, .d (.int .i64) rst, .d (.int .i64) rlo, .d (.int .i64) rhi, .d .bool rcut, .d (.sl (.pair (.int .i64) (.sl (.int .u8)))) rbag]] [] Within2.k) = Within2.f fuel rid rinc rst rlo rhi rcut rbag := by
  kernel_rfl


noncomputable def Join_E : Env := ⟨th, gam [], fun i => if i = 3 then ⟨[4, 8, 9, 10], [(4, 5, (.int .u8))], []⟩ else if i = 11 then ⟨[4, 6, 8, 9, 10, 32], [], []⟩ else ⟨[], [], []⟩⟩
noncomputable def Join.k (rs : List AV) (os : List Den.Obj) : Option ((List Int) × Int) :=
  match rs, os with
  | [.d (.sl (.int .u8)) r0, .d (.int .i64) r1], [] => some (r0, r1)
  | _, _ => none
noncomputable def Join.s11 (l : List (Int × List Int)) (x4 : Int) (x5 : Int) (x6 : Int) (x7 : (List Int)) (x8 : Int) (x9 : (List Int)) : St := ⟨[.dead, .dead, .dead, .dead, .row 64, .dead, .ptr 65 0, .dead, .d (.sl (.pair (.int .i64) (.sl (.int .u8)))) (l), .d (.int .i64) x4, .d (.int .i64) x5, .dead, .dead, .dead, .dead, .dead, .dead, .dead, .dead, .dead, .dead, .dead, .dead, .dead, .dead, .dead, .dead, .dead, .dead, .dead, .dead, .dead, .d (.int .i64) x6, .dead, .dead, .dead, .dead, .dead, .dead, .dead, .dead, .dead, .dead, .dead, .dead, .dead, .dead, .dead, .dead, .dead, .dead, .dead, .dead], ofL [(64, .row 5 (.int .u8) x7 false), (65, .box [.d (.int .i64) x8, .d (.sl (.int .u8)) x9])], 0⟩
noncomputable def Join.b11 (l : List (Int × List Int)) (A3 : Int → Int → (List Int) → Option ((List Int) × Int)) (A11 : Int → Int → Int → (List Int) → Int → (List Int) → Option ((List Int) × Int)) (x4 : Int) (x5 : Int) (x6 : Int) (x7 : (List Int)) (x8 : Int) (x9 : (List Int)) : Option ((List Int) × Int) :=
  (if (decide (x6 < (2 : Int))) then (if ((Go.IntKind.wrap .i64 ((8 : Int) - (Go.IntKind.wrap .i64 ((8 : Int) * x6)))) < (0 : Int)) then none else (if ((((List.length x7) + (List.length ((Go.IntKind.wrap .u8 (Int.fdiv ((((List.length x9)) : Nat) : Int) ((2 : Int) ^ (Min.min (Int.toNat (Go.IntKind.wrap .i64 ((8 : Int) - (Go.IntKind.wrap .i64 ((8 : Int) * x6))))) (Go.IntKind.bits .i64))))) :: ([] : List Int)))) * (1 : Nat)) ≤ lim) then A11 x4 x5 (Go.IntKind.wrap .i64 (x6 + (1 : Int))) (x7 ++ ((Go.IntKind.wrap .u8 (Int.fdiv ((((List.length x9)) : Nat) : Int) ((2 : Int) ^ (Min.min (Int.toNat (Go.IntKind.wrap .i64 ((8 : Int) - (Go.IntKind.wrap .i64 ((8 : Int) * x6))))) (Go.IntKind.bits .i64))))) :: ([] : List Int))) x8 x9 else none)) else (if ((((List.length x7) + (List.length x9)) * (1 : Nat)) ≤ lim) then A3 x4 (Go.IntKind.wrap .i64 (x5 + (1 : Int))) (x7 ++ x9) else none))
noncomputable def Join.l11 (fuel : Nat) (l : List (Int × List Int)) (A3 : Int → Int → (List Int) → Option ((List Int) × Int)) : Nat → Int → Int → Int → (List Int) → Int → (List Int) → Option ((List Int) × Int)
  | 0, _, _, _, _, _, _ => none
  | k + 1, x4, x5, x6, x7, x8, x9 => Join.b11 l A3 (Join.l11 fuel l A3 k) x4 x5 x6 x7 x8 x9
noncomputable def Join.s3 (l : List (Int × List Int)) (x0 : Int) (x1 : Int) (x2 : (List Int)) : St := ⟨[.dead, .dead, .dead, .dead, .row 64, .dead, .dead, .dead, .d (.sl (.pair (.int .i64) (.sl (.int .u8)))) (l), .d (.int .i64) x0, .d (.int .i64) x1, .dead, .dead, .dead, .dead, .dead, .dead, .dead, .dead, .dead, .dead, .dead, .dead, .dead, .dead, .dead, .dead, .dead, .dead, .dead, .dead, .dead, .dead, .dead, .dead, .dead, .dead, .dead, .dead, .dead, .dead, .dead, .dead, .dead, .dead, .dead, .dead, .dead, .dead, .dead, .dead, .dead, .dead], ofL [(64, .row 5 (.int .u8) x2 false)], 0⟩
noncomputable def Join.b3 (l : List (Int × List Int)) (A3 : Int → Int → (List Int) → Option ((List Int) × Int)) (E11 : Int → Int → Int → (List Int) → Int → (List Int) → Option ((List Int) × Int)) (x0 : Int) (x1 : Int) (x2 : (List Int)) : Option ((List Int) × Int) :=
  (if (decide (x1 < x0)) then (match (idx l x1) with | none => none | some y3 => (if (decide (y3.1 < (0 : Int))) then some (([] : List Int), (5 : Int)) else (if (decide (y3.1 > (255 : Int))) then some (([] : List Int), (5 : Int)) else (if (decide (((((List.length y3.2)) : Nat) : Int) > (65535 : Int))) then some (([] : List Int), (3 : Int)) else (if ((((List.length x2) + (List.length ((Go.IntKind.wrap .u8 y3.1) :: ([] : List Int)))) * (1 : Nat)) ≤ lim) then E11 x0 x1 (0 : Int) (x2 ++ ((Go.IntKind.wrap .u8 y3.1) :: ([] : List Int))) y3.1 y3.2 else none))))) else some (x2, (0 : Int)))
noncomputable def Join.l3 (fuel : Nat) (l : List (Int × List Int)) : Nat → Int → Int → (List Int) → Option ((List Int) × Int)
  | 0, _, _, _ => none
  | k + 1, x0, x1, x2 => Join.b3 l (Join.l3 fuel l k) (Join.l11 fuel l (Join.l3 fuel l k) fuel) x0 x1 x2
noncomputable def Join.b (l : List (Int × List Int)) (E3 : Int → Int → (List Int) → Option ((List Int) × Int)) : Option ((List Int) × Int) :=
  E3 ((((List.length l)) : Nat) : Int) (0 : Int) ([] : List Int)
noncomputable def Join.f (fuel : Nat) (l : List (Int × List Int)) : Option ((List Int) × Int) := Join.b l (Join.l3 fuel l fuel)
theorem Join.l11_eq (fuel : Nat) (l : List (Int × List Int)) (k3 : Nat) : ∀ (k : Nat) (x4 : Int) (x5 : Int) (x6 : Int) (x7 : (List Int)) (x8 : Int) (x9 : (List Int)), lp Join_E fuel Try.f63 [.dat (.sl (.int .u8)) false, .raw] 0 Join.k 11 [k3] k (Join.s11 l x4 x5 x6 x7 x8 x9) = Join.l11 fuel l (fun x0 x1 x2 => lp Join_E fuel Try.f63 [.dat (.sl (.int .u8)) false, .raw] 0 Join.k 3 [] k3 (Join.s3 l x0 x1 x2)) k x4 x5 x6 x7 x8 x9 := by
  intro k
  induction k with
  | zero => intro x4 x5 x6 x7 x8 x9; rfl
  | succ k ih =>
    intro x4 x5 x6 x7 x8 x9
    have h : lp Join_E fuel Try.f63 [.dat (.sl (.int .u8)) false, .raw] 0 Join.k 11 [k3] (k + 1) (Join.s11 l x4 x5 x6 x7 x8 x9) = Join.b11 l (fun x0 x1 x2 => lp Join_E fuel Try.f63 [.dat (.sl (.int .u8)) false, .raw] 0 Join.k 3 [] k3 (Join.s3 l x0 x1 x2)) (fun x4 x5 x6 x7 x8 x9 => lp Join_E fuel Try.f63 [.dat (.sl (.int .u8)) false, .raw] 0 Join.k 11 [k3] k (Join.s11 l x4 x5 x6 x7 x8 x9)) x4 x5 x6 x7 x8 x9 := by kernel_rfl
    rw [h]
    have e11 : (fun x4 x5 x6 x7 x8 x9 => lp Join_E fuel Try.f63 [.dat (.sl (.int .u8)) false, .raw] 0 Join.k 11 [k3] k (Join.s11 l x4 x5 x6 x7 x8 x9)) = Join.l11 fuel l (fun x0 x1 x2 => lp Join_E fuel Try.f63 [.dat (.sl (.int .u8)) false, .raw] 0 Join.k 3 [] k3 (Join.s3 l x0 x1 x2)) k := (funext fun x4 => (funext fun x5 => (funext fun x6 => (funext fun x7 => (funext fun x8 => (funext fun x9 => ih x4 x5 x6 x7 x8 x9))))))
    rw [e11]
    rfl
theorem Join.l3_eq (fuel : Nat) (l : List (Int × List Int)) : ∀ (k : Nat) (x0 : Int) (x1 : Int) (x2 : (List Int)), lp Join_E fuel Try.f63 [.dat (.sl (.int .u8)) false, .raw] 0 Join.k 3 [] k (Join.s3 l x0 x1 x2) = Join.l3 fuel l k x0 x1 x2 := by
  intro k
  induction k with
  | zero => intro x0 x1 x2; rfl
  | succ k ih =>
    intro x0 x1 x2
    have h : lp Join_E fuel Try.f63 [.dat (.sl (.int .u8)) false, .raw] 0 Join.k 3 [] (k + 1) (Join.s3 l x0 x1 x2) = Join.b3 l (fun x0 x1 x2 => lp Join_E fuel Try.f63 [.dat (.sl (.int .u8)) false, .raw] 0 Join.k 3 [] k (Join.s3 l x0 x1 x2)) (fun x4 x5 x6 x7 x8 x9 => lp Join_E fuel Try.f63 [.dat (.sl (.int .u8)) false, .raw] 0 Join.k 11 [k] fuel (Join.s11 l x4 x5 x6 x7 x8 x9)) x0 x1 x2 := by kernel_rfl
    rw [h]
    have e3 : (fun x0 x1 x2 => lp Join_E fuel Try.f63 [.dat (.sl (.int .u8)) false, .raw] 0 Join.k 3 [] k (Join.s3 l x0 x1 x2)) = Join.l3 fuel l k := (funext fun x0 => (funext fun x1 => (funext fun x2 => ih x0 x1 x2)))
    rw [e3]
    have e11 : (fun x4 x5 x6 x7 x8 x9 => lp Join_E fuel Try.f63 [.dat (.sl (.int .u8)) false, .raw] 0 Join.k 11 [k] fuel (Join.s11 l x4 x5 x6 x7 x8 x9)) = Join.l11 fuel l (fun x0 x1 x2 => lp Join_E fuel Try.f63 [.dat (.sl (.int .u8)) false, .raw] 0 Join.k 3 [] k (Join.s3 l x0 x1 x2)) fuel := (funext fun x4 => (funext fun x5 => (funext fun x6 => (funext fun x7 => (funext fun x8 => (funext fun x9 => Join.l11_eq fuel l k fuel x4 x5 x6 x7 x8 x9))))))
    rw [e11]
    rw [e3]
    rfl
theorem Join.eq (fuel : Nat) (l : List (Int × List Int)) : (denF Join_E loopN fuel Try.f63 [.dat (.sl (.int .u8)) false, .raw] [.d (.sl (.pair (.int .i64) (.sl (.int .u8)))) l] [] Join.k) = Join.f fuel l := by
  have h : (denF Join_E loopN fuel Try.f63 [.dat (.sl (.int .u8)) false, .raw] [.d (.sl (.pair (.int .i64) (.sl (.int .u8)))) l] [] Join.k) = Join.b l (fun x0 x1 x2 => lp Join_E fuel Try.f63 [.dat (.sl (.int .u8)) false, .raw] 0 Join.k 3 [] fuel (Join.s3 l x0 x1 x2)) := by kernel_rfl
  rw [h]
  have e3 : (fun x0 x1 x2 => lp Join_E fuel Try.f63 [.dat (.sl (.int .u8)) false, .raw] 0 Join.k 3 [] fuel (Join.s3 l x0 x1 x2)) = Join.l3 fuel l fuel := (funext fun x0 => (funext fun x1 => (funext fun x2 => Join.l3_eq fuel l fuel x0 x1 x2)))
  rw [e3]
  rfl


noncomputable def Encode2_E : Env := ⟨th, gam [(20, s_valid), (27, s_fits2), (62, s_tnum), (44, s_code), (50, s_has), (64, s_within2), (63, s_join)], fun i => if i = 11 then ⟨[4, 48, 49, 50], [], []⟩ else ⟨[], [], []⟩⟩
noncomputable def Encode2.k (rs : List AV) (os : List Den.Obj) : Option ((List Int) × Int) :=
  match rs, os with
  | [.d (.sl (.int .u8)) r0, .d (.int .i64) r1], [] => some (r0, r1)
  | _, _ => none
noncomputable def Encode2.s11 (mkind : Int) (mfrom0 : Int) (minc : Int) (mlo : Int) (mhi : Int) (mseq : Int) (mtarget : Int) (mlife : Int) (mepoch : Int) (mbase : Int) (mrecs : List (Int × Int × Int × (Int × Int) × Bool × List (Int × List Int))) (x0 : Int) (x1 : Int) (x2 : (List (Int × (List Int)))) : St := ⟨[.dead, .dead, .dead, .dead, .row 64, .dead, .dead, .dead, .dead, .dead, .dead, .dead, .dead, .dead, .dead, .dead, .dead, .dead, .dead, .dead, .dead, .dead, .dead, .dead, .dead, .dead, .dead, .dead, .dead, .dead, .dead, .dead, .dead, .dead, .dead, .dead, .dead, .dead, .dead, .dead, .dead, .dead, .dead, .dead, .dead, .dead, .dead, .dead, .d (.sl (.pair (.int .i64) (.pair (.int .i64) (.pair (.int .i64) (.pair (.pair (.int .i64) (.int .i64)) (.pair .bool (.sl (.pair (.int .i64) (.sl (.int .u8)))))))))) (mrecs), .d (.int .i64) x0, .d (.int .i64) x1, .dead, .dead, .dead, .dead, .dead, .dead, .dead, .dead, .dead, .dead, .dead, .dead, .dead, .dead, .dead, .dead, .dead, .dead, .dead], ofL [(64, .row 78 (.pair (.int .i64) (.sl (.int .u8))) x2 false)], 0⟩
noncomputable def Encode2.b11 (mkind : Int) (mfrom0 : Int) (minc : Int) (mlo : Int) (mhi : Int) (mseq : Int) (mtarget : Int) (mlife : Int) (mepoch : Int) (mbase : Int) (mrecs : List (Int × Int × Int × (Int × Int) × Bool × List (Int × List Int))) (A11 : Int → Int → (List (Int × (List Int))) → Option ((List Int) × Int)) (x0 : Int) (x1 : Int) (x2 : (List (Int × (List Int)))) : Option ((List Int) × Int) :=
  (if (decide (x1 < x0)) then (match (idx mrecs x1) with | none => none | some y3 => (if (recFit2 (y3.1, (y3.2.1, (y3.2.2.1, ((y3.2.2.2.1.1, y3.2.2.2.1.2), (y3.2.2.2.2.1, y3.2.2.2.2.2)))))) then (if (joinOk (withinL (y3.1, (y3.2.1, (y3.2.2.1, ((y3.2.2.2.1.1, y3.2.2.2.1.2), (y3.2.2.2.2.1, y3.2.2.2.2.2))))))) then (if ((((List.length x2) + (List.length (((7 : Int), (List.flatMap fieldB (withinL (y3.1, (y3.2.1, (y3.2.2.1, ((y3.2.2.2.1.1, y3.2.2.2.1.2), (y3.2.2.2.2.1, y3.2.2.2.2.2)))))))) :: ([] : List (Int × (List Int)))))) * (32 : Nat)) ≤ lim) then A11 x0 (Go.IntKind.wrap .i64 (x1 + (1 : Int))) (x2 ++ (((7 : Int), (List.flatMap fieldB (withinL (y3.1, (y3.2.1, (y3.2.2.1, ((y3.2.2.2.1.1, y3.2.2.2.1.2), (y3.2.2.2.2.1, y3.2.2.2.2.2)))))))) :: ([] : List (Int × (List Int))))) else none) else none) else none)) else (if (joinOk x2) then some ((List.flatMap fieldB x2), 0) else none))
noncomputable def Encode2.l11 (fuel : Nat) (mkind : Int) (mfrom0 : Int) (minc : Int) (mlo : Int) (mhi : Int) (mseq : Int) (mtarget : Int) (mlife : Int) (mepoch : Int) (mbase : Int) (mrecs : List (Int × Int × Int × (Int × Int) × Bool × List (Int × List Int))) : Nat → Int → Int → (List (Int × (List Int))) → Option ((List Int) × Int)
  | 0, _, _, _ => none
  | k + 1, x0, x1, x2 => Encode2.b11 mkind mfrom0 minc mlo mhi mseq mtarget mlife mepoch mbase mrecs (Encode2.l11 fuel mkind mfrom0 minc mlo mhi mseq mtarget mlife mepoch mbase mrecs k) x0 x1 x2
noncomputable def Encode2.b (mkind : Int) (mfrom0 : Int) (minc : Int) (mlo : Int) (mhi : Int) (mseq : Int) (mtarget : Int) (mlife : Int) (mepoch : Int) (mbase : Int) (mrecs : List (Int × Int × Int × (Int × Int) × Bool × List (Int × List Int))) (E11 : Int → Int → (List (Int × (List Int))) → Option ((List Int) × Int)) : Option ((List Int) × Int) :=
  (if (smallRecs mrecs) then (if (!(validF mkind mfrom0 minc mlo mhi mseq mtarget mlife mepoch mbase mrecs)) then some (([] : List Int), (1 : Int)) else (if (smallRecs mrecs) then (if (!(fits2 mkind mfrom0 minc mlo mhi mseq mtarget mlife mepoch mbase mrecs)) then some (([] : List Int), (14 : Int)) else (if (fitsF (1 : Int) mkind) then (if (fitsF (2 : Int) mfrom0) then (if (fitsF (6 : Int) minc) then (if (fitsF (1 : Int) (codeF mlo mhi)) then (if (hasF mkind (0 : Int)) then (if (fitsF (2 : Int) mseq) then (if (hasF mkind (1 : Int)) then (if (fitsF (2 : Int) mtarget) then E11 ((((List.length mrecs)) : Nat) : Int) (0 : Int) (((((1 : Int), (be (Int.toNat (1 : Int)) mkind)) :: (((2 : Int), (be (Int.toNat (2 : Int)) mfrom0)) :: (((3 : Int), (be (Int.toNat (6 : Int)) minc)) :: (((4 : Int), (be (Int.toNat (1 : Int)) (codeF mlo mhi))) :: ([] : List (Int × (List Int))))))) ++ (((5 : Int), (be (Int.toNat (2 : Int)) mseq)) :: ([] : List (Int × (List Int))))) ++ (((6 : Int), (be (Int.toNat (2 : Int)) mtarget)) :: ([] : List (Int × (List Int))))) else none) else E11 ((((List.length mrecs)) : Nat) : Int) (0 : Int) ((((1 : Int), (be (Int.toNat (1 : Int)) mkind)) :: (((2 : Int), (be (Int.toNat (2 : Int)) mfrom0)) :: (((3 : Int), (be (Int.toNat (6 : Int)) minc)) :: (((4 : Int), (be (Int.toNat (1 : Int)) (codeF mlo mhi))) :: ([] : List (Int × (List Int))))))) ++ (((5 : Int), (be (Int.toNat (2 : Int)) mseq)) :: ([] : List (Int × (List Int)))))) else none) else (if (hasF mkind (1 : Int)) then (if (fitsF (2 : Int) mtarget) then E11 ((((List.length mrecs)) : Nat) : Int) (0 : Int) ((((1 : Int), (be (Int.toNat (1 : Int)) mkind)) :: (((2 : Int), (be (Int.toNat (2 : Int)) mfrom0)) :: (((3 : Int), (be (Int.toNat (6 : Int)) minc)) :: (((4 : Int), (be (Int.toNat (1 : Int)) (codeF mlo mhi))) :: ([] : List (Int × (List Int))))))) ++ (((6 : Int), (be (Int.toNat (2 : Int)) mtarget)) :: ([] : List (Int × (List Int))))) else none) else E11 ((((List.length mrecs)) : Nat) : Int) (0 : Int) (((1 : Int), (be (Int.toNat (1 : Int)) mkind)) :: (((2 : Int), (be (Int.toNat (2 : Int)) mfrom0)) :: (((3 : Int), (be (Int.toNat (6 : Int)) minc)) :: (((4 : Int), (be (Int.toNat (1 : Int)) (codeF mlo mhi))) :: ([] : List (Int × (List Int))))))))) else none) else none) else none) else none)) else none)) else none)
noncomputable def Encode2.f (fuel : Nat) (mkind : Int) (mfrom0 : Int) (minc : Int) (mlo : Int) (mhi : Int) (mseq : Int) (mtarget : Int) (mlife : Int) (mepoch : Int) (mbase : Int) (mrecs : List (Int × Int × Int × (Int × Int) × Bool × List (Int × List Int))) : Option ((List Int) × Int) := Encode2.b mkind mfrom0 minc mlo mhi mseq mtarget mlife mepoch mbase mrecs (Encode2.l11 fuel mkind mfrom0 minc mlo mhi mseq mtarget mlife mepoch mbase mrecs fuel)
theorem Encode2.l11_eq (fuel : Nat) (mkind : Int) (mfrom0 : Int) (minc : Int) (mlo : Int) (mhi : Int) (mseq : Int) (mtarget : Int) (mlife : Int) (mepoch : Int) (mbase : Int) (mrecs : List (Int × Int × Int × (Int × Int) × Bool × List (Int × List Int))) : ∀ (k : Nat) (x0 : Int) (x1 : Int) (x2 : (List (Int × (List Int)))), lp Encode2_E fuel Try.f26 [.dat (.sl (.int .u8)) false, .raw] 0 Encode2.k 11 [] k (Encode2.s11 mkind mfrom0 minc mlo mhi mseq mtarget mlife mepoch mbase mrecs x0 x1 x2) = Encode2.l11 fuel mkind mfrom0 minc mlo mhi mseq mtarget mlife mepoch mbase mrecs k x0 x1 x2 := by
  intro k
  induction k with
  | zero => intro x0 x1 x2; rfl
  | succ k ih =>
    intro x0 x1 x2
    have h : lp Encode2_E fuel Try.f26 [.dat (.sl (.int .u8)) false, .raw] 0 Encode2.k 11 [] (k + 1) (Encode2.s11 mkind mfrom0 minc mlo mhi mseq mtarget mlife mepoch mbase mrecs x0 x1 x2) = Encode2.b11 mkind mfrom0 minc mlo mhi mseq mtarget mlife mepoch mbase mrecs (fun x0 x1 x2 => lp Encode2_E fuel Try.f26 [.dat (.sl (.int .u8)) false, .raw] 0 Encode2.k 11 [] k (Encode2.s11 mkind mfrom0 minc mlo mhi mseq mtarget mlife mepoch mbase mrecs x0 x1 x2)) x0 x1 x2 := by kernel_rfl
    rw [h]
    have e11 : (fun x0 x1 x2 => lp Encode2_E fuel Try.f26 [.dat (.sl (.int .u8)) false, .raw] 0 Encode2.k 11 [] k (Encode2.s11 mkind mfrom0 minc mlo mhi mseq mtarget mlife mepoch mbase mrecs x0 x1 x2)) = Encode2.l11 fuel mkind mfrom0 minc mlo mhi mseq mtarget mlife mepoch mbase mrecs k := (funext fun x0 => (funext fun x1 => (funext fun x2 => ih x0 x1 x2)))
    rw [e11]
    rfl
theorem Encode2.eq (fuel : Nat) (mkind : Int) (mfrom0 : Int) (minc : Int) (mlo : Int) (mhi : Int) (mseq : Int) (mtarget : Int) (mlife : Int) (mepoch : Int) (mbase : Int) (mrecs : List (Int × Int × Int × (Int × Int) × Bool × List (Int × List Int))) : (denF Encode2_E loopN fuel Try.f26 [.dat (.sl (.int .u8)) false, .raw] [.agg [.d (.int .i64) mkind, .d (.int .i64) mfrom0, .d (.int .i64) minc, .d (.int .i64) mlo, .d (.int .i64) mhi, .d (.int .i64) mseq, .d (.int .i64) mtarget, .d (.int .i64) mlife, .d (.int .i64) mepoch, .d (.int .i64) mbase, .d (.sl (.pair (.int .i64) (.pair (.int .i64) (.pair (.int .i64) (.pair (.pair (.int .i64) (.int .i64)) (.pair .bool (.sl (.pair (.int .i64) (.sl (.int .u8)))))))))) mrecs]] [] Encode2.k) = Encode2.f fuel mkind mfrom0 minc mlo mhi mseq mtarget mlife mepoch mbase mrecs := by
  have h : (denF Encode2_E loopN fuel Try.f26 [.dat (.sl (.int .u8)) false, .raw] [.agg [.d (.int .i64) mkind, .d (.int .i64) mfrom0, .d (.int .i64) minc, .d (.int .i64) mlo, .d (.int .i64) mhi, .d (.int .i64) mseq, .d (.int .i64) mtarget, .d (.int .i64) mlife, .d (.int .i64) mepoch, .d (.int .i64) mbase, .d (.sl (.pair (.int .i64) (.pair (.int .i64) (.pair (.int .i64) (.pair (.pair (.int .i64) (.int .i64)) (.pair .bool (.sl (.pair (.int .i64) (.sl (.int .u8)))))))))) mrecs]] [] Encode2.k) = Encode2.b mkind mfrom0 minc mlo mhi mseq mtarget mlife mepoch mbase mrecs (fun x0 x1 x2 => lp Encode2_E fuel Try.f26 [.dat (.sl (.int .u8)) false, .raw] 0 Encode2.k 11 [] fuel (Encode2.s11 mkind mfrom0 minc mlo mhi mseq mtarget mlife mepoch mbase mrecs x0 x1 x2)) := by kernel_rfl
  rw [h]
  have e11 : (fun x0 x1 x2 => lp Encode2_E fuel Try.f26 [.dat (.sl (.int .u8)) false, .raw] 0 Encode2.k 11 [] fuel (Encode2.s11 mkind mfrom0 minc mlo mhi mseq mtarget mlife mepoch mbase mrecs x0 x1 x2)) = Encode2.l11 fuel mkind mfrom0 minc mlo mhi mseq mtarget mlife mepoch mbase mrecs fuel := (funext fun x0 => (funext fun x1 => (funext fun x2 => Encode2.l11_eq fuel mkind mfrom0 minc mlo mhi mseq mtarget mlife mepoch mbase mrecs fuel x0 x1 x2)))
  rw [e11]
  rfl


end Go.Proofs.Ytlmljpmohljefaa

set_option linter.unusedVariables false
set_option linter.unusedSimpArgs false
namespace Go.Proofs.Ytlmljpmohljefaa
open Go.Den
theorem hi8 (n : Nat) (h : n ≤ 65535) : Go.IntKind.wrap .u8 (Go.IntKind.wrap .i64 (Int.tdiv (n : Int) 256)) = ((n / 256 : Nat) : Int) := by
  rw [wrap8, Int.tdiv_eq_ediv_of_nonneg (by omega), wrap_small _ (by omega) (by omega)]; omega
theorem lo8 (n : Nat) : Go.IntKind.wrap .u8 (Int.tmod (n : Int) 256) = ((n % 256 : Nat) : Int) := by
  rw [wrap8, Int.tmod_eq_emod_of_nonneg (by omega)]; omega
theorem tag8 {t : Int} (h : 0 ≤ t ∧ t ≤ 255) : Go.IntKind.wrap .u8 t = t := by rw [wrap8]; omega
theorem fieldB_len (x : Int × List Int) : (fieldB x).length = 3 + x.2.length := by unfold fieldB; simp; omega
theorem flatF_len : ∀ (l : List (Int × List Int)), (((l.flatMap fieldB).length : Nat) : Int) = bagLen l
  | [] => by simp [bagLen]
  | x :: l => by
    rw [List.flatMap_cons, List.length_append, bagLen_cons, ← flatF_len l, fieldB_len]
    omega
theorem itB_len (t n v : Int) : (itB t n v).length = 3 + n.toNat := by unfold itB; simp [be_length]; omega
theorem inner_len (r : Int × Int × Int × (Int × Int) × Bool × List (Int × List Int)) : ((innerL r).length : Int) = 20 + bagLen r.2.2.2.2.2 := by
  unfold innerL
  simp only [List.length_append, itB_len]
  have := flatF_len r.2.2.2.2.2
  omega
theorem bagGo_tag : ∀ (l : List (Int × List Int)) (last size : Int), bagGo l last size = true → 0 ≤ size → ∀ x ∈ l, last ≤ x.1 ∧ x.1 ≤ 255 ∧ x.2.length ≤ 4096
  | [], _, _, _, _, x, hx => by simp at hx
  | y :: l, last, size, h, h0, x, hx => by
    unfold bagGo at h
    split at h
    · cases h
    · split at h
      · cases h
      · rename_i h1 h2
        simp at h1 h2
        rcases List.mem_cons.1 hx with rfl | hx
        · omega
        · have := bagGo_tag l y.1 _ h (by omega) x hx
          omega
theorem bag_tags {b : List (Int × List Int)} (h : bagOk b = true) : ∀ x ∈ b, 32 ≤ x.1 ∧ x.1 ≤ 255 ∧ x.2.length ≤ 4096 := by
  unfold bagOk at h
  split at h
  · cases h
  · exact bagGo_tag b 32 0 h (by omega)
theorem numOk_of {n v : Int} (h1 : 1 ≤ n) (h7 : n ≤ 7) (h0 : 0 ≤ v) (hv : v < 9223372036854775808) : numOk n v = true := (numOk_iff n v).2 ⟨h1, h7, h0, hv⟩
theorem tagOk_of {t : Int} (h0 : 0 ≤ t) (h : t ≤ 255) : tagOk t = true := (tagOk_iff t).2 ⟨h0, h⟩
theorem Inner13.loop (fuel : Nat) (id inc st lo hi : Int) (cut : Bool) (bag : List (Int × List Int)) (hb : bag.length ≤ 32) (ht : ∀ x ∈ bag, 32 ≤ x.1 ∧ x.1 ≤ 255 ∧ x.2.length ≤ 4096) : ∀ (k i : Nat) (acc : List Int), i ≤ bag.length → bag.length - i < k → acc.length + 5000 * (bag.length - i) < 1000000 →
    Inner13.l8 fuel id inc st lo hi cut bag k (i : Int) acc = some (acc ++ (bag.drop i).flatMap fieldB) := by
  intro k
  induction k with
  | zero => intro i acc h1 h2; omega
  | succ k ih =>
    intro i acc h1 h2 h3
    rw [Inner13.l8]
    unfold Inner13.b8
    by_cases hi' : i < bag.length
    · rw [if_pos (by simp; omega), idx_at, List.getElem?_eq_getElem hi']
      dsimp only
      have hx := ht bag[i] (List.getElem_mem hi')
      rw [List.drop_eq_getElem_cons hi', List.flatMap_cons]
      generalize bag[i] = x at hx ⊢
      have e1 := hi8 x.2.length (by omega)
      have e2 := lo8 x.2.length
      rw [e1, e2, tag8 (by omega), if_pos (by simp [lim]; omega), if_pos (by simp [lim]; omega), wrap_small ((i : Int) + 1) (by omega) (by omega)]
      have := ih (i + 1) ((acc ++ [x.1, ((x.2.length / 256 : Nat) : Int), ((x.2.length % 256 : Nat) : Int)]) ++ x.2) (by omega) (by omega) (by simp; omega)
      rw [show ((i + 1 : Nat) : Int) = (i : Int) + 1 from by omega] at this
      rw [this]
      simp [fieldB]
    · rw [if_neg (by simp; omega), List.drop_of_length_le (by omega)]
      simp
theorem recFit_iff (r : Int × Int × Int × (Int × Int) × Bool × List (Int × List Int)) : recFit r = true ↔ recOkT r = true ∧ smallBag r.2.2.2.2.2 = true := by unfold recFit; simp
theorem Inner13.pure (id inc st lo hi : Int) (cut : Bool) (bag : List (Int × List Int)) (hl : recFit (id, inc, st, (lo, hi), cut, bag) = true) :
    Inner13.f (bag.length + 1) id inc st lo hi cut bag = some (innerL (id, inc, st, (lo, hi), cut, bag)) := by
  obtain ⟨hok, hs⟩ := (recFit_iff _).1 hl
  obtain ⟨f1, f2, f3, f4, f5, f6, f7, f8, _⟩ := recOk_facts hok
  have f9 := (okS_iff _ _).1 f7
  dsimp only at f1 f2 f3 f4 f5 f6 f7 f8 f9
  obtain ⟨b1, b2, b3⟩ := bagOk_len f8
  unfold Inner13.f Inner13.b
  have e : Go.IntKind.wrap .i64 (Go.IntKind.wrap .i64 (lo * 16) + hi) = lo * 16 + hi := by
    rw [wrap_small (lo * 16) (by omega) (by omega), wrap_small _ (by omega) (by omega)]
  have hlp := fun acc ha => Inner13.loop (bag.length + 1) id inc st lo hi cut bag b1 (bag_tags f8) (bag.length + 1) 0 acc (by omega) (by omega) ha
  rw [show ((0 : Nat) : Int) = 0 from rfl] at hlp
  simp only [List.drop_zero] at hlp
  rw [if_pos ⟨numOk_of (by omega) (by omega) f1 (by omega), tagOk_of (by omega) (by omega), roomy_of (by simp)⟩, if_pos ⟨numOk_of (by omega) (by omega) f3 (by omega), tagOk_of (by omega) (by omega), roomy_of (by simp [be_length])⟩, e]
  cases cut
  · rw [if_neg (by simp), if_pos ⟨numOk_of (by omega) (by omega) f5 (by omega), tagOk_of (by omega) (by omega), roomy_of (by simp [be_length])⟩, if_pos ⟨numOk_of (by omega) (by omega) (by omega) (by omega), tagOk_of (by omega) (by omega), roomy_of (by simp [be_length])⟩, hlp _ (by simp [be_length]; omega)]
    simp [innerL, itB, cutSt, List.append_assoc]
  · have e' : Go.IntKind.wrap .i64 (st + 128) = st + 128 := wrap_small _ (by omega) (by omega)
    rw [if_pos rfl, e', if_pos ⟨numOk_of (by omega) (by omega) (by omega) (by omega), tagOk_of (by omega) (by omega), roomy_of (by simp [be_length])⟩, if_pos ⟨numOk_of (by omega) (by omega) (by omega) (by omega), tagOk_of (by omega) (by omega), roomy_of (by simp [be_length])⟩, hlp _ (by simp [be_length]; omega)]
    simp [innerL, itB, cutSt, List.append_assoc]
theorem inner_le {r : Int × Int × Int × (Int × Int) × Bool × List (Int × List Int)} (h : recOkT r = true) : (innerL r).length ≤ 4212 := by
  have := inner_len r
  have := bagOk_len (recOk_facts h).2.2.2.2.2.2.2.1
  omega
theorem recB2_len (r : Int × Int × Int × (Int × Int) × Bool × List (Int × List Int)) : ((recB2 r).length : Int) = recLen r := by
  unfold recB2 recLen
  rw [fieldB_len]
  have := inner_len r
  dsimp only
  omega
theorem Body13.loop (fuel : Nat) (kind from0 inc lo hi seq target life epoch base : Int) (recs : LR) (hr : ∀ r ∈ recs, recOkT r = true ∧ smallBag r.2.2.2.2.2 = true) (hlen : recs.length ≤ 255) : ∀ (k i : Nat) (acc : List Int), i ≤ recs.length → recs.length - i < k → acc.length + 5000 * (recs.length - i) < 2000000 →
    Body13.l10 fuel kind from0 inc lo hi seq target life epoch base recs k (i : Int) acc = some (acc ++ (recs.drop i).flatMap recB2) := by
  intro k
  induction k with
  | zero => intro i acc h1 h2; omega
  | succ k ih =>
    intro i acc h1 h2 h3
    rw [Body13.l10]
    unfold Body13.b10
    by_cases hi' : i < recs.length
    · rw [if_pos (by simp; omega), idx_at, List.getElem?_eq_getElem hi']
      dsimp only
      obtain ⟨hok, hs⟩ := hr recs[i] (List.getElem_mem hi')
      rw [List.drop_eq_getElem_cons hi', List.flatMap_cons]
      generalize recs[i] = r at hok hs ⊢
      have hfit : recFit r = true := (recFit_iff r).2 ⟨hok, hs⟩
      have hq := inner_le hok
      simp only [rec_eta]
      have e1 := hi8 (innerL r).length (by omega)
      have e2 := lo8 (innerL r).length
      rw [if_pos hfit, e1, e2, if_pos (by simp [lim]; omega), if_pos (by simp [lim]; omega), wrap_small ((i : Int) + 1) (by omega) (by omega)]
      have := ih (i + 1) ((acc ++ [7, (((innerL r).length / 256 : Nat) : Int), (((innerL r).length % 256 : Nat) : Int)]) ++ innerL r) (by omega) (by omega) (by simp; omega)
      rw [show ((i + 1 : Nat) : Int) = (i : Int) + 1 from by omega] at this
      rw [this]
      simp [recB2, fieldB]
    · rw [if_neg (by simp; omega), List.drop_of_length_le (by omega)]
      simp
theorem Body13.pure (kind from0 inc lo hi seq target life epoch base : Int) (recs : LR) (hl : (validF kind from0 inc lo hi seq target life epoch base recs && smallRecs recs) = true) :
    Body13.f (recs.length + 1) kind from0 inc lo hi seq target life epoch base recs = some (body2 kind from0 inc lo hi seq target recs) := by
  rw [Bool.and_eq_true] at hl
  obtain ⟨hv, hsm⟩ := hl
  obtain ⟨v1, v2, v3, v4, v5, v6, v7, v8, v9, v10, v11, _, v12, v13⟩ := valid_facts hv
  have v14 := (okS_iff _ _).1 v7
  have hs := ((smallRecs_iff recs).1 hsm).2
  unfold Body13.f Body13.b
  have e : Go.IntKind.wrap .i64 (Go.IntKind.wrap .i64 (lo * 16) + hi) = lo * 16 + hi := by
    rw [wrap_small (lo * 16) (by omega) (by omega), wrap_small _ (by omega) (by omega)]
  have hlp := fun acc ha => Body13.loop (recs.length + 1) kind from0 inc lo hi seq target life epoch base recs (fun r hr => ⟨v13 r hr, hs r hr⟩) v12 (recs.length + 1) 0 acc (by omega) (by omega) ha
  rw [show ((0 : Nat) : Int) = 0 from rfl] at hlp
  simp only [List.drop_zero] at hlp
  rw [e, if_pos ⟨numOk_of (by omega) (by omega) (by omega) (by omega), tagOk_of (by omega) (by omega), roomy_of (by simp)⟩, if_pos ⟨numOk_of (by omega) (by omega) v3 (by omega), tagOk_of (by omega) (by omega), roomy_of (by simp [be_length])⟩,
    if_pos ⟨numOk_of (by omega) (by omega) v5 (by omega), tagOk_of (by omega) (by omega), roomy_of (by simp [be_length])⟩, if_pos ⟨numOk_of (by omega) (by omega) (by omega) (by omega), tagOk_of (by omega) (by omega), roomy_of (by simp [be_length])⟩]
  have n5 : numOk 2 seq = true := numOk_of (by omega) (by omega) v8 (by omega)
  have n6 : numOk 2 target = true := numOk_of (by omega) (by omega) v10 (by omega)
  cases h5 : hasF kind 0 <;> cases h6 : hasF kind 1
  · rw [if_neg (by simp), if_neg (by simp), hlp _ (by simp [be_length]; omega)]
    simp [body2, itB, h5, h6, List.append_assoc]
  · rw [if_neg (by simp), if_pos rfl, if_pos ⟨n6, tagOk_of (by omega) (by omega), roomy_of (by simp [be_length])⟩, hlp _ (by simp [be_length]; omega)]
    simp [body2, itB, h5, h6, List.append_assoc]
  · rw [if_pos rfl, if_pos ⟨n5, tagOk_of (by omega) (by omega), roomy_of (by simp [be_length])⟩, if_neg (by simp), hlp _ (by simp [be_length]; omega)]
    simp [body2, itB, h5, h6, List.append_assoc]
  · rw [if_pos rfl, if_pos ⟨n5, tagOk_of (by omega) (by omega), roomy_of (by simp [be_length])⟩, if_pos rfl, if_pos ⟨n6, tagOk_of (by omega) (by omega), roomy_of (by simp [be_length])⟩, hlp _ (by simp [be_length]; omega)]
    simp [body2, itB, h5, h6, List.append_assoc]
theorem Fits13.loop (fuel : Nat) (kind from0 inc lo hi seq target life epoch base : Int) (recs : LR) (hsm : smallRecs recs = true) (hv : validF kind from0 inc lo hi seq target life epoch base recs = true) : ∀ (k i : Nat), i ≤ recs.length → recs.length - i < k →
    Fits13.l4 fuel kind from0 inc lo hi seq target life epoch base recs k (i : Int) = some (if !fit2Go (recs.drop i) then false else decide (((body2 kind from0 inc lo hi seq target recs).length : Int) ≤ 65499)) := by
  intro k
  have hlen := ((smallRecs_iff recs).1 hsm).1
  induction k with
  | zero => intro i h1 h2; omega
  | succ k ih =>
    intro i h1 h2
    rw [Fits13.l4]
    unfold Fits13.b4
    by_cases hi' : i < recs.length
    · rw [if_pos (by simp; omega), idx_at, List.getElem?_eq_getElem hi', veil_eq]
      dsimp only
      rw [List.drop_eq_getElem_cons hi', fit2Go]
      have := ih (i + 1) (by omega) (by omega)
      rw [show ((i + 1 : Nat) : Int) = (i : Int) + 1 from by omega] at this
      rw [wrap_small ((i : Int) + 1) (by omega) (by omega), this]
      by_cases hc : decide (recs[i].2.1 > 4294967295) = true
      · rw [if_pos hc, if_pos hc]; rfl
      · rw [if_neg hc, if_neg hc]
    · rw [if_neg (by simp; omega), List.drop_of_length_le (by omega), hv, hsm]
      simp [fit2Go]
theorem Fits13.pure (kind from0 inc lo hi seq target life epoch base : Int) (recs : LR) (hl : smallRecs recs = true) :
    Fits13.f (recs.length + 1) kind from0 inc lo hi seq target life epoch base recs = some (fits13 kind from0 inc lo hi seq target life epoch base recs) := by
  unfold Fits13.f Fits13.b fits13
  rw [if_pos hl]
  cases hv : validF kind from0 inc lo hi seq target life epoch base recs
  · rfl
  have := Fits13.loop (recs.length + 1) kind from0 inc lo hi seq target life epoch base recs hl hv (recs.length + 1) 0 (by omega) (by omega)
  rw [show ((0 : Nat) : Int) = 0 from rfl, List.drop_zero] at this
  rw [this]
  cases (kind == 9) <;> cases (life != 0) <;> cases (epoch != 0) <;> cases (base != 0) <;> simp
end Go.Proofs.Ytlmljpmohljefaa

set_option linter.unusedVariables false
set_option linter.unusedSimpArgs false
namespace Go.Proofs.Ytlmljpmohljefaa
open Go.Den
theorem fits_four {v : Int} (h0 : 0 ≤ v) (h1 : v ≤ 4294967295) : fitsF 4 v = true := (fitsF_iff 4 v).2 ⟨by omega, by omega, h0, by simp; omega⟩
theorem recFit2_iff (r : Int × Int × Int × (Int × Int) × Bool × List (Int × List Int)) : recFit2 r = true ↔ recFit r = true ∧ r.2.1 ≤ 4294967295 := by unfold recFit2; simp
theorem Within2.pure (id inc st lo hi : Int) (cut : Bool) (bag : List (Int × List Int)) (hl : recFit2 (id, inc, st, (lo, hi), cut, bag) = true) :
    Within2.f 0 id inc st lo hi cut bag = some (withinL (id, inc, st, (lo, hi), cut, bag)) := by
  obtain ⟨hf, hi4⟩ := (recFit2_iff _).1 hl
  obtain ⟨hok, hs⟩ := (recFit_iff _).1 hf
  obtain ⟨f1, f2, f3, f4, f5, f6, f7, f8, _⟩ := recOk_facts hok
  have f9 := (okS_iff _ _).1 f7
  dsimp only at f1 f2 f3 f4 f5 f6 f7 f8 f9 hi4
  obtain ⟨b1, b2, b3⟩ := bagOk_len f8
  unfold Within2.f Within2.b
  rw [code_eq f7]
  cases cut
  · rw [if_neg (by simp), if_pos (fits_two f1 (by omega)), if_pos (fits_four f3 hi4), if_pos (fits_byte f5 (by omega)), if_pos (fits_byte (by omega) (by omega)), if_pos (by simp [lim]; omega)]
    rfl
  · have e' : Go.IntKind.wrap .i64 (st + 128) = st + 128 := wrap_small _ (by omega) (by omega)
    rw [if_pos rfl, e', if_pos (fits_two f1 (by omega)), if_pos (fits_four f3 hi4), if_pos (fits_byte (by omega) (by omega)), if_pos (fits_byte (by omega) (by omega)), if_pos (by simp [lim]; omega)]
    rfl
theorem joinOk_iff (l : List (Int × List Int)) : joinOk l = true ↔ l.length ≤ 300 ∧ ∀ x ∈ l, (0 ≤ x.1 ∧ x.1 ≤ 255) ∧ x.2.length ≤ 65535 := by
  unfold joinOk
  simp only [Bool.and_eq_true, decide_eq_true_eq, List.all_eq_true, tagOk_iff]
theorem sh8 : Min.min (Int.toNat (Go.IntKind.wrap .i64 ((8 : Int) - Go.IntKind.wrap .i64 ((8 : Int) * 0)))) (Go.IntKind.bits .i64) = 8 := rfl
theorem sh0 : Min.min (Int.toNat (Go.IntKind.wrap .i64 ((8 : Int) - Go.IntKind.wrap .i64 ((8 : Int) * 1)))) (Go.IntKind.bits .i64) = 0 := rfl
theorem sw8 : Go.IntKind.wrap .i64 ((8 : Int) - Go.IntKind.wrap .i64 ((8 : Int) * 0)) = 8 := rfl
theorem sw0 : Go.IntKind.wrap .i64 ((8 : Int) - Go.IntKind.wrap .i64 ((8 : Int) * 1)) = 0 := rfl
theorem wi1 : Go.IntKind.wrap .i64 ((0 : Int) + 1) = 1 := rfl
theorem wi2 : Go.IntKind.wrap .i64 ((1 : Int) + 1) = 2 := rfl
theorem sb8 (n : Nat) (h : n ≤ 65535) : Go.IntKind.wrap .u8 (Int.fdiv (n : Int) ((2 : Int) ^ 8)) = ((n / 256 : Nat) : Int) := by
  rw [wrap8, Int.fdiv_eq_ediv_of_nonneg _ (by decide), show (2 : Int) ^ 8 = 256 from rfl]; omega
theorem sb0 (n : Nat) : Go.IntKind.wrap .u8 (Int.fdiv (n : Int) ((2 : Int) ^ 0)) = ((n % 256 : Nat) : Int) := by
  rw [wrap8, Int.fdiv_eq_ediv_of_nonneg _ (by decide), show (2 : Int) ^ 0 = 1 from rfl]; omega
theorem Join.step (fuel : Nat) (l : List (Int × List Int)) (A3 : Int → Int → List Int → Option (List Int × Int)) (m : Nat) (x4 x5 : Int) (acc : List Int) (t : Int) (d : List Int) (hd : d.length ≤ 65535) (ha : acc.length < 100000000) :
    Join.l11 fuel l A3 (m + 3) x4 x5 0 acc t d = A3 x4 (Go.IntKind.wrap .i64 (x5 + 1)) (((acc ++ [((d.length / 256 : Nat) : Int)]) ++ [((d.length % 256 : Nat) : Int)]) ++ d) := by
  rw [Join.l11]; unfold Join.b11
  rw [if_pos (by decide), sw8, if_neg (by decide), show Min.min (Int.toNat 8) (Go.IntKind.bits .i64) = 8 from rfl, sb8 d.length hd, if_pos (by simp [lim]; omega), wi1]
  rw [Join.l11]; unfold Join.b11
  rw [if_pos (by decide), sw0, if_neg (by decide), show Min.min (Int.toNat 0) (Go.IntKind.bits .i64) = 0 from rfl, sb0 d.length, if_pos (by simp [lim]; omega), wi2]
  rw [Join.l11]; unfold Join.b11
  rw [if_neg (by decide), if_pos (by simp [lim]; omega)]
theorem Join.loop (m : Nat) (l : List (Int × List Int)) (hb : l.length ≤ 300) (ht : ∀ x ∈ l, (0 ≤ x.1 ∧ x.1 ≤ 255) ∧ x.2.length ≤ 65535) : ∀ (k i : Nat) (acc : List Int), i ≤ l.length → l.length - i < k → acc.length + 70000 * (l.length - i) < 50000000 →
    Join.l3 (m + 3) l k (l.length : Int) (i : Int) acc = some (acc ++ (l.drop i).flatMap fieldB, 0) := by
  intro k
  induction k with
  | zero => intro i acc h1 h2; omega
  | succ k ih =>
    intro i acc h1 h2 h3
    rw [Join.l3]
    unfold Join.b3
    by_cases hi' : i < l.length
    · rw [if_pos (by simp; omega), idx_at, List.getElem?_eq_getElem hi']
      dsimp only
      have hx := ht l[i] (List.getElem_mem hi')
      rw [List.drop_eq_getElem_cons hi', List.flatMap_cons]
      generalize l[i] = x at hx ⊢
      rw [if_neg (by simp; omega), if_neg (by simp; omega), if_neg (by simp; omega), if_pos (by simp [lim]; omega), tag8 hx.1, Join.step (m + 3) l _ m _ _ _ _ _ hx.2 (by simp; omega), wrap_small ((i : Int) + 1) (by omega) (by omega)]
      have := ih (i + 1) ((((acc ++ [x.1]) ++ [((x.2.length / 256 : Nat) : Int)]) ++ [((x.2.length % 256 : Nat) : Int)]) ++ x.2) (by omega) (by omega) (by simp; omega)
      rw [show ((i + 1 : Nat) : Int) = (i : Int) + 1 from by omega] at this
      rw [this]
      simp [fieldB]
    · rw [if_neg (by simp; omega), List.drop_of_length_le (by omega)]
      simp
theorem Join.pure (l : List (Int × List Int)) (hl : joinOk l = true) : Join.f (l.length + 3) l = some (l.flatMap fieldB, 0) := by
  obtain ⟨h1, h2⟩ := (joinOk_iff l).1 hl
  unfold Join.f Join.b
  have := Join.loop l.length l h1 h2 (l.length + 3) 0 [] (by omega) (by omega) (by simp; omega)
  rw [show ((0 : Nat) : Int) = 0 from rfl] at this
  rw [this]
  simp
theorem within_join {r : Int × Int × Int × (Int × Int) × Bool × List (Int × List Int)} (h : recOkT r = true) : joinOk (withinL r) = true := by
  have f8 := (recOk_facts h).2.2.2.2.2.2.2.1
  have b1 := (bagOk_len f8).1
  refine (joinOk_iff _).2 ⟨by unfold withinL; simp; omega, ?_⟩
  intro x hx
  unfold withinL at hx
  rcases List.mem_append.1 hx with hx | hx
  · simp at hx
    rcases hx with rfl | rfl | rfl | rfl <;> simp [be_length]
  · have := bag_tags f8 x hx
    omega
theorem within_flat (r : Int × Int × Int × (Int × Int) × Bool × List (Int × List Int)) : (withinL r).flatMap fieldB = innerL r := by
  unfold withinL innerL
  simp [fieldB, itB, be_length]
theorem map_flat : ∀ (l : LR), (l.map fun r => ((7 : Int), innerL r)).flatMap fieldB = l.flatMap recB2
  | [] => rfl
  | r :: l => by rw [List.map_cons, List.flatMap_cons, List.flatMap_cons, map_flat l]; rfl
theorem fit2_all : ∀ (l : LR), fit2Go l = true → ∀ r ∈ l, r.2.1 ≤ 4294967295
  | [], h, r, hr => by simp at hr
  | x :: l, h, r, hr => by
    unfold fit2Go at h
    split at h
    · cases h
    · rename_i hc
      rcases List.mem_cons.1 hr with rfl | hr
      · simpa using hc
      · exact fit2_all l h r hr
theorem fits2_facts {kind from0 inc lo hi seq target life epoch base : Int} {recs : LR} (h : fits2 kind from0 inc lo hi seq target life epoch base recs = true) :
    validF kind from0 inc lo hi seq target life epoch base recs = true ∧ kind ≠ 9 ∧ epoch = 0 ∧ size2 kind from0 inc lo hi seq target life epoch base recs ≤ 65499 ∧ fit2Go recs = true := by
  unfold fits2 at h
  split at h
  · cases h
  · rename_i hc
    simp at hc
    exact ⟨hc.1, hc.2.1, hc.2.2.1, hc.2.2.2, h⟩
theorem Encode2.loop (fuel : Nat) (kind from0 inc lo hi seq target life epoch base : Int) (recs : LR) (hr : ∀ r ∈ recs, recFit2 r = true) (hlen : recs.length ≤ 255) : ∀ (k i : Nat) (acc : List (Int × List Int)), i ≤ recs.length → recs.length - i < k → acc.length + (recs.length - i) ≤ 300 → (∀ x ∈ acc, (0 ≤ x.1 ∧ x.1 ≤ 255) ∧ x.2.length ≤ 65535) →
    Encode2.l11 fuel kind from0 inc lo hi seq target life epoch base recs k (recs.length : Int) (i : Int) acc = some (acc.flatMap fieldB ++ (recs.drop i).flatMap recB2, 0) := by
  intro k
  induction k with
  | zero => intro i acc h1 h2; omega
  | succ k ih =>
    intro i acc h1 h2 h3 h4
    rw [Encode2.l11]
    unfold Encode2.b11
    by_cases hi' : i < recs.length
    · rw [if_pos (by simp; omega), idx_at, List.getElem?_eq_getElem hi']
      dsimp only
      have hf := hr recs[i] (List.getElem_mem hi')
      rw [List.drop_eq_getElem_cons hi', List.flatMap_cons]
      generalize recs[i] = r at hf ⊢
      have hok := ((recFit_iff r).1 ((recFit2_iff r).1 hf).1).1
      simp only [rec_eta]
      rw [if_pos hf, if_pos (within_join hok), within_flat, if_pos (by simp [lim]; omega), wrap_small ((i : Int) + 1) (by omega) (by omega)]
      have := ih (i + 1) (acc ++ [(7, innerL r)]) (by omega) (by omega) (by simp; omega) (by
        intro x hx
        rcases List.mem_append.1 hx with hx | hx
        · exact h4 x hx
        · have hq := inner_le hok
          simp at hx
          subst hx
          exact ⟨by simp, by simp; omega⟩)
      rw [show ((i + 1 : Nat) : Int) = (i : Int) + 1 from by omega] at this
      rw [this]
      simp [recB2]
    · rw [if_neg (by simp; omega), List.drop_of_length_le (by omega), if_pos ((joinOk_iff acc).2 ⟨by omega, h4⟩)]
      simp
theorem Encode2.pure (kind from0 inc lo hi seq target life epoch base : Int) (recs : LR) (hl : smallRecs recs = true) :
    Encode2.f (recs.length + 1) kind from0 inc lo hi seq target life epoch base recs = some ((enc2 kind from0 inc lo hi seq target life epoch base recs).1, (enc2 kind from0 inc lo hi seq target life epoch base recs).2) := by
  unfold Encode2.f Encode2.b enc2
  rw [if_pos hl]
  cases hv0 : validF kind from0 inc lo hi seq target life epoch base recs
  · rfl
  rw [if_neg (by simp), if_pos hl]
  cases hf : fits2 kind from0 inc lo hi seq target life epoch base recs
  · rfl
  obtain ⟨hv, w1, w2, w3, w4⟩ := fits2_facts hf
  obtain ⟨v1, v2, v3, v4, v5, v6, v7, v8, v9, v10, v11, _, v12, v13⟩ := valid_facts hv
  have v14 := (okS_iff _ _).1 v7
  have hs := ((smallRecs_iff recs).1 hl).2
  have h4 := fit2_all recs w4
  have hlp := fun acc ha hb => Encode2.loop (recs.length + 1) kind from0 inc lo hi seq target life epoch base recs (fun r hr => (recFit2_iff r).2 ⟨(recFit_iff r).2 ⟨v13 r hr, hs r hr⟩, h4 r hr⟩) v12 (recs.length + 1) 0 acc (by omega) (by omega) ha hb
  rw [show ((0 : Nat) : Int) = 0 from rfl] at hlp
  simp only [List.drop_zero] at hlp
  have n5 : fitsF 2 seq = true := fits_two v8 (by omega)
  have n6 : fitsF 2 target = true := fits_two v10 (by omega)
  rw [if_neg (by simp), code_eq v7, if_pos (fits_byte (by omega) (by omega)), if_pos (fits_two v3 (by omega)), if_pos (fits_six v5 (by omega)), if_pos (fits_byte (by omega) (by omega))]
  cases h5 : hasF kind 0 <;> cases h6 : hasF kind 1
  · rw [if_neg (by simp), if_neg (by simp), hlp _ (by simp; omega) (by simp [be_length])]
    simp [body2, itB, fieldB, be_length, h5, h6, List.append_assoc]
  · rw [if_neg (by simp), if_pos rfl, if_pos n6, hlp _ (by simp; omega) (by simp [be_length])]
    simp [body2, itB, fieldB, be_length, h5, h6, List.append_assoc]
  · rw [if_pos rfl, if_pos n5, if_neg (by simp), hlp _ (by simp; omega) (by simp [be_length])]
    simp [body2, itB, fieldB, be_length, h5, h6, List.append_assoc]
  · rw [if_pos rfl, if_pos n5, if_pos rfl, if_pos n6, hlp _ (by simp; omega) (by simp [be_length])]
    simp [body2, itB, fieldB, be_length, h5, h6, List.append_assoc]
end Go.Proofs.Ytlmljpmohljefaa

set_option linter.unusedVariables false
namespace Go.Proofs.Ytlmljpmohljefaa
open Go.Den
theorem s_inner13_det : SumDet s_inner13 := fun avs objs R κ => by
  show s_inner13.run avs objs (two κ) = (s_inner13.run avs objs (two some)).bind κ
  unfold s_inner13
  simp only
  split
  · first | rfl | (split <;> rfl)
  · rfl
theorem s_inner13_ok : SumOk Try.prog 67 s_inner13 := by
  have hE : EnvOk Try.prog Inner13_E := env_ok (l := [(66, s_item13)]) th_ok any_ok ⟨⟨s_item13_ok, s_item13_det⟩, trivial⟩ _
  refine sum_ok hE Try.func67 rfl (by kernel_rfl) s_inner13 [.dat (.sl (.int .u8)) false] Inner13.k ?_
  intro R avs objs κ r h
  unfold s_inner13 at h
  simp only at h
  split at h
  · rename_i rid rinc rst rlo rhi rcut rbag
    split at h
    case isFalse => cases h
    rename_i hl
    refine ⟨rbag.length + 1, _, _, _, (Inner13.eq (rbag.length + 1) rid rinc rst rlo rhi rcut rbag).trans (Inner13.pure rid rinc rst rlo rhi rcut rbag hl), ?_, h⟩
    intro rs ros hk
    unfold Inner13.k at hk
    split at hk
    · first | (cases hk; exact ⟨rfl, rfl⟩) | (have e := Option.some.inj hk; rw [← e]; exact ⟨rfl, rfl⟩)
    · cases hk
  · cases h
theorem s_body13_det : SumDet s_body13 := fun avs objs R κ => by
  show s_body13.run avs objs (two κ) = (s_body13.run avs objs (two some)).bind κ
  unfold s_body13
  simp only
  split
  · first | rfl | (split <;> rfl)
  · rfl
theorem s_body13_ok : SumOk Try.prog 30 s_body13 := by
  have hE : EnvOk Try.prog Body13_E := env_ok (l := [(66, s_item13), (50, s_has), (67, s_inner13)]) th_ok any_ok ⟨⟨s_item13_ok, s_item13_det⟩, ⟨s_has_ok, s_has_det⟩, ⟨s_inner13_ok, s_inner13_det⟩, trivial⟩ _
  refine sum_ok hE Try.func30 rfl (by kernel_rfl) s_body13 [.dat (.sl (.int .u8)) false] Body13.k ?_
  intro R avs objs κ r h
  unfold s_body13 at h
  simp only at h
  split at h
  · rename_i mkind mfrom0 minc mlo mhi mseq mtarget mlife mepoch mbase mrecs
    split at h
    case isFalse => cases h
    rename_i hl
    refine ⟨mrecs.length + 1, _, _, _, (Body13.eq (mrecs.length + 1) mkind mfrom0 minc mlo mhi mseq mtarget mlife mepoch mbase mrecs).trans (Body13.pure mkind mfrom0 minc mlo mhi mseq mtarget mlife mepoch mbase mrecs hl), ?_, h⟩
    intro rs ros hk
    unfold Body13.k at hk
    split at hk
    · first | (cases hk; exact ⟨rfl, rfl⟩) | (have e := Option.some.inj hk; rw [← e]; exact ⟨rfl, rfl⟩)
    · cases hk
  · cases h
theorem s_fits13_det : SumDet s_fits13 := fun avs objs R κ => by
  show s_fits13.run avs objs (two κ) = (s_fits13.run avs objs (two some)).bind κ
  unfold s_fits13
  simp only
  split
  · first | rfl | (split <;> rfl)
  · rfl
theorem s_fits13_ok : SumOk Try.prog 28 s_fits13 := by
  have hE : EnvOk Try.prog Fits13_E := env_ok (l := [(20, s_valid), (30, s_body13)]) th_ok any_ok ⟨⟨s_valid_ok, s_valid_det⟩, ⟨s_body13_ok, s_body13_det⟩, trivial⟩ _
  refine sum_ok hE Try.func28 rfl (by kernel_rfl) s_fits13 [.raw] Fits13.k ?_
  intro R avs objs κ r h
  unfold s_fits13 at h
  simp only at h
  split at h
  · rename_i mkind mfrom0 minc mlo mhi mseq mtarget mlife mepoch mbase mrecs
    split at h
    case isFalse => cases h
    rename_i hl
    refine ⟨mrecs.length + 1, _, _, _, (Fits13.eq (mrecs.length + 1) mkind mfrom0 minc mlo mhi mseq mtarget mlife mepoch mbase mrecs).trans (Fits13.pure mkind mfrom0 minc mlo mhi mseq mtarget mlife mepoch mbase mrecs hl), ?_, h⟩
    intro rs ros hk
    unfold Fits13.k at hk
    split at hk
    · first | (cases hk; exact ⟨rfl, rfl⟩) | (have e := Option.some.inj hk; rw [← e]; exact ⟨rfl, rfl⟩)
    · cases hk
  · cases h
theorem s_within2_det : SumDet s_within2 := fun avs objs R κ => by
  show s_within2.run avs objs (two κ) = (s_within2.run avs objs (two some)).bind κ
  unfold s_within2
  simp only
  split
  · first | rfl | (split <;> rfl)
  · rfl
theorem s_within2_ok : SumOk Try.prog 64 s_within2 := by
  have hE : EnvOk Try.prog Within2_E := env_ok (l := [(62, s_tnum), (44, s_code)]) th_ok any_ok ⟨⟨s_tnum_ok, s_tnum_det⟩, ⟨s_code_ok, s_code_det⟩, trivial⟩ _
  refine sum_ok hE Try.func64 rfl (by kernel_rfl) s_within2 [.dat (.sl (.pair (.int .i64) (.sl (.int .u8)))) false] Within2.k ?_
  intro R avs objs κ r h
  unfold s_within2 at h
  simp only at h
  split at h
  · rename_i rid rinc rst rlo rhi rcut rbag
    split at h
    case isFalse => cases h
    rename_i hl
    refine ⟨0, _, _, _, (Within2.eq (0) rid rinc rst rlo rhi rcut rbag).trans (Within2.pure rid rinc rst rlo rhi rcut rbag hl), ?_, h⟩
    intro rs ros hk
    unfold Within2.k at hk
    split at hk
    · first | (cases hk; exact ⟨rfl, rfl⟩) | (have e := Option.some.inj hk; rw [← e]; exact ⟨rfl, rfl⟩)
    · cases hk
  · cases h
theorem s_join_det : SumDet s_join := fun avs objs R κ => by
  show s_join.run avs objs (two κ) = (s_join.run avs objs (two some)).bind κ
  unfold s_join
  simp only
  split
  · first | rfl | (split <;> rfl)
  · rfl
theorem s_join_ok : SumOk Try.prog 63 s_join := by
  have hE : EnvOk Try.prog Join_E := env_ok (l := []) th_ok any_ok trivial _
  refine sum_ok hE Try.func63 rfl (by kernel_rfl) s_join [.dat (.sl (.int .u8)) false, .raw] Join.k ?_
  intro R avs objs κ r h
  unfold s_join at h
  simp only at h
  split at h
  · rename_i l
    split at h
    case isFalse => cases h
    rename_i hl
    refine ⟨l.length + 3, _, _, _, (Join.eq (l.length + 3) l).trans (Join.pure l hl), ?_, h⟩
    intro rs ros hk
    unfold Join.k at hk
    split at hk
    · first | (cases hk; exact ⟨rfl, rfl⟩) | (have e := Option.some.inj hk; rw [← e]; exact ⟨rfl, rfl⟩)
    · cases hk
  · cases h
theorem s_enc2_det : SumDet s_enc2 := fun avs objs R κ => by
  show s_enc2.run avs objs (two κ) = (s_enc2.run avs objs (two some)).bind κ
  unfold s_enc2
  simp only
  split
  · first | rfl | (split <;> rfl)
  · rfl
theorem s_enc2_ok : SumOk Try.prog 26 s_enc2 := by
  have hE : EnvOk Try.prog Encode2_E := env_ok (l := [(20, s_valid), (27, s_fits2), (62, s_tnum), (44, s_code), (50, s_has), (64, s_within2), (63, s_join)]) th_ok any_ok ⟨⟨s_valid_ok, s_valid_det⟩, ⟨s_fits2_ok, s_fits2_det⟩, ⟨s_tnum_ok, s_tnum_det⟩, ⟨s_code_ok, s_code_det⟩, ⟨s_has_ok, s_has_det⟩, ⟨s_within2_ok, s_within2_det⟩, ⟨s_join_ok, s_join_det⟩, trivial⟩ _
  refine sum_ok hE Try.func26 rfl (by kernel_rfl) s_enc2 [.dat (.sl (.int .u8)) false, .raw] Encode2.k ?_
  intro R avs objs κ r h
  unfold s_enc2 at h
  simp only at h
  split at h
  · rename_i mkind mfrom0 minc mlo mhi mseq mtarget mlife mepoch mbase mrecs
    split at h
    case isFalse => cases h
    rename_i hl
    refine ⟨mrecs.length + 1, _, _, _, (Encode2.eq (mrecs.length + 1) mkind mfrom0 minc mlo mhi mseq mtarget mlife mepoch mbase mrecs).trans (Encode2.pure mkind mfrom0 minc mlo mhi mseq mtarget mlife mepoch mbase mrecs hl), ?_, h⟩
    intro rs ros hk
    unfold Encode2.k at hk
    split at hk
    · first | (cases hk; exact ⟨rfl, rfl⟩) | (have e := Option.some.inj hk; rw [← e]; exact ⟨rfl, rfl⟩)
    · cases hk
  · cases h
end Go.Proofs.Ytlmljpmohljefaa

/- printed by denfn.py -/
set_option linter.unusedVariables false
namespace Go.Proofs.Ytlmljpmohljefaa
open Go.Den
noncomputable def s_awake13 : Den.Sum := ⟨[], fun args objs κ => match args, objs with
  | [], [] => κ [.d .bool true] []
  | _, _ => none⟩
noncomputable def awake13_E : Env := ⟨th, gam [(26, s_enc2)], fun i => ⟨[], [], []⟩⟩
noncomputable def awake13.k (rs : List AV) (os : List Den.Obj) : Option Bool :=
  match rs, os with
  | [.d .bool r0], [] => some r0
  | _, _ => none
noncomputable def awake13.b (u : Unit) : Option Bool :=
  some (((enc2 (4 : Int) 0 0 (1 : Int) (2 : Int) 0 0 0 0 0 ((0, ((veil (4294967296 : Int)), (0, (((1 : Int), (2 : Int)), (false, ([] : List (Int × (List Int)))))))) :: ([] : List (Int × (Int × (Int × ((Int × Int) × (Bool × (List (Int × (List Int))))))))))).2 == (14 : Int)))
noncomputable def awake13.f (fuel : Nat) (u : Unit) : Option Bool := awake13.b u
theorem awake13.eq (fuel : Nat) (u : Unit) : (denF awake13_E loopN fuel Try.f25 [.raw] [] [] awake13.k) = awake13.f fuel u := by
  kernel_rfl


noncomputable def Gen2Writes_E : Env := ⟨th, gam [(15, s_few10), (25, s_awake13), (26, s_enc2), (27, s_fits2), (28, s_fits13), (20, s_valid), (29, s_size2), (30, s_body13)], fun i => ⟨[], [], []⟩⟩
noncomputable def Gen2Writes.k (rs : List AV) (os : List Den.Obj) : Option Bool :=
  match rs, os with
  | [.d .bool r0], [] => some r0
  | _, _ => none
noncomputable def Gen2Writes.b (mkind : Int) (mfrom0 : Int) (minc : Int) (mlo : Int) (mhi : Int) (mseq : Int) (mtarget : Int) (mlife : Int) (mepoch : Int) (mbase : Int) (mrecs : List (Int × Int × Int × (Int × Int) × Bool × List (Int × List Int))) : Option Bool :=
  (if (smallRecs mrecs) then (if (!(few8 mrecs)) then some (true) else (if (smallRecs mrecs) then (if (smallRecs mrecs) then (if (smallRecs mrecs) then (if (!((fits2 mkind mfrom0 minc mlo mhi mseq mtarget mlife mepoch mbase mrecs) == (fits13 mkind mfrom0 minc mlo mhi mseq mtarget mlife mepoch mbase mrecs))) then some (false) else (if (smallRecs mrecs) then (if (!(validF mkind mfrom0 minc mlo mhi mseq mtarget mlife mepoch mbase mrecs)) then (if (((((List.length (enc2 mkind mfrom0 minc mlo mhi mseq mtarget mlife mepoch mbase mrecs).1)) : Nat) : Int) == (0 : Int)) then (if ((enc2 mkind mfrom0 minc mlo mhi mseq mtarget mlife mepoch mbase mrecs).2 == (1 : Int)) then (if (smallRecs mrecs) then (if ((size2 mkind mfrom0 minc mlo mhi mseq mtarget mlife mepoch mbase mrecs) == (0 : Int)) then some (true) else some (false)) else none) else some (false)) else some (false)) else (if (smallRecs mrecs) then (if ((validF mkind mfrom0 minc mlo mhi mseq mtarget mlife mepoch mbase mrecs) && (smallRecs mrecs)) then (if ((size2 mkind mfrom0 minc mlo mhi mseq mtarget mlife mepoch mbase mrecs) != ((((List.length (body2 mkind mfrom0 minc mlo mhi mseq mtarget mrecs))) : Nat) : Int)) then some (false) else (if (smallRecs mrecs) then (if (!(fits13 mkind mfrom0 minc mlo mhi mseq mtarget mlife mepoch mbase mrecs)) then (if (((((List.length (enc2 mkind mfrom0 minc mlo mhi mseq mtarget mlife mepoch mbase mrecs).1)) : Nat) : Int) == (0 : Int)) then (if ((enc2 mkind mfrom0 minc mlo mhi mseq mtarget mlife mepoch mbase mrecs).2 == (14 : Int)) then some (true) else some (false)) else some (false)) else (if ((enc2 mkind mfrom0 minc mlo mhi mseq mtarget mlife mepoch mbase mrecs).2 == (0 : Int)) then (if ((validF mkind mfrom0 minc mlo mhi mseq mtarget mlife mepoch mbase mrecs) && (smallRecs mrecs)) then (if ((ByteArray.toList (strOf (enc2 mkind mfrom0 minc mlo mhi mseq mtarget mlife mepoch mbase mrecs).1)) == (ByteArray.toList (strOf (body2 mkind mfrom0 minc mlo mhi mseq mtarget mrecs)))) then some (true) else some (false)) else none) else some (false))) else none)) else none) else none)) else none)) else none) else none) else none)) else none)
noncomputable def Gen2Writes.f (fuel : Nat) (mkind : Int) (mfrom0 : Int) (minc : Int) (mlo : Int) (mhi : Int) (mseq : Int) (mtarget : Int) (mlife : Int) (mepoch : Int) (mbase : Int) (mrecs : List (Int × Int × Int × (Int × Int) × Bool × List (Int × List Int))) : Option Bool := Gen2Writes.b mkind mfrom0 minc mlo mhi mseq mtarget mlife mepoch mbase mrecs
theorem Gen2Writes.eq (fuel : Nat) (mkind : Int) (mfrom0 : Int) (minc : Int) (mlo : Int) (mhi : Int) (mseq : Int) (mtarget : Int) (mlife : Int) (mepoch : Int) (mbase : Int) (mrecs : List (Int × Int × Int × (Int × Int) × Bool × List (Int × List Int))) : (denF Gen2Writes_E loopN fuel Try.f7 [.raw] [.agg [.d (.int .i64) mkind, .d (.int .i64) mfrom0, .d (.int .i64) minc, .d (.int .i64) mlo, .d (.int .i64) mhi, .d (.int .i64) mseq, .d (.int .i64) mtarget, .d (.int .i64) mlife, .d (.int .i64) mepoch, .d (.int .i64) mbase, .d (.sl (.pair (.int .i64) (.pair (.int .i64) (.pair (.int .i64) (.pair (.pair (.int .i64) (.int .i64)) (.pair .bool (.sl (.pair (.int .i64) (.sl (.int .u8)))))))))) mrecs]] [] Gen2Writes.k) = Gen2Writes.f fuel mkind mfrom0 minc mlo mhi mseq mtarget mlife mepoch mbase mrecs := by
  kernel_rfl


end Go.Proofs.Ytlmljpmohljefaa

set_option linter.unusedVariables false
set_option linter.unusedSimpArgs false
namespace Go.Proofs.Ytlmljpmohljefaa
open Go.Den
theorem flatR_len : ∀ (l : LR), (((l.flatMap recB2).length : Nat) : Int) = recsLen l
  | [] => rfl
  | r :: l => by
    have h1 := flatR_len l
    have h2 := recB2_len r
    rw [List.flatMap_cons, List.length_append, recsLen]
    omega
theorem size_body {kind from0 inc lo hi seq target life epoch base : Int} {recs : LR} (hv : validF kind from0 inc lo hi seq target life epoch base recs = true) :
    size2 kind from0 inc lo hi seq target life epoch base recs = ((body2 kind from0 inc lo hi seq target recs).length : Int) := by
  have h := flatR_len recs
  unfold size2 body2
  rw [hv, if_neg (by simp)]
  generalize recs.flatMap recB2 = L at h ⊢
  simp only [List.length_append, itB_len]
  cases hasF kind 0 <;> cases hasF kind 1 <;> simp [itB_len] <;> omega
theorem fits2_same (kind from0 inc lo hi seq target life epoch base : Int) (recs : LR) : fits2 kind from0 inc lo hi seq target life epoch base recs = fits13 kind from0 inc lo hi seq target life epoch base recs := by
  unfold fits2 fits13
  cases hv : validF kind from0 inc lo hi seq target life epoch base recs
  · rfl
  · rw [size_body hv]
    generalize hn : ((body2 kind from0 inc lo hi seq target recs).length : Int) = n
    by_cases he : epoch = 0
    · subst he
      obtain ⟨_, _, _, _, _, _, _, _, _, _, _, hl, _⟩ := valid_facts hv
      obtain ⟨rfl, rfl⟩ := lives_zero hl
      by_cases h9 : kind = 9
      · simp [h9]
      · by_cases hs : n > 65499
        · simp [h9, hs]
        · simp [h9, hs]
          omega
    · by_cases h9 : kind = 9
      · simp [h9]
      · simp [he, h9]
theorem hello_ok : validF 4 0 0 1 2 0 0 0 0 0 [(0, 4294967296, 0, (1, 2), false, [])] = true := by
  have a0 : hasF 4 0 = true := by kernel_rfl
  have a1 : hasF 4 1 = false := by kernel_rfl
  have a2 : hasF 4 2 = false := by kernel_rfl
  have a4 : hasF 4 4 = true := by kernel_rfl
  have b : ((ofF 4).1.toList == (⟨#[]⟩ : ByteArray).toList) = false := by kernel_rfl
  unfold validF
  rw [b, a0, a1, a4]
  simp [okS, withinF, livesF, a2, sortedF, whGo, recOkT, recOk, bagOk, bagGo]
theorem awake13.pure : awake13.f 0 () = some true := by
  unfold awake13.f awake13.b
  rw [veil_eq]
  have hv := hello_ok
  have hf : fits2 4 0 0 1 2 0 0 0 0 0 [(0, 4294967296, 0, (1, 2), false, [])] = false := by
    unfold fits2
    simp [hv, fit2Go]
  unfold enc2
  rw [hv, hf]
  rfl
theorem Gen2Writes.pure (kind from0 inc lo hi seq target life epoch base : Int) (recs : LR) (hl : smallRecs recs = true) : Gen2Writes.f 0 kind from0 inc lo hi seq target life epoch base recs = some true := by
  unfold Gen2Writes.f Gen2Writes.b
  rw [hl, fits2_same]
  cases few8 recs
  · rfl
  simp only [if_true, Bool.not_true, Bool.false_eq_true, if_false, beq_self_eq_true, Bool.and_true]
  unfold enc2
  rw [fits2_same]
  cases hv : validF kind from0 inc lo hi seq target life epoch base recs
  · simp [size2, hv]
  · rw [size_body hv]
    cases hf : fits13 kind from0 inc lo hi seq target life epoch base recs
    · simp
    · simp
end Go.Proofs.Ytlmljpmohljefaa

set_option linter.unusedVariables false
namespace Go.Proofs.Ytlmljpmohljefaa
open Go.Den
theorem s_awake13_det : SumDet s_awake13 := fun avs objs R κ => by
  show s_awake13.run avs objs (two κ) = (s_awake13.run avs objs (two some)).bind κ
  unfold s_awake13
  simp only
  split
  · first | rfl | (split <;> rfl)
  · rfl
theorem s_awake13_ok : SumOk Try.prog 25 s_awake13 := by
  have hE : EnvOk Try.prog awake13_E := env_ok (l := [(26, s_enc2)]) th_ok any_ok ⟨⟨s_enc2_ok, s_enc2_det⟩, trivial⟩ _
  refine sum_ok hE Try.func25 rfl (by kernel_rfl) s_awake13 [.raw] awake13.k ?_
  intro R avs objs κ r h
  unfold s_awake13 at h
  simp only at h
  split at h
  · skip
    refine ⟨0, _, _, _, (awake13.eq (0) ()).trans (awake13.pure), ?_, h⟩
    intro rs ros hk
    unfold awake13.k at hk
    split at hk
    · first | (cases hk; exact ⟨rfl, rfl⟩) | (have e := Option.some.inj hk; rw [← e]; exact ⟨rfl, rfl⟩)
    · cases hk
  · cases h
end Go.Proofs.Ytlmljpmohljefaa

