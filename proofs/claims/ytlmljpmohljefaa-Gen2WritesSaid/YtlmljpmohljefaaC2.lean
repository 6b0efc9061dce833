/- printed by denfn.py -/
import Derived.Test.YtlmljpmohljefaaTh
import Derived.Test.YtlmljpmohljefaaS1
set_option linter.unusedVariables false
namespace Go.Proofs.Ytlmljpmohljefaa
open Go.Den
noncomputable def hasF (k p : Int) : Bool := if decide (p ≥ 0) && decide (p ≤ 4) then (bits Go.BinOp.and .u8 (Int.fdiv (ofF k).2 ((2 : Int) ^ (Min.min (Int.toNat p) (Go.IntKind.bits .u8)))) (1 : Int)) == (1 : Int) else false
noncomputable def livesF (kind life epoch base : Int) : Bool :=
  if !withinF (hasF kind 2) life 0 281474976710655 || !withinF (hasF kind 2) epoch 0 65535 then false else
  if epoch == 0 && (life != 0 || kind == 9) then false else base == 0 || (hasF kind 3 && (decide (base > 0) && decide (base < epoch)))
noncomputable def smallRec (r : (Int × Int × Int × (Int × Int) × Bool × List (Int × List Int))) : Bool := smallBag r.2.2.2.2.2
noncomputable def smallRecs (l : List (Int × Int × Int × (Int × Int) × Bool × List (Int × List Int))) : Bool := decide (l.length < 281474976710656) && l.all smallRec
noncomputable def recOkT (r : (Int × Int × Int × (Int × Int) × Bool × List (Int × List Int))) : Bool := recOk r.1 r.2.1 r.2.2.1 r.2.2.2.1.1 r.2.2.2.1.2 r.2.2.2.2.1 r.2.2.2.2.2
/-- the first record that is not in order, or the length; and the last id seen -/
noncomputable def whGo : List (Int × Int × Int × (Int × Int) × Bool × List (Int × List Int)) → Int → Int → Int × Int
  | [], i, last => (i, last)
  | r :: l, i, last => if !recOkT r || decide (r.1 ≤ last) then (i, r.1) else whGo l (i + 1) r.1
noncomputable def sortedF (l : List (Int × Int × Int × (Int × Int) × Bool × List (Int × List Int))) : Bool := (whGo l 0 (-1)).1 == (l.length : Int)
noncomputable def validF (kind from0 inc lo hi seq target life epoch base : Int) (recs : List (Int × Int × Int × (Int × Int) × Bool × List (Int × List Int))) : Bool :=
  if (ofF kind).1.toList == (⟨#[]⟩ : ByteArray).toList || (decide (from0 < 0) || (decide (from0 > 4095) || (decide (inc < 0) || (decide (inc > 281474976710655) || !okS lo hi)))) then false else
  if !withinF (hasF kind 0) seq 0 65535 || (!withinF (hasF kind 1) target (if kind == 3 then 1 else 0) (if kind == 3 then 3 else 4095) || !livesF kind life epoch base) then false else
  if !hasF kind 4 then recs.length == 0 else decide ((recs.length : Int) ≤ 255) && sortedF recs
noncomputable def few6Go : List (Int × List Int) → Int → Bool
  | [], _ => true
  | x :: l, n => if decide (n + (x.2.length : Int) > 5000) then false else few6Go l (n + (x.2.length : Int))
noncomputable def few6 (b : List (Int × List Int)) : Bool := if decide ((b.length : Int) > 40) then false else few6Go b 0
noncomputable def few8 (l : List (Int × Int × Int × (Int × Int) × Bool × List (Int × List Int))) : Bool := if decide ((l.length : Int) > 20) then false else l.all fun r => few6 r.2.2.2.2.2
noncomputable def fitGo : List (Int × Int × Int × (Int × Int) × Bool × List (Int × List Int)) → Bool
  | [] => true
  | r :: l => if decide (r.2.1 > 65535) || decide ((r.2.2.2.2.2.length : Int) > 0) then false else fitGo l
noncomputable def fits1 (kind from0 inc lo hi seq target life epoch base : Int) (recs : List (Int × Int × Int × (Int × Int) × Bool × List (Int × List Int))) : Bool :=
  if !validF kind from0 inc lo hi seq target life epoch base recs || (kind == 9 || epoch != 0) then false else fitGo recs
noncomputable def fitsL (kind from0 inc lo hi seq target life epoch base : Int) (recs : List (Int × Int × Int × (Int × Int) × Bool × List (Int × List Int))) : Bool :=
  if !validF kind from0 inc lo hi seq target life epoch base recs || (kind == 9 || (life != 0 || (epoch != 0 || base != 0))) then false else fitGo recs
noncomputable def stateF (st lo hi : Int) (cut : Bool) : Int :=
  let v := bits .or .i64 (bits .or .i64 st (Go.IntKind.wrap .i64 (lo * 4))) (Go.IntKind.wrap .i64 (hi * 16))
  if cut then bits .or .i64 v 64 else v
/-- the bytes of a number, the greatest first -/
noncomputable def be : Nat → Int → List Int
  | 0, _ => []
  | n + 1, v => be n (v / 256) ++ [v % 256]
noncomputable def fitsF (n v : Int) : Bool := decide (1 ≤ n) && (decide (n ≤ 7) && (decide (0 ≤ v) && decide (v < 256 ^ n.toNat)))
noncomputable def s_has : Den.Sum := ⟨[.raw, .raw], fun args objs κ => match args, objs with
  | [.d (.int .i64) k, .d (.int .i64) p], [] => κ [.d .bool (hasF k p)] []
  | _, _ => none⟩
noncomputable def s_lives : Den.Sum := ⟨[.dat (.pair (.int .i64) (.pair (.int .i64) (.pair (.int .i64) (.pair (.pair (.int .i64) (.int .i64)) (.pair (.int .i64) (.pair (.int .i64) (.pair (.int .i64) (.pair (.int .i64) (.pair (.int .i64) (.sl (.pair (.int .i64) (.pair (.int .i64) (.pair (.int .i64) (.pair (.pair (.int .i64) (.int .i64)) (.pair .bool (.sl (.pair (.int .i64) (.sl (.int .u8))))))))))))))))))) true], fun args objs κ => match args, objs with
  | [.agg [.d (.int .i64) mkind, .d (.int .i64) mfrom0, .d (.int .i64) minc, .d (.int .i64) mlo, .d (.int .i64) mhi, .d (.int .i64) mseq, .d (.int .i64) mtarget, .d (.int .i64) mlife, .d (.int .i64) mepoch, .d (.int .i64) mbase, .d (.sl (.pair (.int .i64) (.pair (.int .i64) (.pair (.int .i64) (.pair (.pair (.int .i64) (.int .i64)) (.pair .bool (.sl (.pair (.int .i64) (.sl (.int .u8)))))))))) mrecs]], [] => κ [.d .bool (livesF mkind mlife mepoch mbase)] []
  | _, _ => none⟩
noncomputable def s_srt1 : Den.Sum := ⟨[.dat (.pair (.int .i64) (.pair (.int .i64) (.pair (.int .i64) (.pair (.pair (.int .i64) (.int .i64)) (.pair .bool (.sl (.pair (.int .i64) (.sl (.int .u8))))))))) true, .raw], fun args objs κ => match args, objs with
  | [.agg [.d (.int .i64) rid, .d (.int .i64) rinc, .d (.int .i64) rst, .d (.int .i64) rlo, .d (.int .i64) rhi, .d .bool rcut, .d (.sl (.pair (.int .i64) (.sl (.int .u8)))) rbag], .ptr 0 0], [.box [.d (.int .i64) last]] => if smallBag rbag = true then κ [.d .bool (!recOk rid rinc rst rlo rhi rcut rbag || decide (rid ≤ last))] [.box [.d (.int .i64) rid]] else none
  | _, _ => none⟩
noncomputable def s_where : Den.Sum := ⟨[.dat (.sl (.pair (.int .i64) (.pair (.int .i64) (.pair (.int .i64) (.pair (.pair (.int .i64) (.int .i64)) (.pair .bool (.sl (.pair (.int .i64) (.sl (.int .u8)))))))))) false, .raw], fun args objs κ => match args, objs with
  | [.d (.sl (.pair (.int .i64) (.pair (.int .i64) (.pair (.int .i64) (.pair (.pair (.int .i64) (.int .i64)) (.pair .bool (.sl (.pair (.int .i64) (.sl (.int .u8)))))))))) l, .fn (.func 85) [] [.ptr 0 0]], [.box [.d (.int .i64) last]] => if smallRecs l = true then κ [.d (.int .i64) (whGo l 0 last).1] [.box [.d (.int .i64) (whGo l 0 last).2]] else none
  | _, _ => none⟩
noncomputable def s_sorted : Den.Sum := ⟨[.dat (.sl (.pair (.int .i64) (.pair (.int .i64) (.pair (.int .i64) (.pair (.pair (.int .i64) (.int .i64)) (.pair .bool (.sl (.pair (.int .i64) (.sl (.int .u8)))))))))) false], fun args objs κ => match args, objs with
  | [.d (.sl (.pair (.int .i64) (.pair (.int .i64) (.pair (.int .i64) (.pair (.pair (.int .i64) (.int .i64)) (.pair .bool (.sl (.pair (.int .i64) (.sl (.int .u8)))))))))) l], [] => if smallRecs l = true then κ [.d .bool (sortedF l)] [] else none
  | _, _ => none⟩
noncomputable def s_valid : Den.Sum := ⟨[.dat (.pair (.int .i64) (.pair (.int .i64) (.pair (.int .i64) (.pair (.pair (.int .i64) (.int .i64)) (.pair (.int .i64) (.pair (.int .i64) (.pair (.int .i64) (.pair (.int .i64) (.pair (.int .i64) (.sl (.pair (.int .i64) (.pair (.int .i64) (.pair (.int .i64) (.pair (.pair (.int .i64) (.int .i64)) (.pair .bool (.sl (.pair (.int .i64) (.sl (.int .u8))))))))))))))))))) true], fun args objs κ => match args, objs with
  | [.agg [.d (.int .i64) mkind, .d (.int .i64) mfrom0, .d (.int .i64) minc, .d (.int .i64) mlo, .d (.int .i64) mhi, .d (.int .i64) mseq, .d (.int .i64) mtarget, .d (.int .i64) mlife, .d (.int .i64) mepoch, .d (.int .i64) mbase, .d (.sl (.pair (.int .i64) (.pair (.int .i64) (.pair (.int .i64) (.pair (.pair (.int .i64) (.int .i64)) (.pair .bool (.sl (.pair (.int .i64) (.sl (.int .u8)))))))))) mrecs]], [] => if smallRecs mrecs = true then κ [.d .bool (validF mkind mfrom0 minc mlo mhi mseq mtarget mlife mepoch mbase mrecs)] [] else none
  | _, _ => none⟩
noncomputable def s_few6 : Den.Sum := ⟨[.dat (.sl (.pair (.int .i64) (.sl (.int .u8)))) false], fun args objs κ => match args, objs with
  | [.d (.sl (.pair (.int .i64) (.sl (.int .u8)))) b], [] => if smallBag b = true then κ [.d .bool (few6 b)] [] else none
  | _, _ => none⟩
noncomputable def s_few8 : Den.Sum := ⟨[.dat (.sl (.pair (.int .i64) (.pair (.int .i64) (.pair (.int .i64) (.pair (.pair (.int .i64) (.int .i64)) (.pair .bool (.sl (.pair (.int .i64) (.sl (.int .u8)))))))))) false], fun args objs κ => match args, objs with
  | [.d (.sl (.pair (.int .i64) (.pair (.int .i64) (.pair (.int .i64) (.pair (.pair (.int .i64) (.int .i64)) (.pair .bool (.sl (.pair (.int .i64) (.sl (.int .u8)))))))))) l], [] => if smallRecs l = true then κ [.d .bool (few8 l)] [] else none
  | _, _ => none⟩
noncomputable def s_few10 : Den.Sum := ⟨[.dat (.pair (.int .i64) (.pair (.int .i64) (.pair (.int .i64) (.pair (.pair (.int .i64) (.int .i64)) (.pair (.int .i64) (.pair (.int .i64) (.pair (.int .i64) (.pair (.int .i64) (.pair (.int .i64) (.sl (.pair (.int .i64) (.pair (.int .i64) (.pair (.int .i64) (.pair (.pair (.int .i64) (.int .i64)) (.pair .bool (.sl (.pair (.int .i64) (.sl (.int .u8))))))))))))))))))) true], fun args objs κ => match args, objs with
  | [.agg [.d (.int .i64) mkind, .d (.int .i64) mfrom0, .d (.int .i64) minc, .d (.int .i64) mlo, .d (.int .i64) mhi, .d (.int .i64) mseq, .d (.int .i64) mtarget, .d (.int .i64) mlife, .d (.int .i64) mepoch, .d (.int .i64) mbase, .d (.sl (.pair (.int .i64) (.pair (.int .i64) (.pair (.int .i64) (.pair (.pair (.int .i64) (.int .i64)) (.pair .bool (.sl (.pair (.int .i64) (.sl (.int .u8)))))))))) mrecs]], [] => if smallRecs mrecs = true then κ [.d .bool (few8 mrecs)] [] else none
  | _, _ => none⟩
noncomputable def s_fits1 : Den.Sum := ⟨[.dat (.pair (.int .i64) (.pair (.int .i64) (.pair (.int .i64) (.pair (.pair (.int .i64) (.int .i64)) (.pair (.int .i64) (.pair (.int .i64) (.pair (.int .i64) (.pair (.int .i64) (.pair (.int .i64) (.sl (.pair (.int .i64) (.pair (.int .i64) (.pair (.int .i64) (.pair (.pair (.int .i64) (.int .i64)) (.pair .bool (.sl (.pair (.int .i64) (.sl (.int .u8))))))))))))))))))) true], fun args objs κ => match args, objs with
  | [.agg [.d (.int .i64) mkind, .d (.int .i64) mfrom0, .d (.int .i64) minc, .d (.int .i64) mlo, .d (.int .i64) mhi, .d (.int .i64) mseq, .d (.int .i64) mtarget, .d (.int .i64) mlife, .d (.int .i64) mepoch, .d (.int .i64) mbase, .d (.sl (.pair (.int .i64) (.pair (.int .i64) (.pair (.int .i64) (.pair (.pair (.int .i64) (.int .i64)) (.pair .bool (.sl (.pair (.int .i64) (.sl (.int .u8)))))))))) mrecs]], [] => if smallRecs mrecs = true then κ [.d .bool (fits1 mkind mfrom0 minc mlo mhi mseq mtarget mlife mepoch mbase mrecs)] [] else none
  | _, _ => none⟩
noncomputable def s_fitsL : Den.Sum := ⟨[.dat (.pair (.int .i64) (.pair (.int .i64) (.pair (.int .i64) (.pair (.pair (.int .i64) (.int .i64)) (.pair (.int .i64) (.pair (.int .i64) (.pair (.int .i64) (.pair (.int .i64) (.pair (.int .i64) (.sl (.pair (.int .i64) (.pair (.int .i64) (.pair (.int .i64) (.pair (.pair (.int .i64) (.int .i64)) (.pair .bool (.sl (.pair (.int .i64) (.sl (.int .u8))))))))))))))))))) true], fun args objs κ => match args, objs with
  | [.agg [.d (.int .i64) mkind, .d (.int .i64) mfrom0, .d (.int .i64) minc, .d (.int .i64) mlo, .d (.int .i64) mhi, .d (.int .i64) mseq, .d (.int .i64) mtarget, .d (.int .i64) mlife, .d (.int .i64) mepoch, .d (.int .i64) mbase, .d (.sl (.pair (.int .i64) (.pair (.int .i64) (.pair (.int .i64) (.pair (.pair (.int .i64) (.int .i64)) (.pair .bool (.sl (.pair (.int .i64) (.sl (.int .u8)))))))))) mrecs]], [] => if smallRecs mrecs = true then κ [.d .bool (fitsL mkind mfrom0 minc mlo mhi mseq mtarget mlife mepoch mbase mrecs)] [] else none
  | _, _ => none⟩
noncomputable def s_state : Den.Sum := ⟨[.dat (.pair (.int .i64) (.pair (.int .i64) (.pair (.int .i64) (.pair (.pair (.int .i64) (.int .i64)) (.pair .bool (.sl (.pair (.int .i64) (.sl (.int .u8))))))))) true], fun args objs κ => match args, objs with
  | [.agg [.d (.int .i64) rid, .d (.int .i64) rinc, .d (.int .i64) rst, .d (.int .i64) rlo, .d (.int .i64) rhi, .d .bool rcut, .d (.sl (.pair (.int .i64) (.sl (.int .u8)))) rbag]], [] => κ [.d (.int .i64) (stateF rst rlo rhi rcut)] []
  | _, _ => none⟩
noncomputable def s_ofits : Den.Sum := ⟨[.raw, .raw], fun args objs κ => match args, objs with
  | [.d (.int .i64) n, .d (.int .i64) v], [] => if fitsF n v = true then κ [.d .bool true] [] else none
  | _, _ => none⟩
noncomputable def MsgLives_E : Env := ⟨th, gam [(50, s_has), (49, s_within)], fun i => ⟨[], [], []⟩⟩
noncomputable def MsgLives.k (rs : List AV) (os : List Den.Obj) : Option Bool :=
  match rs, os with
  | [.d .bool r0], [] => some r0
  | _, _ => none
noncomputable def MsgLives.b (mkind : Int) (mfrom0 : Int) (minc : Int) (mlo : Int) (mhi : Int) (mseq : Int) (mtarget : Int) (mlife : Int) (mepoch : Int) (mbase : Int) (mrecs : List (Int × Int × Int × (Int × Int) × Bool × List (Int × List Int))) : Option Bool :=
  (if (!(withinF (hasF mkind (2 : Int)) mlife (0 : Int) (veil (281474976710655 : Int)))) then some (false) else (if (!(withinF (hasF mkind (2 : Int)) mepoch (0 : Int) (65535 : Int))) then some (false) else (if (mepoch == (0 : Int)) then (if (mlife != (0 : Int)) then some (false) else (if (mkind == (9 : Int)) then some (false) else (if (mbase == (0 : Int)) then some (true) else (if (hasF mkind (3 : Int)) then (if (decide (mbase > (0 : Int))) then some ((decide (mbase < mepoch))) else some (false)) else some (false))))) else (if (mbase == (0 : Int)) then some (true) else (if (hasF mkind (3 : Int)) then (if (decide (mbase > (0 : Int))) then some ((decide (mbase < mepoch))) else some (false)) else some (false))))))
noncomputable def MsgLives.f (fuel : Nat) (mkind : Int) (mfrom0 : Int) (minc : Int) (mlo : Int) (mhi : Int) (mseq : Int) (mtarget : Int) (mlife : Int) (mepoch : Int) (mbase : Int) (mrecs : List (Int × Int × Int × (Int × Int) × Bool × List (Int × List Int))) : Option Bool := MsgLives.b mkind mfrom0 minc mlo mhi mseq mtarget mlife mepoch mbase mrecs
theorem MsgLives.eq (fuel : Nat) (mkind : Int) (mfrom0 : Int) (minc : Int) (mlo : Int) (mhi : Int) (mseq : Int) (mtarget : Int) (mlife : Int) (mepoch : Int) (mbase : Int) (mrecs : List (Int × Int × Int × (Int × Int) × Bool × List (Int × List Int))) : (denF MsgLives_E loopN fuel Try.f51 [.raw] [.agg [.d (.int .i64) mkind, .d (.int .i64) mfrom0, .d (.int .i64) minc, .d (.int .i64) mlo, .d (.int .i64) mhi, .d (.int .i64) mseq, .d (.int .i64) mtarget, .d (.int .i64) mlife, .d (.int .i64) mepoch, .d (.int .i64) mbase, .d (.sl (.pair (.int .i64) (.pair (.int .i64) (.pair (.int .i64) (.pair (.pair (.int .i64) (.int .i64)) (.pair .bool (.sl (.pair (.int .i64) (.sl (.int .u8)))))))))) mrecs]] [] MsgLives.k) = MsgLives.f fuel mkind mfrom0 minc mlo mhi mseq mtarget mlife mepoch mbase mrecs := by
  kernel_rfl


noncomputable def Srt1_E : Env := ⟨th, gam [(86, s_recv)], fun i => ⟨[], [], []⟩⟩
noncomputable def Srt1.k (rs : List AV) (os : List Den.Obj) : Option (Bool × Int) :=
  match rs, os with
  | [.d .bool r0], [.box [.d (.int .i64) r1]] => some (r0, r1)
  | _, _ => none
noncomputable def Srt1.b (rid : Int) (rinc : Int) (rst : Int) (rlo : Int) (rhi : Int) (rcut : Bool) (rbag : List (Int × List Int)) (last : Int) : Option (Bool × Int) :=
  (if (smallBag (rinc, (rst, ((rlo, rhi), (rcut, rbag)))).2.2.2.2) then (if (!(recOk rid (rinc, (rst, ((rlo, rhi), (rcut, rbag)))).1 (rinc, (rst, ((rlo, rhi), (rcut, rbag)))).2.1 (rinc, (rst, ((rlo, rhi), (rcut, rbag)))).2.2.1.1 (rinc, (rst, ((rlo, rhi), (rcut, rbag)))).2.2.1.2 (rinc, (rst, ((rlo, rhi), (rcut, rbag)))).2.2.2.1 (rinc, (rst, ((rlo, rhi), (rcut, rbag)))).2.2.2.2)) then some (true, rid) else some ((decide (rid ≤ last)), rid)) else none)
noncomputable def Srt1.f (fuel : Nat) (rid : Int) (rinc : Int) (rst : Int) (rlo : Int) (rhi : Int) (rcut : Bool) (rbag : List (Int × List Int)) (last : Int) : Option (Bool × Int) := Srt1.b rid rinc rst rlo rhi rcut rbag last
theorem Srt1.eq (fuel : Nat) (rid : Int) (rinc : Int) (rst : Int) (rlo : Int) (rhi : Int) (rcut : Bool) (rbag : List (Int × List Int)) (last : Int) : (denF Srt1_E loopN fuel Try.f85 [.raw] [.agg [.d (.int .i64) rid, .d (.int .i64) rinc, .d (.int .i64) rst, .d (.int .i64) rlo, .d (.int .i64) rhi, .d .bool rcut, .d (.sl (.pair (.int .i64) (.sl (.int .u8)))) rbag], .ptr 0 0] [.box [.d (.int .i64) last]] Srt1.k) = Srt1.f fuel rid rinc rst rlo rhi rcut rbag last := by
  kernel_rfl


noncomputable def Where_E : Env := ⟨th, gam [(85, s_srt1)], fun i => if i = 2 then ⟨[0, 1, 7, 8, 9], [], []⟩ else ⟨[], [], []⟩⟩
noncomputable def Where.k (rs : List AV) (os : List Den.Obj) : Option (Int × Int) :=
  match rs, os with
  | [.d (.int .i64) r0], [.box [.d (.int .i64) r1]] => some (r0, r1)
  | _, _ => none
noncomputable def Where.s2 (l : List (Int × Int × Int × (Int × Int) × Bool × List (Int × List Int))) (last : Int) (x0 : Int) (x1 : Int) (x2 : Int) : St := ⟨[.d (.sl (.pair (.int .i64) (.pair (.int .i64) (.pair (.int .i64) (.pair (.pair (.int .i64) (.int .i64)) (.pair .bool (.sl (.pair (.int .i64) (.sl (.int .u8)))))))))) (l), .fn (.func 85) [] [.ptr 0 0], .dead, .dead, .dead, .dead, .dead, .d (.sl (.pair (.int .i64) (.pair (.int .i64) (.pair (.int .i64) (.pair (.pair (.int .i64) (.int .i64)) (.pair .bool (.sl (.pair (.int .i64) (.sl (.int .u8)))))))))) (l), .d (.int .i64) x0, .d (.int .i64) x1, .dead, .dead, .dead, .dead, .dead, .dead, .dead, .dead, .dead, .dead, .dead], ofL [(0, .box [.d (.int .i64) x2])], 1⟩
noncomputable def Where.b2 (l : List (Int × Int × Int × (Int × Int) × Bool × List (Int × List Int))) (last : Int) (A2 : Int → Int → Int → Option (Int × Int)) (x0 : Int) (x1 : Int) (x2 : Int) : Option (Int × Int) :=
  (if (decide (x1 < x0)) then (match (idx l x1) with | none => none | some y3 => (if (smallBag (y3.2.1, (y3.2.2.1, ((y3.2.2.2.1.1, y3.2.2.2.1.2), (y3.2.2.2.2.1, y3.2.2.2.2.2)))).2.2.2.2) then (if ((!(recOk y3.1 (y3.2.1, (y3.2.2.1, ((y3.2.2.2.1.1, y3.2.2.2.1.2), (y3.2.2.2.2.1, y3.2.2.2.2.2)))).1 (y3.2.1, (y3.2.2.1, ((y3.2.2.2.1.1, y3.2.2.2.1.2), (y3.2.2.2.2.1, y3.2.2.2.2.2)))).2.1 (y3.2.1, (y3.2.2.1, ((y3.2.2.2.1.1, y3.2.2.2.1.2), (y3.2.2.2.2.1, y3.2.2.2.2.2)))).2.2.1.1 (y3.2.1, (y3.2.2.1, ((y3.2.2.2.1.1, y3.2.2.2.1.2), (y3.2.2.2.2.1, y3.2.2.2.2.2)))).2.2.1.2 (y3.2.1, (y3.2.2.1, ((y3.2.2.2.1.1, y3.2.2.2.1.2), (y3.2.2.2.2.1, y3.2.2.2.2.2)))).2.2.2.1 (y3.2.1, (y3.2.2.1, ((y3.2.2.2.1.1, y3.2.2.2.1.2), (y3.2.2.2.2.1, y3.2.2.2.2.2)))).2.2.2.2)) || (decide (y3.1 ≤ x2))) then some (x1, y3.1) else A2 x0 (Go.IntKind.wrap .i64 (x1 + (1 : Int))) y3.1) else none)) else some (((((List.length l)) : Nat) : Int), x2))
noncomputable def Where.l2 (fuel : Nat) (l : List (Int × Int × Int × (Int × Int) × Bool × List (Int × List Int))) (last : Int) : Nat → Int → Int → Int → Option (Int × Int)
  | 0, _, _, _ => none
  | k + 1, x0, x1, x2 => Where.b2 l last (Where.l2 fuel l last k) x0 x1 x2
noncomputable def Where.b (l : List (Int × Int × Int × (Int × Int) × Bool × List (Int × List Int))) (last : Int) (E2 : Int → Int → Int → Option (Int × Int)) : Option (Int × Int) :=
  E2 ((((List.length l)) : Nat) : Int) (0 : Int) last
noncomputable def Where.f (fuel : Nat) (l : List (Int × Int × Int × (Int × Int) × Bool × List (Int × List Int))) (last : Int) : Option (Int × Int) := Where.b l last (Where.l2 fuel l last fuel)
theorem Where.l2_eq (fuel : Nat) (l : List (Int × Int × Int × (Int × Int) × Bool × List (Int × List Int))) (last : Int) : ∀ (k : Nat) (x0 : Int) (x1 : Int) (x2 : Int), lp Where_E fuel Try.f84 [.raw] 1 Where.k 2 [] k (Where.s2 l last x0 x1 x2) = Where.l2 fuel l last k x0 x1 x2 := by
  intro k
  induction k with
  | zero => intro x0 x1 x2; rfl
  | succ k ih =>
    intro x0 x1 x2
    have h : lp Where_E fuel Try.f84 [.raw] 1 Where.k 2 [] (k + 1) (Where.s2 l last x0 x1 x2) = Where.b2 l last (fun x0 x1 x2 => lp Where_E fuel Try.f84 [.raw] 1 Where.k 2 [] k (Where.s2 l last x0 x1 x2)) x0 x1 x2 := by kernel_rfl
    rw [h]
    have e2 : (fun x0 x1 x2 => lp Where_E fuel Try.f84 [.raw] 1 Where.k 2 [] k (Where.s2 l last x0 x1 x2)) = Where.l2 fuel l last k := (funext fun x0 => (funext fun x1 => (funext fun x2 => ih x0 x1 x2)))
    rw [e2]
    rfl
theorem Where.eq (fuel : Nat) (l : List (Int × Int × Int × (Int × Int) × Bool × List (Int × List Int))) (last : Int) : (denF Where_E loopN fuel Try.f84 [.raw] [.d (.sl (.pair (.int .i64) (.pair (.int .i64) (.pair (.int .i64) (.pair (.pair (.int .i64) (.int .i64)) (.pair .bool (.sl (.pair (.int .i64) (.sl (.int .u8)))))))))) l, .fn (.func 85) [] [.ptr 0 0]] [.box [.d (.int .i64) last]] Where.k) = Where.f fuel l last := by
  have h : (denF Where_E loopN fuel Try.f84 [.raw] [.d (.sl (.pair (.int .i64) (.pair (.int .i64) (.pair (.int .i64) (.pair (.pair (.int .i64) (.int .i64)) (.pair .bool (.sl (.pair (.int .i64) (.sl (.int .u8)))))))))) l, .fn (.func 85) [] [.ptr 0 0]] [.box [.d (.int .i64) last]] Where.k) = Where.b l last (fun x0 x1 x2 => lp Where_E fuel Try.f84 [.raw] 1 Where.k 2 [] fuel (Where.s2 l last x0 x1 x2)) := by kernel_rfl
  rw [h]
  have e2 : (fun x0 x1 x2 => lp Where_E fuel Try.f84 [.raw] 1 Where.k 2 [] fuel (Where.s2 l last x0 x1 x2)) = Where.l2 fuel l last fuel := (funext fun x0 => (funext fun x1 => (funext fun x2 => Where.l2_eq fuel l last fuel x0 x1 x2)))
  rw [e2]
  rfl


noncomputable def Sorted_E : Env := ⟨th, gam [(84, s_where)], fun i => ⟨[], [], []⟩⟩
noncomputable def Sorted.k (rs : List AV) (os : List Den.Obj) : Option Bool :=
  match rs, os with
  | [.d .bool r0], [] => some r0
  | _, _ => none
noncomputable def Sorted.b (l : List (Int × Int × Int × (Int × Int) × Bool × List (Int × List Int))) : Option Bool :=
  (if (smallRecs l) then some (((whGo l (0 : Int) (-(1 : Int))).1 == ((((List.length l)) : Nat) : Int))) else none)
noncomputable def Sorted.f (fuel : Nat) (l : List (Int × Int × Int × (Int × Int) × Bool × List (Int × List Int))) : Option Bool := Sorted.b l
theorem Sorted.eq (fuel : Nat) (l : List (Int × Int × Int × (Int × Int) × Bool × List (Int × List Int))) : (denF Sorted_E loopN fuel Try.f52 [.raw] [.d (.sl (.pair (.int .i64) (.pair (.int .i64) (.pair (.int .i64) (.pair (.pair (.int .i64) (.int .i64)) (.pair .bool (.sl (.pair (.int .i64) (.sl (.int .u8)))))))))) l] [] Sorted.k) = Sorted.f fuel l := by
  kernel_rfl


noncomputable def MsgValid_E : Env := ⟨th, gam [(47, s_of), (48, s_sv), (49, s_within), (50, s_has), (51, s_lives), (52, s_sorted)], fun i => ⟨[], [], []⟩⟩
noncomputable def MsgValid.k (rs : List AV) (os : List Den.Obj) : Option Bool :=
  match rs, os with
  | [.d .bool r0], [] => some r0
  | _, _ => none
noncomputable def MsgValid.b (mkind : Int) (mfrom0 : Int) (minc : Int) (mlo : Int) (mhi : Int) (mseq : Int) (mtarget : Int) (mlife : Int) (mepoch : Int) (mbase : Int) (mrecs : List (Int × Int × Int × (Int × Int) × Bool × List (Int × List Int))) : Option Bool :=
  (if ((ByteArray.toList (ofF mkind).1) == (ByteArray.toList (⟨([]).toArray⟩ : ByteArray))) then some (false) else (if (decide (mfrom0 < (0 : Int))) then some (false) else (if (decide (mfrom0 > (4095 : Int))) then some (false) else (if (decide (minc < (0 : Int))) then some (false) else (if (decide (minc > (veil (281474976710655 : Int)))) then some (false) else (if (!(okS mlo mhi)) then some (false) else (if (mkind == (3 : Int)) then (if (!(withinF (hasF mkind (0 : Int)) mseq (0 : Int) (65535 : Int))) then some (false) else (if (!(withinF (hasF mkind (1 : Int)) mtarget (1 : Int) (3 : Int))) then some (false) else (if (!(livesF mkind (mfrom0, (minc, ((mlo, mhi), (mseq, (mtarget, (mlife, (mepoch, (mbase, mrecs)))))))).2.2.2.2.2.1 (mfrom0, (minc, ((mlo, mhi), (mseq, (mtarget, (mlife, (mepoch, (mbase, mrecs)))))))).2.2.2.2.2.2.1 (mfrom0, (minc, ((mlo, mhi), (mseq, (mtarget, (mlife, (mepoch, (mbase, mrecs)))))))).2.2.2.2.2.2.2.1)) then some (false) else (if (!(hasF mkind (4 : Int))) then some ((((((List.length mrecs)) : Nat) : Int) == (0 : Int))) else (if (decide (((((List.length mrecs)) : Nat) : Int) ≤ (255 : Int))) then (if (smallRecs mrecs) then some ((sortedF mrecs)) else none) else some (false)))))) else (if (!(withinF (hasF mkind (0 : Int)) mseq (0 : Int) (65535 : Int))) then some (false) else (if (!(withinF (hasF mkind (1 : Int)) mtarget (0 : Int) (4095 : Int))) then some (false) else (if (!(livesF mkind (mfrom0, (minc, ((mlo, mhi), (mseq, (mtarget, (mlife, (mepoch, (mbase, mrecs)))))))).2.2.2.2.2.1 (mfrom0, (minc, ((mlo, mhi), (mseq, (mtarget, (mlife, (mepoch, (mbase, mrecs)))))))).2.2.2.2.2.2.1 (mfrom0, (minc, ((mlo, mhi), (mseq, (mtarget, (mlife, (mepoch, (mbase, mrecs)))))))).2.2.2.2.2.2.2.1)) then some (false) else (if (!(hasF mkind (4 : Int))) then some ((((((List.length mrecs)) : Nat) : Int) == (0 : Int))) else (if (decide (((((List.length mrecs)) : Nat) : Int) ≤ (255 : Int))) then (if (smallRecs mrecs) then some ((sortedF mrecs)) else none) else some (false)))))))))))))
noncomputable def MsgValid.f (fuel : Nat) (mkind : Int) (mfrom0 : Int) (minc : Int) (mlo : Int) (mhi : Int) (mseq : Int) (mtarget : Int) (mlife : Int) (mepoch : Int) (mbase : Int) (mrecs : List (Int × Int × Int × (Int × Int) × Bool × List (Int × List Int))) : Option Bool := MsgValid.b mkind mfrom0 minc mlo mhi mseq mtarget mlife mepoch mbase mrecs
theorem MsgValid.eq (fuel : Nat) (mkind : Int) (mfrom0 : Int) (minc : Int) (mlo : Int) (mhi : Int) (mseq : Int) (mtarget : Int) (mlife : Int) (mepoch : Int) (mbase : Int) (mrecs : List (Int × Int × Int × (Int × Int) × Bool × List (Int × List Int))) : (denF MsgValid_E loopN fuel Try.f20 [.raw] [.agg [.d (.int .i64) mkind, .d (.int .i64) mfrom0, .d (.int .i64) minc, .d (.int .i64) mlo, .d (.int .i64) mhi, .d (.int .i64) mseq, .d (.int .i64) mtarget, .d (.int .i64) mlife, .d (.int .i64) mepoch, .d (.int .i64) mbase, .d (.sl (.pair (.int .i64) (.pair (.int .i64) (.pair (.int .i64) (.pair (.pair (.int .i64) (.int .i64)) (.pair .bool (.sl (.pair (.int .i64) (.sl (.int .u8)))))))))) mrecs]] [] MsgValid.k) = MsgValid.f fuel mkind mfrom0 minc mlo mhi mseq mtarget mlife mepoch mbase mrecs := by
  kernel_rfl


noncomputable def Few6_E : Env := ⟨th, gam [], fun i => if i = 5 then ⟨[0, 3, 4], [], []⟩ else ⟨[], [], []⟩⟩
noncomputable def Few6.k (rs : List AV) (os : List Den.Obj) : Option Bool :=
  match rs, os with
  | [.d .bool r0], [] => some r0
  | _, _ => none
noncomputable def Few6.s5 (b : List (Int × List Int)) (x0 : Int) (x1 : Int) : St := ⟨[.d (.sl (.pair (.int .i64) (.sl (.int .u8)))) (b), .dead, .dead, .d (.int .i64) x0, .d (.int .i64) x1, .dead, .dead, .dead, .dead, .dead, .dead, .dead, .dead, .dead, .dead, .dead, .dead, .dead, .dead, .dead, .dead, .dead, .dead, .dead], ofL [], 0⟩
noncomputable def Few6.b5 (b : List (Int × List Int)) (A5 : Int → Int → Option Bool) (x0 : Int) (x1 : Int) : Option Bool :=
  (if (decide (x1 < ((((List.length b)) : Nat) : Int))) then (match (idx b x1) with | none => none | some y2 => (if (decide ((Go.IntKind.wrap .i64 (x0 + ((((List.length y2.2)) : Nat) : Int))) > (5000 : Int))) then some (false) else A5 (Go.IntKind.wrap .i64 (x0 + ((((List.length y2.2)) : Nat) : Int))) (Go.IntKind.wrap .i64 (x1 + (1 : Int))))) else some (true))
noncomputable def Few6.l5 (fuel : Nat) (b : List (Int × List Int)) : Nat → Int → Int → Option Bool
  | 0, _, _ => none
  | k + 1, x0, x1 => Few6.b5 b (Few6.l5 fuel b k) x0 x1
noncomputable def Few6.b (b : List (Int × List Int)) (E5 : Int → Int → Option Bool) : Option Bool :=
  (if (decide (((((List.length b)) : Nat) : Int) > (40 : Int))) then some (false) else E5 (0 : Int) (0 : Int))
noncomputable def Few6.f (fuel : Nat) (b : List (Int × List Int)) : Option Bool := Few6.b b (Few6.l5 fuel b fuel)
theorem Few6.l5_eq (fuel : Nat) (b : List (Int × List Int)) : ∀ (k : Nat) (x0 : Int) (x1 : Int), lp Few6_E fuel Try.f81 [.raw] 0 Few6.k 5 [] k (Few6.s5 b x0 x1) = Few6.l5 fuel b k x0 x1 := by
  intro k
  induction k with
  | zero => intro x0 x1; rfl
  | succ k ih =>
    intro x0 x1
    have h : lp Few6_E fuel Try.f81 [.raw] 0 Few6.k 5 [] (k + 1) (Few6.s5 b x0 x1) = Few6.b5 b (fun x0 x1 => lp Few6_E fuel Try.f81 [.raw] 0 Few6.k 5 [] k (Few6.s5 b x0 x1)) x0 x1 := by kernel_rfl
    rw [h]
    have e5 : (fun x0 x1 => lp Few6_E fuel Try.f81 [.raw] 0 Few6.k 5 [] k (Few6.s5 b x0 x1)) = Few6.l5 fuel b k := (funext fun x0 => (funext fun x1 => ih x0 x1))
    rw [e5]
    rfl
theorem Few6.eq (fuel : Nat) (b : List (Int × List Int)) : (denF Few6_E loopN fuel Try.f81 [.raw] [.d (.sl (.pair (.int .i64) (.sl (.int .u8)))) b] [] Few6.k) = Few6.f fuel b := by
  have h : (denF Few6_E loopN fuel Try.f81 [.raw] [.d (.sl (.pair (.int .i64) (.sl (.int .u8)))) b] [] Few6.k) = Few6.b b (fun x0 x1 => lp Few6_E fuel Try.f81 [.raw] 0 Few6.k 5 [] fuel (Few6.s5 b x0 x1)) := by kernel_rfl
  rw [h]
  have e5 : (fun x0 x1 => lp Few6_E fuel Try.f81 [.raw] 0 Few6.k 5 [] fuel (Few6.s5 b x0 x1)) = Few6.l5 fuel b fuel := (funext fun x0 => (funext fun x1 => Few6.l5_eq fuel b fuel x0 x1))
  rw [e5]
  rfl


noncomputable def Few8_E : Env := ⟨th, gam [(81, s_few6)], fun i => if i = 4 then ⟨[0, 3], [], []⟩ else ⟨[], [], []⟩⟩
noncomputable def Few8.k (rs : List AV) (os : List Den.Obj) : Option Bool :=
  match rs, os with
  | [.d .bool r0], [] => some r0
  | _, _ => none
noncomputable def Few8.s4 (l : List (Int × Int × Int × (Int × Int) × Bool × List (Int × List Int))) (x0 : Int) : St := ⟨[.d (.sl (.pair (.int .i64) (.pair (.int .i64) (.pair (.int .i64) (.pair (.pair (.int .i64) (.int .i64)) (.pair .bool (.sl (.pair (.int .i64) (.sl (.int .u8)))))))))) (l), .dead, .dead, .d (.int .i64) x0, .dead, .dead, .dead, .dead, .dead, .dead, .dead, .dead, .dead, .dead, .dead, .dead, .dead, .dead, .dead, .dead], ofL [], 0⟩
noncomputable def Few8.b4 (l : List (Int × Int × Int × (Int × Int) × Bool × List (Int × List Int))) (A4 : Int → Option Bool) (x0 : Int) : Option Bool :=
  (if (decide (x0 < ((((List.length l)) : Nat) : Int))) then (match (idx l x0) with | none => none | some y1 => (if (smallBag y1.2.2.2.2.2) then (if (!(few6 y1.2.2.2.2.2)) then some (false) else A4 (Go.IntKind.wrap .i64 (x0 + (1 : Int)))) else none)) else some (true))
noncomputable def Few8.l4 (fuel : Nat) (l : List (Int × Int × Int × (Int × Int) × Bool × List (Int × List Int))) : Nat → Int → Option Bool
  | 0, _ => none
  | k + 1, x0 => Few8.b4 l (Few8.l4 fuel l k) x0
noncomputable def Few8.b (l : List (Int × Int × Int × (Int × Int) × Bool × List (Int × List Int))) (E4 : Int → Option Bool) : Option Bool :=
  (if (decide (((((List.length l)) : Nat) : Int) > (20 : Int))) then some (false) else E4 (0 : Int))
noncomputable def Few8.f (fuel : Nat) (l : List (Int × Int × Int × (Int × Int) × Bool × List (Int × List Int))) : Option Bool := Few8.b l (Few8.l4 fuel l fuel)
theorem Few8.l4_eq (fuel : Nat) (l : List (Int × Int × Int × (Int × Int) × Bool × List (Int × List Int))) : ∀ (k : Nat) (x0 : Int), lp Few8_E fuel Try.f41 [.raw] 0 Few8.k 4 [] k (Few8.s4 l x0) = Few8.l4 fuel l k x0 := by
  intro k
  induction k with
  | zero => intro x0; rfl
  | succ k ih =>
    intro x0
    have h : lp Few8_E fuel Try.f41 [.raw] 0 Few8.k 4 [] (k + 1) (Few8.s4 l x0) = Few8.b4 l (fun x0 => lp Few8_E fuel Try.f41 [.raw] 0 Few8.k 4 [] k (Few8.s4 l x0)) x0 := by kernel_rfl
    rw [h]
    have e4 : (fun x0 => lp Few8_E fuel Try.f41 [.raw] 0 Few8.k 4 [] k (Few8.s4 l x0)) = Few8.l4 fuel l k := (funext fun x0 => ih x0)
    rw [e4]
    rfl
theorem Few8.eq (fuel : Nat) (l : List (Int × Int × Int × (Int × Int) × Bool × List (Int × List Int))) : (denF Few8_E loopN fuel Try.f41 [.raw] [.d (.sl (.pair (.int .i64) (.pair (.int .i64) (.pair (.int .i64) (.pair (.pair (.int .i64) (.int .i64)) (.pair .bool (.sl (.pair (.int .i64) (.sl (.int .u8)))))))))) l] [] Few8.k) = Few8.f fuel l := by
  have h : (denF Few8_E loopN fuel Try.f41 [.raw] [.d (.sl (.pair (.int .i64) (.pair (.int .i64) (.pair (.int .i64) (.pair (.pair (.int .i64) (.int .i64)) (.pair .bool (.sl (.pair (.int .i64) (.sl (.int .u8)))))))))) l] [] Few8.k) = Few8.b l (fun x0 => lp Few8_E fuel Try.f41 [.raw] 0 Few8.k 4 [] fuel (Few8.s4 l x0)) := by kernel_rfl
  rw [h]
  have e4 : (fun x0 => lp Few8_E fuel Try.f41 [.raw] 0 Few8.k 4 [] fuel (Few8.s4 l x0)) = Few8.l4 fuel l fuel := (funext fun x0 => Few8.l4_eq fuel l fuel x0)
  rw [e4]
  rfl


noncomputable def Few10_E : Env := ⟨th, gam [(41, s_few8)], fun i => ⟨[], [], []⟩⟩
noncomputable def Few10.k (rs : List AV) (os : List Den.Obj) : Option Bool :=
  match rs, os with
  | [.d .bool r0], [] => some r0
  | _, _ => none
noncomputable def Few10.b (mkind : Int) (mfrom0 : Int) (minc : Int) (mlo : Int) (mhi : Int) (mseq : Int) (mtarget : Int) (mlife : Int) (mepoch : Int) (mbase : Int) (mrecs : List (Int × Int × Int × (Int × Int) × Bool × List (Int × List Int))) : Option Bool :=
  (if (smallRecs mrecs) then some ((few8 mrecs)) else none)
noncomputable def Few10.f (fuel : Nat) (mkind : Int) (mfrom0 : Int) (minc : Int) (mlo : Int) (mhi : Int) (mseq : Int) (mtarget : Int) (mlife : Int) (mepoch : Int) (mbase : Int) (mrecs : List (Int × Int × Int × (Int × Int) × Bool × List (Int × List Int))) : Option Bool := Few10.b mkind mfrom0 minc mlo mhi mseq mtarget mlife mepoch mbase mrecs
theorem Few10.eq (fuel : Nat) (mkind : Int) (mfrom0 : Int) (minc : Int) (mlo : Int) (mhi : Int) (mseq : Int) (mtarget : Int) (mlife : Int) (mepoch : Int) (mbase : Int) (mrecs : List (Int × Int × Int × (Int × Int) × Bool × List (Int × List Int))) : (denF Few10_E loopN fuel Try.f15 [.raw] [.agg [.d (.int .i64) mkind, .d (.int .i64) mfrom0, .d (.int .i64) minc, .d (.int .i64) mlo, .d (.int .i64) mhi, .d (.int .i64) mseq, .d (.int .i64) mtarget, .d (.int .i64) mlife, .d (.int .i64) mepoch, .d (.int .i64) mbase, .d (.sl (.pair (.int .i64) (.pair (.int .i64) (.pair (.int .i64) (.pair (.pair (.int .i64) (.int .i64)) (.pair .bool (.sl (.pair (.int .i64) (.sl (.int .u8)))))))))) mrecs]] [] Few10.k) = Few10.f fuel mkind mfrom0 minc mlo mhi mseq mtarget mlife mepoch mbase mrecs := by
  kernel_rfl


noncomputable def Fits1_E : Env := ⟨th, gam [(20, s_valid)], fun i => if i = 4 then ⟨[19, 20, 21], [], []⟩ else ⟨[], [], []⟩⟩
noncomputable def Fits1.k (rs : List AV) (os : List Den.Obj) : Option Bool :=
  match rs, os with
  | [.d .bool r0], [] => some r0
  | _, _ => none
noncomputable def Fits1.s4 (mkind : Int) (mfrom0 : Int) (minc : Int) (mlo : Int) (mhi : Int) (mseq : Int) (mtarget : Int) (mlife : Int) (mepoch : Int) (mbase : Int) (mrecs : List (Int × Int × Int × (Int × Int) × Bool × List (Int × List Int))) (x0 : Int) (x1 : Int) : St := ⟨[.dead, .dead, .dead, .dead, .dead, .dead, .dead, .dead, .dead, .dead, .dead, .dead, .dead, .dead, .dead, .dead, .dead, .dead, .dead, .d (.sl (.pair (.int .i64) (.pair (.int .i64) (.pair (.int .i64) (.pair (.pair (.int .i64) (.int .i64)) (.pair .bool (.sl (.pair (.int .i64) (.sl (.int .u8)))))))))) (mrecs), .d (.int .i64) x0, .d (.int .i64) x1, .dead, .dead, .dead, .dead, .dead, .dead, .dead, .dead, .dead, .dead, .dead, .dead, .dead], ofL [], 0⟩
noncomputable def Fits1.b4 (mkind : Int) (mfrom0 : Int) (minc : Int) (mlo : Int) (mhi : Int) (mseq : Int) (mtarget : Int) (mlife : Int) (mepoch : Int) (mbase : Int) (mrecs : List (Int × Int × Int × (Int × Int) × Bool × List (Int × List Int))) (A4 : Int → Int → Option Bool) (x0 : Int) (x1 : Int) : Option Bool :=
  (if (decide (x1 < x0)) then (match (idx mrecs x1) with | none => none | some y2 => (if (decide (y2.2.1 > (65535 : Int))) then some (false) else (if (decide (((((List.length y2.2.2.2.2.2)) : Nat) : Int) > (0 : Int))) then some (false) else A4 x0 (Go.IntKind.wrap .i64 (x1 + (1 : Int)))))) else some (true))
noncomputable def Fits1.l4 (fuel : Nat) (mkind : Int) (mfrom0 : Int) (minc : Int) (mlo : Int) (mhi : Int) (mseq : Int) (mtarget : Int) (mlife : Int) (mepoch : Int) (mbase : Int) (mrecs : List (Int × Int × Int × (Int × Int) × Bool × List (Int × List Int))) : Nat → Int → Int → Option Bool
  | 0, _, _ => none
  | k + 1, x0, x1 => Fits1.b4 mkind mfrom0 minc mlo mhi mseq mtarget mlife mepoch mbase mrecs (Fits1.l4 fuel mkind mfrom0 minc mlo mhi mseq mtarget mlife mepoch mbase mrecs k) x0 x1
noncomputable def Fits1.b (mkind : Int) (mfrom0 : Int) (minc : Int) (mlo : Int) (mhi : Int) (mseq : Int) (mtarget : Int) (mlife : Int) (mepoch : Int) (mbase : Int) (mrecs : List (Int × Int × Int × (Int × Int) × Bool × List (Int × List Int))) (E4 : Int → Int → Option Bool) : Option Bool :=
  (if (smallRecs (mfrom0, (minc, ((mlo, mhi), (mseq, (mtarget, (mlife, (mepoch, (mbase, mrecs)))))))).2.2.2.2.2.2.2.2) then (if (!(validF mkind (mfrom0, (minc, ((mlo, mhi), (mseq, (mtarget, (mlife, (mepoch, (mbase, mrecs)))))))).1 (mfrom0, (minc, ((mlo, mhi), (mseq, (mtarget, (mlife, (mepoch, (mbase, mrecs)))))))).2.1 (mfrom0, (minc, ((mlo, mhi), (mseq, (mtarget, (mlife, (mepoch, (mbase, mrecs)))))))).2.2.1.1 (mfrom0, (minc, ((mlo, mhi), (mseq, (mtarget, (mlife, (mepoch, (mbase, mrecs)))))))).2.2.1.2 (mfrom0, (minc, ((mlo, mhi), (mseq, (mtarget, (mlife, (mepoch, (mbase, mrecs)))))))).2.2.2.1 (mfrom0, (minc, ((mlo, mhi), (mseq, (mtarget, (mlife, (mepoch, (mbase, mrecs)))))))).2.2.2.2.1 (mfrom0, (minc, ((mlo, mhi), (mseq, (mtarget, (mlife, (mepoch, (mbase, mrecs)))))))).2.2.2.2.2.1 (mfrom0, (minc, ((mlo, mhi), (mseq, (mtarget, (mlife, (mepoch, (mbase, mrecs)))))))).2.2.2.2.2.2.1 (mfrom0, (minc, ((mlo, mhi), (mseq, (mtarget, (mlife, (mepoch, (mbase, mrecs)))))))).2.2.2.2.2.2.2.1 (mfrom0, (minc, ((mlo, mhi), (mseq, (mtarget, (mlife, (mepoch, (mbase, mrecs)))))))).2.2.2.2.2.2.2.2)) then some (false) else (if (mkind == (9 : Int)) then some (false) else (if (mepoch != (0 : Int)) then some (false) else E4 ((((List.length mrecs)) : Nat) : Int) (0 : Int)))) else none)
noncomputable def Fits1.f (fuel : Nat) (mkind : Int) (mfrom0 : Int) (minc : Int) (mlo : Int) (mhi : Int) (mseq : Int) (mtarget : Int) (mlife : Int) (mepoch : Int) (mbase : Int) (mrecs : List (Int × Int × Int × (Int × Int) × Bool × List (Int × List Int))) : Option Bool := Fits1.b mkind mfrom0 minc mlo mhi mseq mtarget mlife mepoch mbase mrecs (Fits1.l4 fuel mkind mfrom0 minc mlo mhi mseq mtarget mlife mepoch mbase mrecs fuel)
theorem Fits1.l4_eq (fuel : Nat) (mkind : Int) (mfrom0 : Int) (minc : Int) (mlo : Int) (mhi : Int) (mseq : Int) (mtarget : Int) (mlife : Int) (mepoch : Int) (mbase : Int) (mrecs : List (Int × Int × Int × (Int × Int) × Bool × List (Int × List Int))) : ∀ (k : Nat) (x0 : Int) (x1 : Int), lp Fits1_E fuel Try.f18 [.raw] 0 Fits1.k 4 [] k (Fits1.s4 mkind mfrom0 minc mlo mhi mseq mtarget mlife mepoch mbase mrecs x0 x1) = Fits1.l4 fuel mkind mfrom0 minc mlo mhi mseq mtarget mlife mepoch mbase mrecs k x0 x1 := by
  intro k
  induction k with
  | zero => intro x0 x1; rfl
  | succ k ih =>
    intro x0 x1
    have h : lp Fits1_E fuel Try.f18 [.raw] 0 Fits1.k 4 [] (k + 1) (Fits1.s4 mkind mfrom0 minc mlo mhi mseq mtarget mlife mepoch mbase mrecs x0 x1) = Fits1.b4 mkind mfrom0 minc mlo mhi mseq mtarget mlife mepoch mbase mrecs (fun x0 x1 => lp Fits1_E fuel Try.f18 [.raw] 0 Fits1.k 4 [] k (Fits1.s4 mkind mfrom0 minc mlo mhi mseq mtarget mlife mepoch mbase mrecs x0 x1)) x0 x1 := by kernel_rfl
    rw [h]
    have e4 : (fun x0 x1 => lp Fits1_E fuel Try.f18 [.raw] 0 Fits1.k 4 [] k (Fits1.s4 mkind mfrom0 minc mlo mhi mseq mtarget mlife mepoch mbase mrecs x0 x1)) = Fits1.l4 fuel mkind mfrom0 minc mlo mhi mseq mtarget mlife mepoch mbase mrecs k := (funext fun x0 => (funext fun x1 => ih x0 x1))
    rw [e4]
    rfl
theorem Fits1.eq (fuel : Nat) (mkind : Int) (mfrom0 : Int) (minc : Int) (mlo : Int) (mhi : Int) (mseq : Int) (mtarget : Int) (mlife : Int) (mepoch : Int) (mbase : Int) (mrecs : List (Int × Int × Int × (Int × Int) × Bool × List (Int × List Int))) : (denF Fits1_E loopN fuel Try.f18 [.raw] [.agg [.d (.int .i64) mkind, .d (.int .i64) mfrom0, .d (.int .i64) minc, .d (.int .i64) mlo, .d (.int .i64) mhi, .d (.int .i64) mseq, .d (.int .i64) mtarget, .d (.int .i64) mlife, .d (.int .i64) mepoch, .d (.int .i64) mbase, .d (.sl (.pair (.int .i64) (.pair (.int .i64) (.pair (.int .i64) (.pair (.pair (.int .i64) (.int .i64)) (.pair .bool (.sl (.pair (.int .i64) (.sl (.int .u8)))))))))) mrecs]] [] Fits1.k) = Fits1.f fuel mkind mfrom0 minc mlo mhi mseq mtarget mlife mepoch mbase mrecs := by
  have h : (denF Fits1_E loopN fuel Try.f18 [.raw] [.agg [.d (.int .i64) mkind, .d (.int .i64) mfrom0, .d (.int .i64) minc, .d (.int .i64) mlo, .d (.int .i64) mhi, .d (.int .i64) mseq, .d (.int .i64) mtarget, .d (.int .i64) mlife, .d (.int .i64) mepoch, .d (.int .i64) mbase, .d (.sl (.pair (.int .i64) (.pair (.int .i64) (.pair (.int .i64) (.pair (.pair (.int .i64) (.int .i64)) (.pair .bool (.sl (.pair (.int .i64) (.sl (.int .u8)))))))))) mrecs]] [] Fits1.k) = Fits1.b mkind mfrom0 minc mlo mhi mseq mtarget mlife mepoch mbase mrecs (fun x0 x1 => lp Fits1_E fuel Try.f18 [.raw] 0 Fits1.k 4 [] fuel (Fits1.s4 mkind mfrom0 minc mlo mhi mseq mtarget mlife mepoch mbase mrecs x0 x1)) := by kernel_rfl
  rw [h]
  have e4 : (fun x0 x1 => lp Fits1_E fuel Try.f18 [.raw] 0 Fits1.k 4 [] fuel (Fits1.s4 mkind mfrom0 minc mlo mhi mseq mtarget mlife mepoch mbase mrecs x0 x1)) = Fits1.l4 fuel mkind mfrom0 minc mlo mhi mseq mtarget mlife mepoch mbase mrecs fuel := (funext fun x0 => (funext fun x1 => Fits1.l4_eq fuel mkind mfrom0 minc mlo mhi mseq mtarget mlife mepoch mbase mrecs fuel x0 x1))
  rw [e4]
  rfl


noncomputable def FitsL_E : Env := ⟨th, gam [(20, s_valid)], fun i => if i = 4 then ⟨[1, 3], [], []⟩ else ⟨[], [], []⟩⟩
noncomputable def FitsL.k (rs : List AV) (os : List Den.Obj) : Option Bool :=
  match rs, os with
  | [.d .bool r0], [] => some r0
  | _, _ => none
noncomputable def FitsL.s4 (mkind : Int) (mfrom0 : Int) (minc : Int) (mlo : Int) (mhi : Int) (mseq : Int) (mtarget : Int) (mlife : Int) (mepoch : Int) (mbase : Int) (mrecs : List (Int × Int × Int × (Int × Int) × Bool × List (Int × List Int))) (x0 : Int) : St := ⟨[.dead, .ptr 64 0, .dead, .d (.int .i64) x0, .dead, .dead, .dead, .dead, .dead, .dead, .dead, .dead, .dead, .dead, .dead, .dead, .dead, .dead, .dead, .dead, .dead, .dead, .dead, .dead, .dead, .dead, .dead, .dead, .dead, .dead, .dead, .dead, .dead, .dead, .dead, .dead, .dead, .dead, .dead, .dead, .dead, .dead, .dead, .dead, .dead, .dead, .dead, .dead, .dead, .dead, .dead], ofL [(64, .box [.d (.int .i64) (mkind), .d (.int .i64) (mfrom0), .d (.int .i64) (minc), .d (.int .i64) (mlo), .d (.int .i64) (mhi), .d (.int .i64) (mseq), .d (.int .i64) (mtarget), .d (.int .i64) (mlife), .d (.int .i64) (mepoch), .d (.int .i64) (mbase), .d (.sl (.pair (.int .i64) (.pair (.int .i64) (.pair (.int .i64) (.pair (.pair (.int .i64) (.int .i64)) (.pair .bool (.sl (.pair (.int .i64) (.sl (.int .u8)))))))))) (mrecs)])], 0⟩
noncomputable def FitsL.b4 (mkind : Int) (mfrom0 : Int) (minc : Int) (mlo : Int) (mhi : Int) (mseq : Int) (mtarget : Int) (mlife : Int) (mepoch : Int) (mbase : Int) (mrecs : List (Int × Int × Int × (Int × Int) × Bool × List (Int × List Int))) (A4 : Int → Option Bool) (x0 : Int) : Option Bool :=
  (if (decide (x0 < ((((List.length mrecs)) : Nat) : Int))) then (match (idx mrecs x0) with | none => none | some y1 => (if (decide (y1.2.1 > (65535 : Int))) then some (false) else (match (idx mrecs x0) with | none => none | some y2 => (if (decide (((((List.length y2.2.2.2.2.2)) : Nat) : Int) > (0 : Int))) then some (false) else A4 (Go.IntKind.wrap .i64 (x0 + (1 : Int))))))) else some (true))
noncomputable def FitsL.l4 (fuel : Nat) (mkind : Int) (mfrom0 : Int) (minc : Int) (mlo : Int) (mhi : Int) (mseq : Int) (mtarget : Int) (mlife : Int) (mepoch : Int) (mbase : Int) (mrecs : List (Int × Int × Int × (Int × Int) × Bool × List (Int × List Int))) : Nat → Int → Option Bool
  | 0, _ => none
  | k + 1, x0 => FitsL.b4 mkind mfrom0 minc mlo mhi mseq mtarget mlife mepoch mbase mrecs (FitsL.l4 fuel mkind mfrom0 minc mlo mhi mseq mtarget mlife mepoch mbase mrecs k) x0
noncomputable def FitsL.b (mkind : Int) (mfrom0 : Int) (minc : Int) (mlo : Int) (mhi : Int) (mseq : Int) (mtarget : Int) (mlife : Int) (mepoch : Int) (mbase : Int) (mrecs : List (Int × Int × Int × (Int × Int) × Bool × List (Int × List Int))) (E4 : Int → Option Bool) : Option Bool :=
  (if (smallRecs (mfrom0, (minc, ((mlo, mhi), (mseq, (mtarget, (mlife, (mepoch, (mbase, mrecs)))))))).2.2.2.2.2.2.2.2) then (if (!(validF mkind (mfrom0, (minc, ((mlo, mhi), (mseq, (mtarget, (mlife, (mepoch, (mbase, mrecs)))))))).1 (mfrom0, (minc, ((mlo, mhi), (mseq, (mtarget, (mlife, (mepoch, (mbase, mrecs)))))))).2.1 (mfrom0, (minc, ((mlo, mhi), (mseq, (mtarget, (mlife, (mepoch, (mbase, mrecs)))))))).2.2.1.1 (mfrom0, (minc, ((mlo, mhi), (mseq, (mtarget, (mlife, (mepoch, (mbase, mrecs)))))))).2.2.1.2 (mfrom0, (minc, ((mlo, mhi), (mseq, (mtarget, (mlife, (mepoch, (mbase, mrecs)))))))).2.2.2.1 (mfrom0, (minc, ((mlo, mhi), (mseq, (mtarget, (mlife, (mepoch, (mbase, mrecs)))))))).2.2.2.2.1 (mfrom0, (minc, ((mlo, mhi), (mseq, (mtarget, (mlife, (mepoch, (mbase, mrecs)))))))).2.2.2.2.2.1 (mfrom0, (minc, ((mlo, mhi), (mseq, (mtarget, (mlife, (mepoch, (mbase, mrecs)))))))).2.2.2.2.2.2.1 (mfrom0, (minc, ((mlo, mhi), (mseq, (mtarget, (mlife, (mepoch, (mbase, mrecs)))))))).2.2.2.2.2.2.2.1 (mfrom0, (minc, ((mlo, mhi), (mseq, (mtarget, (mlife, (mepoch, (mbase, mrecs)))))))).2.2.2.2.2.2.2.2)) then some (false) else (if (mkind == (9 : Int)) then some (false) else (if (mlife != (0 : Int)) then some (false) else (if (mepoch != (0 : Int)) then some (false) else (if (mbase != (0 : Int)) then some (false) else E4 (0 : Int)))))) else none)
noncomputable def FitsL.f (fuel : Nat) (mkind : Int) (mfrom0 : Int) (minc : Int) (mlo : Int) (mhi : Int) (mseq : Int) (mtarget : Int) (mlife : Int) (mepoch : Int) (mbase : Int) (mrecs : List (Int × Int × Int × (Int × Int) × Bool × List (Int × List Int))) : Option Bool := FitsL.b mkind mfrom0 minc mlo mhi mseq mtarget mlife mepoch mbase mrecs (FitsL.l4 fuel mkind mfrom0 minc mlo mhi mseq mtarget mlife mepoch mbase mrecs fuel)
theorem FitsL.l4_eq (fuel : Nat) (mkind : Int) (mfrom0 : Int) (minc : Int) (mlo : Int) (mhi : Int) (mseq : Int) (mtarget : Int) (mlife : Int) (mepoch : Int) (mbase : Int) (mrecs : List (Int × Int × Int × (Int × Int) × Bool × List (Int × List Int))) : ∀ (k : Nat) (x0 : Int), lp FitsL_E fuel Try.f19 [.raw] 0 FitsL.k 4 [] k (FitsL.s4 mkind mfrom0 minc mlo mhi mseq mtarget mlife mepoch mbase mrecs x0) = FitsL.l4 fuel mkind mfrom0 minc mlo mhi mseq mtarget mlife mepoch mbase mrecs k x0 := by
  intro k
  induction k with
  | zero => intro x0; rfl
  | succ k ih =>
    intro x0
    have h : lp FitsL_E fuel Try.f19 [.raw] 0 FitsL.k 4 [] (k + 1) (FitsL.s4 mkind mfrom0 minc mlo mhi mseq mtarget mlife mepoch mbase mrecs x0) = FitsL.b4 mkind mfrom0 minc mlo mhi mseq mtarget mlife mepoch mbase mrecs (fun x0 => lp FitsL_E fuel Try.f19 [.raw] 0 FitsL.k 4 [] k (FitsL.s4 mkind mfrom0 minc mlo mhi mseq mtarget mlife mepoch mbase mrecs x0)) x0 := by kernel_rfl
    rw [h]
    have e4 : (fun x0 => lp FitsL_E fuel Try.f19 [.raw] 0 FitsL.k 4 [] k (FitsL.s4 mkind mfrom0 minc mlo mhi mseq mtarget mlife mepoch mbase mrecs x0)) = FitsL.l4 fuel mkind mfrom0 minc mlo mhi mseq mtarget mlife mepoch mbase mrecs k := (funext fun x0 => ih x0)
    rw [e4]
    rfl
theorem FitsL.eq (fuel : Nat) (mkind : Int) (mfrom0 : Int) (minc : Int) (mlo : Int) (mhi : Int) (mseq : Int) (mtarget : Int) (mlife : Int) (mepoch : Int) (mbase : Int) (mrecs : List (Int × Int × Int × (Int × Int) × Bool × List (Int × List Int))) : (denF FitsL_E loopN fuel Try.f19 [.raw] [.agg [.d (.int .i64) mkind, .d (.int .i64) mfrom0, .d (.int .i64) minc, .d (.int .i64) mlo, .d (.int .i64) mhi, .d (.int .i64) mseq, .d (.int .i64) mtarget, .d (.int .i64) mlife, .d (.int .i64) mepoch, .d (.int .i64) mbase, .d (.sl (.pair (.int .i64) (.pair (.int .i64) (.pair (.int .i64) (.pair (.pair (.int .i64) (.int .i64)) (.pair .bool (.sl (.pair (.int .i64) (.sl (.int .u8)))))))))) mrecs]] [] FitsL.k) = FitsL.f fuel mkind mfrom0 minc mlo mhi mseq mtarget mlife mepoch mbase mrecs := by
  have h : (denF FitsL_E loopN fuel Try.f19 [.raw] [.agg [.d (.int .i64) mkind, .d (.int .i64) mfrom0, .d (.int .i64) minc, .d (.int .i64) mlo, .d (.int .i64) mhi, .d (.int .i64) mseq, .d (.int .i64) mtarget, .d (.int .i64) mlife, .d (.int .i64) mepoch, .d (.int .i64) mbase, .d (.sl (.pair (.int .i64) (.pair (.int .i64) (.pair (.int .i64) (.pair (.pair (.int .i64) (.int .i64)) (.pair .bool (.sl (.pair (.int .i64) (.sl (.int .u8)))))))))) mrecs]] [] FitsL.k) = FitsL.b mkind mfrom0 minc mlo mhi mseq mtarget mlife mepoch mbase mrecs (fun x0 => lp FitsL_E fuel Try.f19 [.raw] 0 FitsL.k 4 [] fuel (FitsL.s4 mkind mfrom0 minc mlo mhi mseq mtarget mlife mepoch mbase mrecs x0)) := by kernel_rfl
  rw [h]
  have e4 : (fun x0 => lp FitsL_E fuel Try.f19 [.raw] 0 FitsL.k 4 [] fuel (FitsL.s4 mkind mfrom0 minc mlo mhi mseq mtarget mlife mepoch mbase mrecs x0)) = FitsL.l4 fuel mkind mfrom0 minc mlo mhi mseq mtarget mlife mepoch mbase mrecs fuel := (funext fun x0 => FitsL.l4_eq fuel mkind mfrom0 minc mlo mhi mseq mtarget mlife mepoch mbase mrecs fuel x0)
  rw [e4]
  rfl


noncomputable def State_E : Env := ⟨th, gam [], fun i => ⟨[], [], []⟩⟩
noncomputable def State.k (rs : List AV) (os : List Den.Obj) : Option Int :=
  match rs, os with
  | [.d (.int .i64) r0], [] => some r0
  | _, _ => none
noncomputable def State.b (rid : Int) (rinc : Int) (rst : Int) (rlo : Int) (rhi : Int) (rcut : Bool) (rbag : List (Int × List Int)) : Option Int :=
  (if rcut then some ((bits Go.BinOp.or .i64 (bits Go.BinOp.or .i64 (bits Go.BinOp.or .i64 rst (Go.IntKind.wrap .i64 (rlo * ((2 : Int) ^ (Min.min (Int.toNat (2 : Int)) (Go.IntKind.bits .i64)))))) (Go.IntKind.wrap .i64 (rhi * ((2 : Int) ^ (Min.min (Int.toNat (4 : Int)) (Go.IntKind.bits .i64)))))) (64 : Int))) else some ((bits Go.BinOp.or .i64 (bits Go.BinOp.or .i64 rst (Go.IntKind.wrap .i64 (rlo * ((2 : Int) ^ (Min.min (Int.toNat (2 : Int)) (Go.IntKind.bits .i64)))))) (Go.IntKind.wrap .i64 (rhi * ((2 : Int) ^ (Min.min (Int.toNat (4 : Int)) (Go.IntKind.bits .i64))))))))
noncomputable def State.f (fuel : Nat) (rid : Int) (rinc : Int) (rst : Int) (rlo : Int) (rhi : Int) (rcut : Bool) (rbag : List (Int × List Int)) : Option Int := State.b rid rinc rst rlo rhi rcut rbag
theorem State.eq (fuel : Nat) (rid : Int) (rinc : Int) (rst : Int) (rlo : Int) (rhi : Int) (rcut : Bool) (rbag : List (Int × List Int)) : (denF State_E loopN fuel Try.f45 [.raw] [.agg [.d (.int .i64) rid, .d (.int .i64) rinc, .d (.int .i64) rst, .d (.int .i64) rlo, .d (.int .i64) rhi, .d .bool rcut, .d (.sl (.pair (.int .i64) (.sl (.int .u8)))) rbag]] [] State.k) = State.f fuel rid rinc rst rlo rhi rcut rbag := by
  kernel_rfl


end Go.Proofs.Ytlmljpmohljefaa
