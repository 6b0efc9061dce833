/- printed by denfn.py -/
import Derived.Test.YtlmljpmohljefaaTh
import Derived.Test.YtlmljpmohljefaaK0
set_option linter.unusedVariables false
namespace Go.Proofs.Ytlmljpmohljefaa
open Go.Den
noncomputable def okS (lo hi : Int) : Bool := decide (1 ≤ lo) && decide (lo ≤ hi) && decide (hi ≤ 3)
noncomputable def codeF (a b : Int) : Int := if !okS a b then 0 else Den.bits .or .i64 (Go.IntKind.wrap .i64 (a * 16)) b
noncomputable def tableL : List (ByteArray × Int) := [(⟨#[]⟩, 0), (⟨#[104, 101, 108, 108, 111]⟩, 1), (⟨#[119, 101, 108, 99, 111, 109, 101]⟩, 1), (⟨#[114, 101, 106, 101, 99, 116]⟩, 2), (⟨#[112, 105, 110, 103]⟩, 17), (⟨#[97, 99, 107]⟩, 17), (⟨#[97, 115, 107]⟩, 19), (⟨#[112, 117, 115, 104]⟩, 28), (⟨#[112, 117, 108, 108]⟩, 20), (⟨#[114, 101, 115, 101, 116]⟩, 4)]
noncomputable def ofF (k : Int) : ByteArray × Int := if decide (k < 1) || decide (k > 9) then (⟨#[]⟩, 0) else tableL.getD k.toNat (⟨#[]⟩, 0)
noncomputable def withinF (had : Bool) (v lo hi : Int) : Bool := if !had then v == 0 else (decide (v ≥ lo) && decide (v ≤ hi))
noncomputable def bagGo : List (Int × List Int) → Int → Int → Bool
  | [], _, _ => true
  | x :: l, last, size => if decide (x.1 < last) || decide (x.1 > 255) then false else if decide (size + (x.2.length : Int) > 4096) then false else bagGo l x.1 (size + (x.2.length : Int))
noncomputable def bagOk (b : List (Int × List Int)) : Bool := if decide ((b.length : Int) > 32) then false else bagGo b 32 0
noncomputable def recOk (id inc st lo hi : Int) (cut : Bool) (bag : List (Int × List Int)) : Bool :=
  if decide (id < 0) || decide (id > 4095) then false else if decide (inc < 0) || decide (inc > 281474976710655) then false else if decide (st < 0) || decide (st > 3) then false else
  if !okS lo hi || !bagOk bag then false else if cut && decide ((bag.length : Int) > 0) then false else true
noncomputable def smallBag (b : List (Int × List Int)) : Bool := decide (b.length < 281474976710656) && b.all fun x => decide (x.2.length < 281474976710656)
noncomputable def s_sv : Den.Sum := ⟨[.dat (.pair (.int .i64) (.int .i64)) true], fun args objs κ => match args, objs with
  | [.agg [.d (.int .i64) lo, .d (.int .i64) hi]], [] => κ [.d .bool (okS lo hi)] []
  | _, _ => none⟩
noncomputable def s_code : Den.Sum := ⟨[.dat (.pair (.int .i64) (.int .i64)) true], fun args objs κ => match args, objs with
  | [.agg [.d (.int .i64) a, .d (.int .i64) b]], [] => κ [.d (.int .i64) (codeF a b)] []
  | _, _ => none⟩
noncomputable def s_table : Den.Sum := ⟨[], fun args objs κ => match args, objs with
  | [], [] => κ [.d (.arr 10 (.pair .str (.int .u8))) tableL] []
  | _, _ => none⟩
noncomputable def s_of : Den.Sum := ⟨[.raw], fun args objs κ => match args, objs with
  | [.d (.int .i64) k], [] => κ [.agg [.d .str (ofF k).1, .d (.int .u8) (ofF k).2]] []
  | _, _ => none⟩
noncomputable def s_within : Den.Sum := ⟨[.raw, .raw, .raw, .raw], fun args objs κ => match args, objs with
  | [.d .bool had, .d (.int .i64) v, .d (.int .i64) lo, .d (.int .i64) hi], [] => κ [.d .bool (withinF had v lo hi)] []
  | _, _ => none⟩
noncomputable def s_bagv : Den.Sum := ⟨[.dat (.sl (.pair (.int .i64) (.sl (.int .u8)))) false], fun args objs κ => match args, objs with
  | [.d (.sl (.pair (.int .i64) (.sl (.int .u8)))) b], [] => if smallBag b = true then κ [.d .bool (bagOk b)] [] else none
  | _, _ => none⟩
noncomputable def s_recv : Den.Sum := ⟨[.dat (.pair (.int .i64) (.pair (.int .i64) (.pair (.int .i64) (.pair (.pair (.int .i64) (.int .i64)) (.pair .bool (.sl (.pair (.int .i64) (.sl (.int .u8))))))))) true], fun args objs κ => match args, objs with
  | [.agg [.d (.int .i64) rid, .d (.int .i64) rinc, .d (.int .i64) rst, .d (.int .i64) rlo, .d (.int .i64) rhi, .d .bool rcut, .d (.sl (.pair (.int .i64) (.sl (.int .u8)))) rbag]], [] => if smallBag rbag = true then κ [.d .bool (recOk rid rinc rst rlo rhi rcut rbag)] [] else none
  | _, _ => none⟩
noncomputable def SpanValid_E : Env := ⟨th, gam [], fun i => ⟨[], [], []⟩⟩
noncomputable def SpanValid.k (rs : List AV) (os : List Den.Obj) : Option Bool :=
  match rs, os with
  | [.d .bool r0], [] => some r0
  | _, _ => none
noncomputable def SpanValid.b (lo : Int) (hi : Int) : Option Bool :=
  (if (decide (lo ≥ (1 : Int))) then (if (decide (lo ≤ hi)) then some ((decide (hi ≤ (3 : Int)))) else some (false)) else some (false))
noncomputable def SpanValid.f (fuel : Nat) (lo : Int) (hi : Int) : Option Bool := SpanValid.b lo hi
theorem SpanValid.eq (fuel : Nat) (lo : Int) (hi : Int) : (denF SpanValid_E loopN fuel Try.f48 [.raw] [.agg [.d (.int .i64) lo, .d (.int .i64) hi]] [] SpanValid.k) = SpanValid.f fuel lo hi := by
  kernel_rfl


noncomputable def SpanCode_E : Env := ⟨th, gam [(48, s_sv)], fun i => ⟨[], [], []⟩⟩
noncomputable def SpanCode.k (rs : List AV) (os : List Den.Obj) : Option Int :=
  match rs, os with
  | [.d (.int .i64) r0], [] => some r0
  | _, _ => none
noncomputable def SpanCode.b (a : Int) (b : Int) : Option Int :=
  (if (!(okS a b)) then some ((0 : Int)) else some ((bits Go.BinOp.or .i64 (Go.IntKind.wrap .i64 (a * ((2 : Int) ^ (Min.min (Int.toNat (4 : Int)) (Go.IntKind.bits .i64))))) b)))
noncomputable def SpanCode.f (fuel : Nat) (a : Int) (b : Int) : Option Int := SpanCode.b a b
theorem SpanCode.eq (fuel : Nat) (a : Int) (b : Int) : (denF SpanCode_E loopN fuel Try.f44 [.raw] [.agg [.d (.int .i64) a, .d (.int .i64) b]] [] SpanCode.k) = SpanCode.f fuel a b := by
  kernel_rfl


noncomputable def MsgTable_E : Env := ⟨th, gam [], fun i => ⟨[], [], []⟩⟩
noncomputable def MsgTable.k (rs : List AV) (os : List Den.Obj) : Option (List (ByteArray × Int)) :=
  match rs, os with
  | [.d (.arr 10 (.pair .str (.int .u8))) r0], [] => some r0
  | _, _ => none
noncomputable def MsgTable.b (u : Unit) : Option (List (ByteArray × Int)) :=
  some ((((⟨([]).toArray⟩ : ByteArray), 0) :: (((⟨((104 :: (101 :: (108 :: (108 :: (111 :: [])))))).toArray⟩ : ByteArray), (1 : Int)) :: (((⟨((119 :: (101 :: (108 :: (99 :: (111 :: (109 :: (101 :: [])))))))).toArray⟩ : ByteArray), (1 : Int)) :: (((⟨((114 :: (101 :: (106 :: (101 :: (99 :: (116 :: []))))))).toArray⟩ : ByteArray), (2 : Int)) :: (((⟨((112 :: (105 :: (110 :: (103 :: []))))).toArray⟩ : ByteArray), (17 : Int)) :: (((⟨((97 :: (99 :: (107 :: [])))).toArray⟩ : ByteArray), (17 : Int)) :: (((⟨((97 :: (115 :: (107 :: [])))).toArray⟩ : ByteArray), (19 : Int)) :: (((⟨((112 :: (117 :: (115 :: (104 :: []))))).toArray⟩ : ByteArray), (28 : Int)) :: (((⟨((112 :: (117 :: (108 :: (108 :: []))))).toArray⟩ : ByteArray), (20 : Int)) :: (((⟨((114 :: (101 :: (115 :: (101 :: (116 :: [])))))).toArray⟩ : ByteArray), (4 : Int)) :: [])))))))))))
noncomputable def MsgTable.f (fuel : Nat) (u : Unit) : Option (List (ByteArray × Int)) := MsgTable.b u
theorem MsgTable.eq (fuel : Nat) (u : Unit) : (denF MsgTable_E loopN fuel Try.f83 [.raw] [] [] MsgTable.k) = MsgTable.f fuel u := by
  kernel_rfl


noncomputable def MsgOf_E : Env := ⟨th, gam [(83, s_table)], fun i => ⟨[], [], []⟩⟩
noncomputable def MsgOf.k (rs : List AV) (os : List Den.Obj) : Option (ByteArray × Int) :=
  match rs, os with
  | [.agg [.d .str r0, .d (.int .u8) r1]], [] => some (r0, r1)
  | _, _ => none
noncomputable def MsgOf.b (k : Int) : Option (ByteArray × Int) :=
  (if (decide (k < (1 : Int))) then some ((⟨([]).toArray⟩ : ByteArray), 0) else (if (decide (k > (9 : Int))) then some ((⟨([]).toArray⟩ : ByteArray), 0) else (match (idx tableL k) with | none => none | some y0 => some (y0.1, y0.2))))
noncomputable def MsgOf.f (fuel : Nat) (k : Int) : Option (ByteArray × Int) := MsgOf.b k
theorem MsgOf.eq (fuel : Nat) (k : Int) : (denF MsgOf_E loopN fuel Try.f47 [.dat (.pair .str (.int .u8)) true] [.d (.int .i64) k] [] MsgOf.k) = MsgOf.f fuel k := by
  kernel_rfl


noncomputable def MsgWithin_E : Env := ⟨th, gam [], fun i => ⟨[], [], []⟩⟩
noncomputable def MsgWithin.k (rs : List AV) (os : List Den.Obj) : Option Bool :=
  match rs, os with
  | [.d .bool r0], [] => some r0
  | _, _ => none
noncomputable def MsgWithin.b (had : Bool) (v : Int) (lo : Int) (hi : Int) : Option Bool :=
  (if (!had) then some ((v == (0 : Int))) else (if (decide (v ≥ lo)) then some ((decide (v ≤ hi))) else some (false)))
noncomputable def MsgWithin.f (fuel : Nat) (had : Bool) (v : Int) (lo : Int) (hi : Int) : Option Bool := MsgWithin.b had v lo hi
theorem MsgWithin.eq (fuel : Nat) (had : Bool) (v : Int) (lo : Int) (hi : Int) : (denF MsgWithin_E loopN fuel Try.f49 [.raw] [.d .bool had, .d (.int .i64) v, .d (.int .i64) lo, .d (.int .i64) hi] [] MsgWithin.k) = MsgWithin.f fuel had v lo hi := by
  kernel_rfl


noncomputable def BagValid_E : Env := ⟨th, gam [], fun i => if i = 5 then ⟨[3, 4, 10, 11, 12], [], []⟩ else ⟨[], [], []⟩⟩
noncomputable def BagValid.k (rs : List AV) (os : List Den.Obj) : Option Bool :=
  match rs, os with
  | [.d .bool r0], [] => some r0
  | _, _ => none
noncomputable def BagValid.s5 (b : List (Int × List Int)) (x0 : Int) (x1 : Int) (x2 : Int) (x3 : Int) : St := ⟨[.dead, .dead, .dead, .d (.int .i64) x0, .d (.int .i64) x1, .dead, .dead, .dead, .dead, .dead, .d (.sl (.pair (.int .i64) (.sl (.int .u8)))) (b), .d (.int .i64) x2, .d (.int .i64) x3, .dead, .dead, .dead, .dead, .dead, .dead, .dead, .dead, .dead, .dead, .dead, .dead, .dead, .dead, .dead, .dead, .dead, .dead, .dead, .dead, .dead, .dead], ofL [], 0⟩
noncomputable def BagValid.b5 (b : List (Int × List Int)) (A5 : Int → Int → Int → Int → Option Bool) (x0 : Int) (x1 : Int) (x2 : Int) (x3 : Int) : Option Bool :=
  (if (decide (x3 < x2)) then (match (idx b x3) with | none => none | some y4 => (if (decide (y4.1 < x0)) then some (false) else (if (decide (y4.1 > (255 : Int))) then some (false) else (if (decide ((Go.IntKind.wrap .i64 (x1 + ((((List.length y4.2)) : Nat) : Int))) > (4096 : Int))) then some (false) else A5 y4.1 (Go.IntKind.wrap .i64 (x1 + ((((List.length y4.2)) : Nat) : Int))) x2 (Go.IntKind.wrap .i64 (x3 + (1 : Int))))))) else some (true))
noncomputable def BagValid.l5 (fuel : Nat) (b : List (Int × List Int)) : Nat → Int → Int → Int → Int → Option Bool
  | 0, _, _, _, _ => none
  | k + 1, x0, x1, x2, x3 => BagValid.b5 b (BagValid.l5 fuel b k) x0 x1 x2 x3
noncomputable def BagValid.b (b : List (Int × List Int)) (E5 : Int → Int → Int → Int → Option Bool) : Option Bool :=
  (if (decide (((((List.length b)) : Nat) : Int) > (32 : Int))) then some (false) else E5 (32 : Int) (0 : Int) ((((List.length b)) : Nat) : Int) (0 : Int))
noncomputable def BagValid.f (fuel : Nat) (b : List (Int × List Int)) : Option Bool := BagValid.b b (BagValid.l5 fuel b fuel)
theorem BagValid.l5_eq (fuel : Nat) (b : List (Int × List Int)) : ∀ (k : Nat) (x0 : Int) (x1 : Int) (x2 : Int) (x3 : Int), lp BagValid_E fuel Try.f95 [.raw] 0 BagValid.k 5 [] k (BagValid.s5 b x0 x1 x2 x3) = BagValid.l5 fuel b k x0 x1 x2 x3 := by
  intro k
  induction k with
  | zero => intro x0 x1 x2 x3; rfl
  | succ k ih =>
    intro x0 x1 x2 x3
    have h : lp BagValid_E fuel Try.f95 [.raw] 0 BagValid.k 5 [] (k + 1) (BagValid.s5 b x0 x1 x2 x3) = BagValid.b5 b (fun x0 x1 x2 x3 => lp BagValid_E fuel Try.f95 [.raw] 0 BagValid.k 5 [] k (BagValid.s5 b x0 x1 x2 x3)) x0 x1 x2 x3 := by kernel_rfl
    rw [h]
    have e5 : (fun x0 x1 x2 x3 => lp BagValid_E fuel Try.f95 [.raw] 0 BagValid.k 5 [] k (BagValid.s5 b x0 x1 x2 x3)) = BagValid.l5 fuel b k := (funext fun x0 => (funext fun x1 => (funext fun x2 => (funext fun x3 => ih x0 x1 x2 x3))))
    rw [e5]
    rfl
theorem BagValid.eq (fuel : Nat) (b : List (Int × List Int)) : (denF BagValid_E loopN fuel Try.f95 [.raw] [.d (.sl (.pair (.int .i64) (.sl (.int .u8)))) b] [] BagValid.k) = BagValid.f fuel b := by
  have h : (denF BagValid_E loopN fuel Try.f95 [.raw] [.d (.sl (.pair (.int .i64) (.sl (.int .u8)))) b] [] BagValid.k) = BagValid.b b (fun x0 x1 x2 x3 => lp BagValid_E fuel Try.f95 [.raw] 0 BagValid.k 5 [] fuel (BagValid.s5 b x0 x1 x2 x3)) := by kernel_rfl
  rw [h]
  have e5 : (fun x0 x1 x2 x3 => lp BagValid_E fuel Try.f95 [.raw] 0 BagValid.k 5 [] fuel (BagValid.s5 b x0 x1 x2 x3)) = BagValid.l5 fuel b fuel := (funext fun x0 => (funext fun x1 => (funext fun x2 => (funext fun x3 => BagValid.l5_eq fuel b fuel x0 x1 x2 x3))))
  rw [e5]
  rfl


noncomputable def RecValid_E : Env := ⟨th, gam [(48, s_sv), (95, s_bagv)], fun i => ⟨[], [], []⟩⟩
noncomputable def RecValid.k (rs : List AV) (os : List Den.Obj) : Option Bool :=
  match rs, os with
  | [.d .bool r0], [] => some r0
  | _, _ => none
noncomputable def RecValid.b (rid : Int) (rinc : Int) (rst : Int) (rlo : Int) (rhi : Int) (rcut : Bool) (rbag : List (Int × List Int)) : Option Bool :=
  (if (decide (rid < (0 : Int))) then some (false) else (if (decide (rid > (4095 : Int))) then some (false) else (if (decide (rinc < (0 : Int))) then some (false) else (if (decide (rinc > (veil (281474976710655 : Int)))) then some (false) else (if (decide (rst < (0 : Int))) then some (false) else (if (decide (rst > (3 : Int))) then some (false) else (if (!(okS rlo rhi)) then some (false) else (if (smallBag rbag) then (if (!(bagOk rbag)) then some (false) else (if rcut then (if (decide (((((List.length rbag)) : Nat) : Int) > (0 : Int))) then some (false) else some (true)) else some (true))) else none))))))))
noncomputable def RecValid.f (fuel : Nat) (rid : Int) (rinc : Int) (rst : Int) (rlo : Int) (rhi : Int) (rcut : Bool) (rbag : List (Int × List Int)) : Option Bool := RecValid.b rid rinc rst rlo rhi rcut rbag
theorem RecValid.eq (fuel : Nat) (rid : Int) (rinc : Int) (rst : Int) (rlo : Int) (rhi : Int) (rcut : Bool) (rbag : List (Int × List Int)) : (denF RecValid_E loopN fuel Try.f86 [.raw] [.agg [.d (.int .i64) rid, .d (.int .i64) rinc, .d (.int .i64) rst, .d (.int .i64) rlo, .d (.int .i64) rhi, .d .bool rcut, .d (.sl (.pair (.int .i64) (.sl (.int .u8)))) rbag]] [] RecValid.k) = RecValid.f fuel rid rinc rst rlo rhi rcut rbag := by
  kernel_rfl


noncomputable def OctFits_E : Env := ⟨th, gam [], fun i => ⟨[], [], []⟩⟩
noncomputable def OctFits.k (rs : List AV) (os : List Den.Obj) : Option Bool :=
  match rs, os with
  | [.d .bool r0], [] => some r0
  | _, _ => none
noncomputable def OctFits.b (n : Int) (v : Int) : Option Bool :=
  (if (decide (n ≥ (1 : Int))) then (if (decide (n ≤ (7 : Int))) then (if (decide (v ≥ (0 : Int))) then (if ((Go.IntKind.wrap .i64 ((8 : Int) * n)) < (0 : Int)) then none else some (((Int.fdiv v ((2 : Int) ^ (Min.min (Int.toNat (Go.IntKind.wrap .i64 ((8 : Int) * n))) (Go.IntKind.bits .i64)))) == (0 : Int)))) else some (false)) else some (false)) else some (false))
noncomputable def OctFits.f (fuel : Nat) (n : Int) (v : Int) : Option Bool := OctFits.b n v
theorem OctFits.eq (fuel : Nat) (n : Int) (v : Int) : (denF OctFits_E loopN fuel Try.f82 [.raw] [.d (.int .i64) n, .d (.int .i64) v] [] OctFits.k) = OctFits.f fuel n v := by
  kernel_rfl


noncomputable def MsgHas_E : Env := ⟨th, gam [(47, s_of)], fun i => ⟨[], [], []⟩⟩
noncomputable def MsgHas.k (rs : List AV) (os : List Den.Obj) : Option Bool :=
  match rs, os with
  | [.d .bool r0], [] => some r0
  | _, _ => none
noncomputable def MsgHas.b (k : Int) (p : Int) : Option Bool :=
  (if (decide (p ≥ (0 : Int))) then (if (decide (p ≤ (4 : Int))) then (if (p < (0 : Int)) then none else some (((bits Go.BinOp.and .u8 (Int.fdiv (ofF k).2 ((2 : Int) ^ (Min.min (Int.toNat p) (Go.IntKind.bits .u8)))) (1 : Int)) == (1 : Int)))) else some (false)) else some (false))
noncomputable def MsgHas.f (fuel : Nat) (k : Int) (p : Int) : Option Bool := MsgHas.b k p
theorem MsgHas.eq (fuel : Nat) (k : Int) (p : Int) : (denF MsgHas_E loopN fuel Try.f50 [.raw] [.d (.int .i64) k, .d (.int .i64) p] [] MsgHas.k) = MsgHas.f fuel k p := by
  kernel_rfl


end Go.Proofs.Ytlmljpmohljefaa
