/- The codecs, P1: K0 C1 K1 S1 C2 K2 S2 C3 K3 S3 C4 K4 S4 -/
import Derived.Test.YtlmljpmohljefaaTh
import Derived.Laws.BitsLemmas
/- Small facts. -/
set_option linter.unusedVariables false
set_option linter.unusedSimpArgs false
namespace Go.Proofs.Ytlmljpmohljefaa
open Go.Den
theorem any_ok : Try.prog.follows .mixedOrders = true := by kernel_rfl
theorem wrap_small (n : Int) (h0 : -9223372036854775808 ≤ n) (h1 : n < 9223372036854775808) : Go.IntKind.wrap .i64 n = n := by
  rw [Go.IntKind.wrap_i64]; omega
theorem idx_at {α : Type} (l : List α) (i : Nat) : idx l (i : Int) = l[i]? := by
  unfold idx
  rw [if_pos (by omega)]
  simp
theorem getD_at {α : Type} (l : List α) (d : α) (i : Nat) (h : i < l.length) : idx l (i : Int) = some (l.getD i d) := by
  rw [idx_at, List.getElem?_eq_getElem h]; simp [List.getD, List.getElem?_eq_getElem h]
end Go.Proofs.Ytlmljpmohljefaa

/- printed by denfn.py -/
set_option linter.unusedVariables false
namespace Go.Proofs.Ytlmljpmohljefaa
open Go.Den
noncomputable def okS (lo hi : Int) : Bool := decide (1 ≤ lo) && decide (lo ≤ hi) && decide (hi ≤ 3)
noncomputable def codeF (a b : Int) : Int := if !okS a b then 0 else Den.bits .or .i64 (Go.IntKind.wrap .i64 (a * 16)) b
noncomputable def tableL : List (ByteArray × Int) := [(⟨#[]⟩, 0), (⟨#[104, 101, 108, 108, 111]⟩, 1), (⟨#[119, 101, 108, 99, 111, 109, 101]⟩, 1), (⟨#[114, 101, 106, 101, 99, 116]⟩, 2), (⟨#[112, 105, 110, 103]⟩, 17), (⟨#[97, 99, 107]⟩, 17), (⟨#[97, 115, 107]⟩, 19), (⟨#[112, 117, 115, 104]⟩, 28), (⟨#[112, 117, 108, 108]⟩, 20), (⟨#[114, 101, 115, 101, 116]⟩, 4)]
noncomputable def ofF (k : Int) : ByteArray × Int := if decide (k < 1) || decide (k > 9) then (⟨#[]⟩, 0) else tableL.getD k.toNat (⟨#[]⟩, 0)
noncomputable def withinF (had : Bool) (v lo hi : Int) : Bool := if !had then v == 0 else (decide (v ≥ lo) && decide (v ≤ hi))
noncomputable def bagGo : List (Int × List Int) → Int → Int → Bool
  | [], _, _ => true
  | x :: l, last, size => if decide (x.1 < last) || decide (x.1 > 255) then false else if decide (size + (x.2.length : Int) > 4096) then false else bagGo l x.1 (size + (x.2.length : Int))
noncomputable def bagOk (b : List (Int × List Int)) : Bool := if decide ((b.length : Int) > 32) then false else bagGo b 32 0
noncomputable def recOk (id inc st lo hi : Int) (cut : Bool) (bag : List (Int × List Int)) : Bool :=
  if decide (id < 0) || decide (id > 4095) then false else if decide (inc < 0) || decide (inc > 281474976710655) then false else if decide (st < 0) || decide (st > 3) then false else
  if !okS lo hi || !bagOk bag then false else if cut && decide ((bag.length : Int) > 0) then false else true
noncomputable def smallBag (b : List (Int × List Int)) : Bool := decide (b.length < 281474976710656) && b.all fun x => decide (x.2.length < 281474976710656)
noncomputable def s_sv : Den.Sum := ⟨[.dat (.pair (.int .i64) (.int .i64)) true], fun args objs κ => match args, objs with
  | [.agg [.d (.int .i64) lo, .d (.int .i64) hi]], [] => κ [.d .bool (okS lo hi)] []
  | _, _ => none⟩
noncomputable def s_code : Den.Sum := ⟨[.dat (.pair (.int .i64) (.int .i64)) true], fun args objs κ => match args, objs with
  | [.agg [.d (.int .i64) a, .d (.int .i64) b]], [] => κ [.d (.int .i64) (codeF a b)] []
  | _, _ => none⟩
noncomputable def s_table : Den.Sum := ⟨[], fun args objs κ => match args, objs with
  | [], [] => κ [.d (.arr 10 (.pair .str (.int .u8))) tableL] []
  | _, _ => none⟩
noncomputable def s_of : Den.Sum := ⟨[.raw], fun args objs κ => match args, objs with
  | [.d (.int .i64) k], [] => κ [.agg [.d .str (ofF k).1, .d (.int .u8) (ofF k).2]] []
  | _, _ => none⟩
noncomputable def s_within : Den.Sum := ⟨[.raw, .raw, .raw, .raw], fun args objs κ => match args, objs with
  | [.d .bool had, .d (.int .i64) v, .d (.int .i64) lo, .d (.int .i64) hi], [] => κ [.d .bool (withinF had v lo hi)] []
  | _, _ => none⟩
noncomputable def s_bagv : Den.Sum := ⟨[.dat (.sl (.pair (.int .i64) (.sl (.int .u8)))) false], fun args objs κ => match args, objs with
  | [.d (.sl (.pair (.int .i64) (.sl (.int .u8)))) b], [] => if smallBag b = true then κ [.d .bool (bagOk b)] [] else none
  | _, _ => none⟩
noncomputable def s_recv : Den.Sum := ⟨[.dat (.pair (.int .i64) (.pair (.int .i64) (.pair (.int .i64) (.pair (.pair (.int .i64) (.int .i64)) (.pair .bool (.sl (.pair (.int .i64) (.sl (.int .u8))))))))) true], fun args objs κ => match args, objs with
  | [.agg [.d (.int .i64) rid, .d (.int .i64) rinc, .d (.int .i64) rst, .d (.int .i64) rlo, .d (.int .i64) rhi, .d .bool rcut, .d (.sl (.pair (.int .i64) (.sl (.int .u8)))) rbag]], [] => if smallBag rbag = true then κ [.d .bool (recOk rid rinc rst rlo rhi rcut rbag)] [] else none
  | _, _ => none⟩
noncomputable def SpanValid_E : Env := ⟨th, gam [], fun i => ⟨[], [], []⟩⟩
noncomputable def SpanValid.k (rs : List AV) (os : List Den.Obj) : Option Bool :=
  match rs, os with
  | [.d .bool r0], [] => some r0
  | _, _ => none
noncomputable def SpanValid.b (lo : Int) (hi : Int) : Option Bool :=
  (if (decide (lo ≥ (1 : Int))) then (if (decide (lo ≤ hi)) then some ((decide (hi ≤ (3 : Int)))) else some (false)) else some (false))
noncomputable def SpanValid.f (fuel : Nat) (lo : Int) (hi : Int) : Option Bool := SpanValid.b lo hi
theorem SpanValid.eq (fuel : Nat) (lo : Int) (hi : Int) : (denF SpanValid_E loopN fuel Try.f48 [.raw] [.agg [.d (.int .i64) lo, .d (.int .i64) hi]] [] SpanValid.k) = SpanValid.f fuel lo hi := by
  kernel_rfl


noncomputable def SpanCode_E : Env := ⟨th, gam [(48, s_sv)], fun i => ⟨[], [], []⟩⟩
noncomputable def SpanCode.k (rs : List AV) (os : List Den.Obj) : Option Int :=
  match rs, os with
  | [.d (.int .i64) r0], [] => some r0
  | _, _ => none
noncomputable def SpanCode.b (a : Int) (b : Int) : Option Int :=
  (if (!(okS a b)) then some ((0 : Int)) else some ((bits Go.BinOp.or .i64 (Go.IntKind.wrap .i64 (a * ((2 : Int) ^ (Min.min (Int.toNat (4 : Int)) (Go.IntKind.bits .i64))))) b)))
noncomputable def SpanCode.f (fuel : Nat) (a : Int) (b : Int) : Option Int := SpanCode.b a b
theorem SpanCode.eq (fuel : Nat) (a : Int) (b : Int) : (denF SpanCode_E loopN fuel Try.f44 [.raw] [.agg [.d (.int .i64) a, .d (.int .i64) b]] [] SpanCode.k) = SpanCode.f fuel a b := by
  kernel_rfl


noncomputable def MsgTable_E : Env := ⟨th, gam [], fun i => ⟨[], [], []⟩⟩
noncomputable def MsgTable.k (rs : List AV) (os : List Den.Obj) : Option (List (ByteArray × Int)) :=
  match rs, os with
  | [.d (.arr 10 (.pair .str (.int .u8))) r0], [] => some r0
  | _, _ => none
noncomputable def MsgTable.b (u : Unit) : Option (List (ByteArray × Int)) :=
  some ((((⟨([]).toArray⟩ : ByteArray), 0) :: (((⟨((104 :: (101 :: (108 :: (108 :: (111 :: [])))))).toArray⟩ : ByteArray), (1 : Int)) :: (((⟨((119 :: (101 :: (108 :: (99 :: (111 :: (109 :: (101 :: [])))))))).toArray⟩ : ByteArray), (1 : Int)) :: (((⟨((114 :: (101 :: (106 :: (101 :: (99 :: (116 :: []))))))).toArray⟩ : ByteArray), (2 : Int)) :: (((⟨((112 :: (105 :: (110 :: (103 :: []))))).toArray⟩ : ByteArray), (17 : Int)) :: (((⟨((97 :: (99 :: (107 :: [])))).toArray⟩ : ByteArray), (17 : Int)) :: (((⟨((97 :: (115 :: (107 :: [])))).toArray⟩ : ByteArray), (19 : Int)) :: (((⟨((112 :: (117 :: (115 :: (104 :: []))))).toArray⟩ : ByteArray), (28 : Int)) :: (((⟨((112 :: (117 :: (108 :: (108 :: []))))).toArray⟩ : ByteArray), (20 : Int)) :: (((⟨((114 :: (101 :: (115 :: (101 :: (116 :: [])))))).toArray⟩ : ByteArray), (4 : Int)) :: [])))))))))))
noncomputable def MsgTable.f (fuel : Nat) (u : Unit) : Option (List (ByteArray × Int)) := MsgTable.b u
theorem MsgTable.eq (fuel : Nat) (u : Unit) : (denF MsgTable_E loopN fuel Try.f83 [.raw] [] [] MsgTable.k) = MsgTable.f fuel u := by
  kernel_rfl


noncomputable def MsgOf_E : Env := ⟨th, gam [(83, s_table)], fun i => ⟨[], [], []⟩⟩
noncomputable def MsgOf.k (rs : List AV) (os : List Den.Obj) : Option (ByteArray × Int) :=
  match rs, os with
  | [.agg [.d .str r0, .d (.int .u8) r1]], [] => some (r0, r1)
  | _, _ => none
noncomputable def MsgOf.b (k : Int) : Option (ByteArray × Int) :=
  (if (decide (k < (1 : Int))) then some ((⟨([]).toArray⟩ : ByteArray), 0) else (if (decide (k > (9 : Int))) then some ((⟨([]).toArray⟩ : ByteArray), 0) else (match (idx tableL k) with | none => none | some y0 => some (y0.1, y0.2))))
noncomputable def MsgOf.f (fuel : Nat) (k : Int) : Option (ByteArray × Int) := MsgOf.b k
theorem MsgOf.eq (fuel : Nat) (k : Int) : (denF MsgOf_E loopN fuel Try.f47 [.dat (.pair .str (.int .u8)) true] [.d (.int .i64) k] [] MsgOf.k) = MsgOf.f fuel k := by
  kernel_rfl


noncomputable def MsgWithin_E : Env := ⟨th, gam [], fun i => ⟨[], [], []⟩⟩
noncomputable def MsgWithin.k (rs : List AV) (os : List Den.Obj) : Option Bool :=
  match rs, os with
  | [.d .bool r0], [] => some r0
  | _, _ => none
noncomputable def MsgWithin.b (had : Bool) (v : Int) (lo : Int) (hi : Int) : Option Bool :=
  (if (!had) then some ((v == (0 : Int))) else (if (decide (v ≥ lo)) then some ((decide (v ≤ hi))) else some (false)))
noncomputable def MsgWithin.f (fuel : Nat) (had : Bool) (v : Int) (lo : Int) (hi : Int) : Option Bool := MsgWithin.b had v lo hi
theorem MsgWithin.eq (fuel : Nat) (had : Bool) (v : Int) (lo : Int) (hi : Int) : (denF MsgWithin_E loopN fuel Try.f49 [.raw] [.d .bool had, .d (.int .i64) v, .d (.int .i64) lo, .d (.int .i64) hi] [] MsgWithin.k) = MsgWithin.f fuel had v lo hi := by
  kernel_rfl


noncomputable def BagValid_E : Env := ⟨th, gam [], fun i => if i = 5 then ⟨[3, 4, 10, 11, 12], [], []⟩ else ⟨[], [], []⟩⟩
noncomputable def BagValid.k (rs : List AV) (os : List Den.Obj) : Option Bool :=
  match rs, os with
  | [.d .bool r0], [] => some r0
  | _, _ => none
noncomputable def BagValid.s5 (b : List (Int × List Int)) (x0 : Int) (x1 : Int) (x2 : Int) (x3 : Int) : St := ⟨[.dead, .dead, .dead, .d (.int .i64) x0, .d (.int .i64) x1, .dead, .dead, .dead, .dead, .dead, .d (.sl (.pair (.int .i64) (.sl (.int .u8)))) (b), .d (.int .i64) x2, .d (.int .i64) x3, .dead, .dead, .dead, .dead, .dead, .dead, .dead, .dead, .dead, .dead, .dead, .dead, .dead, .dead, .dead, .dead, .dead, .dead, .dead, .dead, .dead, .dead], ofL [], 0⟩
noncomputable def BagValid.b5 (b : List (Int × List Int)) (A5 : Int → Int → Int → Int → Option Bool) (x0 : Int) (x1 : Int) (x2 : Int) (x3 : Int) : Option Bool :=
  (if (decide (x3 < x2)) then (match (idx b x3) with | none => none | some y4 => (if (decide (y4.1 < x0)) then some (false) else (if (decide (y4.1 > (255 : Int))) then some (false) else (if (decide ((Go.IntKind.wrap .i64 (x1 + ((((List.length y4.2)) : Nat) : Int))) > (4096 : Int))) then some (false) else A5 y4.1 (Go.IntKind.wrap .i64 (x1 + ((((List.length y4.2)) : Nat) : Int))) x2 (Go.IntKind.wrap .i64 (x3 + (1 : Int))))))) else some (true))
noncomputable def BagValid.l5 (fuel : Nat) (b : List (Int × List Int)) : Nat → Int → Int → Int → Int → Option Bool
  | 0, _, _, _, _ => none
  | k + 1, x0, x1, x2, x3 => BagValid.b5 b (BagValid.l5 fuel b k) x0 x1 x2 x3
noncomputable def BagValid.b (b : List (Int × List Int)) (E5 : Int → Int → Int → Int → Option Bool) : Option Bool :=
  (if (decide (((((List.length b)) : Nat) : Int) > (32 : Int))) then some (false) else E5 (32 : Int) (0 : Int) ((((List.length b)) : Nat) : Int) (0 : Int))
noncomputable def BagValid.f (fuel : Nat) (b : List (Int × List Int)) : Option Bool := BagValid.b b (BagValid.l5 fuel b fuel)
theorem BagValid.l5_eq (fuel : Nat) (b : List (Int × List Int)) : ∀ (k : Nat) (x0 : Int) (x1 : Int) (x2 : Int) (x3 : Int), lp BagValid_E fuel Try.f95 [.raw] 0 BagValid.k 5 [] k (BagValid.s5 b x0 x1 x2 x3) = BagValid.l5 fuel b k x0 x1 x2 x3 := by
  intro k
  induction k with
  | zero => intro x0 x1 x2 x3; rfl
  | succ k ih =>
    intro x0 x1 x2 x3
    have h : lp BagValid_E fuel Try.f95 [.raw] 0 BagValid.k 5 [] (k + 1) (BagValid.s5 b x0 x1 x2 x3) = BagValid.b5 b (fun x0 x1 x2 x3 => lp BagValid_E fuel Try.f95 [.raw] 0 BagValid.k 5 [] k (BagValid.s5 b x0 x1 x2 x3)) x0 x1 x2 x3 := by kernel_rfl
    rw [h]
    have e5 : (fun x0 x1 x2 x3 => lp BagValid_E fuel Try.f95 [.raw] 0 BagValid.k 5 [] k (BagValid.s5 b x0 x1 x2 x3)) = BagValid.l5 fuel b k := (funext fun x0 => (funext fun x1 => (funext fun x2 => (funext fun x3 => ih x0 x1 x2 x3))))
    rw [e5]
    rfl
theorem BagValid.eq (fuel : Nat) (b : List (Int × List Int)) : (denF BagValid_E loopN fuel Try.f95 [.raw] [.d (.sl (.pair (.int .i64) (.sl (.int .u8)))) b] [] BagValid.k) = BagValid.f fuel b := by
  have h : (denF BagValid_E loopN fuel Try.f95 [.raw] [.d (.sl (.pair (.int .i64) (.sl (.int .u8)))) b] [] BagValid.k) = BagValid.b b (fun x0 x1 x2 x3 => lp BagValid_E fuel Try.f95 [.raw] 0 BagValid.k 5 [] fuel (BagValid.s5 b x0 x1 x2 x3)) := by kernel_rfl
  rw [h]
  have e5 : (fun x0 x1 x2 x3 => lp BagValid_E fuel Try.f95 [.raw] 0 BagValid.k 5 [] fuel (BagValid.s5 b x0 x1 x2 x3)) = BagValid.l5 fuel b fuel := (funext fun x0 => (funext fun x1 => (funext fun x2 => (funext fun x3 => BagValid.l5_eq fuel b fuel x0 x1 x2 x3))))
  rw [e5]
  rfl


noncomputable def RecValid_E : Env := ⟨th, gam [(48, s_sv), (95, s_bagv)], fun i => ⟨[], [], []⟩⟩
noncomputable def RecValid.k (rs : List AV) (os : List Den.Obj) : Option Bool :=
  match rs, os with
  | [.d .bool r0], [] => some r0
  | _, _ => none
noncomputable def RecValid.b (rid : Int) (rinc : Int) (rst : Int) (rlo : Int) (rhi : Int) (rcut : Bool) (rbag : List (Int × List Int)) : Option Bool :=
  (if (decide (rid < (0 : Int))) then some (false) else (if (decide (rid > (4095 : Int))) then some (false) else (if (decide (rinc < (0 : Int))) then some (false) else (if (decide (rinc > (veil (281474976710655 : Int)))) then some (false) else (if (decide (rst < (0 : Int))) then some (false) else (if (decide (rst > (3 : Int))) then some (false) else (if (!(okS rlo rhi)) then some (false) else (if (smallBag rbag) then (if (!(bagOk rbag)) then some (false) else (if rcut then (if (decide (((((List.length rbag)) : Nat) : Int) > (0 : Int))) then some (false) else some (true)) else some (true))) else none))))))))
noncomputable def RecValid.f (fuel : Nat) (rid : Int) (rinc : Int) (rst : Int) (rlo : Int) (rhi : Int) (rcut : Bool) (rbag : List (Int × List Int)) : Option Bool := RecValid.b rid rinc rst rlo rhi rcut rbag
theorem RecValid.eq (fuel : Nat) (rid : Int) (rinc : Int) (rst : Int) (rlo : Int) (rhi : Int) (rcut : Bool) (rbag : List (Int × List Int)) : (denF RecValid_E loopN fuel Try.f86 [.raw] [.agg [.d (.int .i64) rid, .d (.int .i64) rinc, .d (.int .i64) rst, .d (.int .i64) rlo, .d (.int .i64) rhi, .d .bool rcut, .d (.sl (.pair (.int .i64) (.sl (.int .u8)))) rbag]] [] RecValid.k) = RecValid.f fuel rid rinc rst rlo rhi rcut rbag := by
  kernel_rfl


noncomputable def OctFits_E : Env := ⟨th, gam [], fun i => ⟨[], [], []⟩⟩
noncomputable def OctFits.k (rs : List AV) (os : List Den.Obj) : Option Bool :=
  match rs, os with
  | [.d .bool r0], [] => some r0
  | _, _ => none
noncomputable def OctFits.b (n : Int) (v : Int) : Option Bool :=
  (if (decide (n ≥ (1 : Int))) then (if (decide (n ≤ (7 : Int))) then (if (decide (v ≥ (0 : Int))) then (if ((Go.IntKind.wrap .i64 ((8 : Int) * n)) < (0 : Int)) then none else some (((Int.fdiv v ((2 : Int) ^ (Min.min (Int.toNat (Go.IntKind.wrap .i64 ((8 : Int) * n))) (Go.IntKind.bits .i64)))) == (0 : Int)))) else some (false)) else some (false)) else some (false))
noncomputable def OctFits.f (fuel : Nat) (n : Int) (v : Int) : Option Bool := OctFits.b n v
theorem OctFits.eq (fuel : Nat) (n : Int) (v : Int) : (denF OctFits_E loopN fuel Try.f82 [.raw] [.d (.int .i64) n, .d (.int .i64) v] [] OctFits.k) = OctFits.f fuel n v := by
  kernel_rfl


noncomputable def MsgHas_E : Env := ⟨th, gam [(47, s_of)], fun i => ⟨[], [], []⟩⟩
noncomputable def MsgHas.k (rs : List AV) (os : List Den.Obj) : Option Bool :=
  match rs, os with
  | [.d .bool r0], [] => some r0
  | _, _ => none
noncomputable def MsgHas.b (k : Int) (p : Int) : Option Bool :=
  (if (decide (p ≥ (0 : Int))) then (if (decide (p ≤ (4 : Int))) then (if (p < (0 : Int)) then none else some (((bits Go.BinOp.and .u8 (Int.fdiv (ofF k).2 ((2 : Int) ^ (Min.min (Int.toNat p) (Go.IntKind.bits .u8)))) (1 : Int)) == (1 : Int)))) else some (false)) else some (false))
noncomputable def MsgHas.f (fuel : Nat) (k : Int) (p : Int) : Option Bool := MsgHas.b k p
theorem MsgHas.eq (fuel : Nat) (k : Int) (p : Int) : (denF MsgHas_E loopN fuel Try.f50 [.raw] [.d (.int .i64) k, .d (.int .i64) p] [] MsgHas.k) = MsgHas.f fuel k p := by
  kernel_rfl


end Go.Proofs.Ytlmljpmohljefaa

set_option linter.unusedVariables false
set_option linter.unusedSimpArgs false
namespace Go.Proofs.Ytlmljpmohljefaa
open Go.Den
theorem okS_iff (a b : Int) : okS a b = true ↔ 1 ≤ a ∧ a ≤ b ∧ b ≤ 3 := by
  unfold okS
  simp only [Bool.and_eq_true, decide_eq_true_eq]
  omega
theorem SpanValid.pure (lo hi : Int) : SpanValid.f 0 lo hi = some (okS lo hi) := by
  unfold SpanValid.f SpanValid.b okS
  by_cases h1 : 1 ≤ lo
  · by_cases h2 : lo ≤ hi <;> simp [h1, h2]
  · simp [h1]
theorem SpanCode.pure (a b : Int) : SpanCode.f 0 a b = some (codeF a b) := by
  unfold SpanCode.f SpanCode.b codeF
  cases okS a b <;> rfl
theorem MsgOf.pure (k : Int) : MsgOf.f 0 k = some ((ofF k).1, (ofF k).2) := by
  unfold MsgOf.f MsgOf.b ofF
  by_cases h1 : k < 1
  · simp [h1]
  · by_cases h2 : k > 9
    · simp [h1, h2]
    · have := getD_at tableL (⟨#[]⟩, 0) k.toNat (by show k.toNat < 10; omega)
      rw [Int.toNat_of_nonneg (by omega)] at this
      simp [h1, h2, this]
theorem MsgWithin.pure (had : Bool) (v lo hi : Int) : MsgWithin.f 0 had v lo hi = some (withinF had v lo hi) := by
  unfold MsgWithin.f MsgWithin.b withinF
  cases had
  · rfl
  · by_cases h : v ≥ lo <;> simp [h]
theorem smallBag_iff (b : List (Int × List Int)) : smallBag b = true ↔ b.length < 281474976710656 ∧ ∀ x ∈ b, x.2.length < 281474976710656 := by
  unfold smallBag
  simp [List.all_eq_true]
theorem BagValid.loop (fuel : Nat) (b : List (Int × List Int)) (hl : smallBag b = true) : ∀ (k i : Nat) (last size : Int), i ≤ b.length → b.length - i < k → 0 ≤ size → size ≤ 4096 →
    BagValid.l5 fuel b k last size (b.length : Int) (i : Int) = some (bagGo (b.drop i) last size) := by
  obtain ⟨hb, hx⟩ := (smallBag_iff b).1 hl
  intro k
  induction k with
  | zero => intro i last size h1 h2; omega
  | succ k ih =>
    intro i last size h1 h2 h3 h4
    rw [BagValid.l5]
    unfold BagValid.b5
    by_cases hi : i < b.length
    · rw [if_pos (by simp; omega), idx_at, List.getElem?_eq_getElem hi]
      simp only
      rw [List.drop_eq_getElem_cons hi]
      have hxl := hx b[i] (List.getElem_mem hi)
      unfold bagGo
      rw [wrap_small (size + _) (by omega) (by omega), wrap_small ((i : Int) + 1) (by omega) (by omega)]
      by_cases c1 : b[i].1 < last
      · simp [c1]
      · by_cases c2 : b[i].1 > 255
        · simp [c1, c2]
        · by_cases c3 : size + (b[i].2.length : Int) > 4096
          · simp [c1, c2, c3]
          · simp only [c1, c2, c3, decide_false, Bool.or_self, Bool.false_eq_true, if_false]
            exact ih (i + 1) _ _ (by omega) (by omega) (by omega) (by omega)
    · rw [if_neg (by simp; omega)]
      rw [List.drop_of_length_le (by omega)]
      rfl
theorem BagValid.pure (b : List (Int × List Int)) (hl : smallBag b = true) : BagValid.f (b.length + 1) b = some (bagOk b) := by
  unfold BagValid.f BagValid.b bagOk
  split
  · rfl
  · exact BagValid.loop _ b hl _ 0 32 0 (by omega) (by omega) (by omega) (by omega)
theorem RecValid.pure (id inc st lo hi : Int) (cut : Bool) (bag : List (Int × List Int)) (hl : smallBag bag = true) : RecValid.f 0 id inc st lo hi cut bag = some (recOk id inc st lo hi cut bag) := by
  unfold RecValid.f RecValid.b recOk
  rw [veil_eq, hl]
  by_cases c1 : id < 0
  · simp [c1]
  by_cases c2 : id > 4095
  · simp [c1, c2]
  by_cases c3 : inc < 0
  · simp [c1, c2, c3]
  by_cases c4 : inc > 281474976710655
  · simp [c1, c2, c3, c4]
  by_cases c5 : st < 0
  · simp [c1, c2, c3, c4, c5]
  by_cases c6 : st > 3
  · simp [c1, c2, c3, c4, c5, c6]
  simp only [c1, c2, c3, c4, c5, c6, decide_false, Bool.or_self, Bool.false_eq_true, if_false, if_true]
  cases okS lo hi <;> cases bagOk bag <;> cases cut <;> simp
  split <;> simp_all
end Go.Proofs.Ytlmljpmohljefaa

set_option linter.unusedVariables false
namespace Go.Proofs.Ytlmljpmohljefaa
open Go.Den
theorem s_sv_det : SumDet s_sv := fun avs objs R κ => by
  show s_sv.run avs objs (two κ) = (s_sv.run avs objs (two some)).bind κ
  unfold s_sv
  simp only
  split
  · first | rfl | (split <;> rfl)
  · rfl
theorem s_sv_ok : SumOk Try.prog 48 s_sv := by
  have hE : EnvOk Try.prog SpanValid_E := env_ok (l := []) th_ok any_ok trivial _
  refine sum_ok hE Try.func48 rfl (by kernel_rfl) s_sv [.raw] SpanValid.k ?_
  intro R avs objs κ r h
  unfold s_sv at h
  simp only at h
  split at h
  · rename_i lo hi
    refine ⟨0, _, _, _, (SpanValid.eq (0) lo hi).trans (SpanValid.pure lo hi), ?_, h⟩
    intro rs ros hk
    unfold SpanValid.k at hk
    split at hk
    · first | (cases hk; exact ⟨rfl, rfl⟩) | (have e := Option.some.inj hk; rw [← e]; exact ⟨rfl, rfl⟩)
    · cases hk
  · cases h
theorem s_code_det : SumDet s_code := fun avs objs R κ => by
  show s_code.run avs objs (two κ) = (s_code.run avs objs (two some)).bind κ
  unfold s_code
  simp only
  split
  · first | rfl | (split <;> rfl)
  · rfl
theorem s_code_ok : SumOk Try.prog 44 s_code := by
  have hE : EnvOk Try.prog SpanCode_E := env_ok (l := [(48, s_sv)]) th_ok any_ok ⟨⟨s_sv_ok, s_sv_det⟩, trivial⟩ _
  refine sum_ok hE Try.func44 rfl (by kernel_rfl) s_code [.raw] SpanCode.k ?_
  intro R avs objs κ r h
  unfold s_code at h
  simp only at h
  split at h
  · rename_i a b
    refine ⟨0, _, _, _, (SpanCode.eq (0) a b).trans (SpanCode.pure a b), ?_, h⟩
    intro rs ros hk
    unfold SpanCode.k at hk
    split at hk
    · first | (cases hk; exact ⟨rfl, rfl⟩) | (have e := Option.some.inj hk; rw [← e]; exact ⟨rfl, rfl⟩)
    · cases hk
  · cases h
theorem s_table_det : SumDet s_table := fun avs objs R κ => by
  show s_table.run avs objs (two κ) = (s_table.run avs objs (two some)).bind κ
  unfold s_table
  simp only
  split
  · first | rfl | (split <;> rfl)
  · rfl
theorem s_table_ok : SumOk Try.prog 83 s_table := by
  have hE : EnvOk Try.prog MsgTable_E := env_ok (l := []) th_ok any_ok trivial _
  refine sum_ok hE Try.func83 rfl (by kernel_rfl) s_table [.raw] MsgTable.k ?_
  intro R avs objs κ r h
  unfold s_table at h
  simp only at h
  split at h
  · skip
    refine ⟨0, _, _, _, (MsgTable.eq (0) ()).trans (rfl), ?_, h⟩
    intro rs ros hk
    unfold MsgTable.k at hk
    split at hk
    · first | (cases hk; exact ⟨rfl, rfl⟩) | (have e := Option.some.inj hk; rw [← e]; exact ⟨rfl, rfl⟩)
    · cases hk
  · cases h
theorem s_of_det : SumDet s_of := fun avs objs R κ => by
  show s_of.run avs objs (two κ) = (s_of.run avs objs (two some)).bind κ
  unfold s_of
  simp only
  split
  · first | rfl | (split <;> rfl)
  · rfl
theorem s_of_ok : SumOk Try.prog 47 s_of := by
  have hE : EnvOk Try.prog MsgOf_E := env_ok (l := [(83, s_table)]) th_ok any_ok ⟨⟨s_table_ok, s_table_det⟩, trivial⟩ _
  refine sum_ok hE Try.func47 rfl (by kernel_rfl) s_of [.dat (.pair .str (.int .u8)) true] MsgOf.k ?_
  intro R avs objs κ r h
  unfold s_of at h
  simp only at h
  split at h
  · rename_i k
    refine ⟨0, _, _, _, (MsgOf.eq (0) k).trans (MsgOf.pure k), ?_, h⟩
    intro rs ros hk
    unfold MsgOf.k at hk
    split at hk
    · first | (cases hk; exact ⟨rfl, rfl⟩) | (have e := Option.some.inj hk; rw [← e]; exact ⟨rfl, rfl⟩)
    · cases hk
  · cases h
theorem s_within_det : SumDet s_within := fun avs objs R κ => by
  show s_within.run avs objs (two κ) = (s_within.run avs objs (two some)).bind κ
  unfold s_within
  simp only
  split
  · first | rfl | (split <;> rfl)
  · rfl
theorem s_within_ok : SumOk Try.prog 49 s_within := by
  have hE : EnvOk Try.prog MsgWithin_E := env_ok (l := []) th_ok any_ok trivial _
  refine sum_ok hE Try.func49 rfl (by kernel_rfl) s_within [.raw] MsgWithin.k ?_
  intro R avs objs κ r h
  unfold s_within at h
  simp only at h
  split at h
  · rename_i had v lo hi
    refine ⟨0, _, _, _, (MsgWithin.eq (0) had v lo hi).trans (MsgWithin.pure had v lo hi), ?_, h⟩
    intro rs ros hk
    unfold MsgWithin.k at hk
    split at hk
    · first | (cases hk; exact ⟨rfl, rfl⟩) | (have e := Option.some.inj hk; rw [← e]; exact ⟨rfl, rfl⟩)
    · cases hk
  · cases h
theorem s_bagv_det : SumDet s_bagv := fun avs objs R κ => by
  show s_bagv.run avs objs (two κ) = (s_bagv.run avs objs (two some)).bind κ
  unfold s_bagv
  simp only
  split
  · first | rfl | (split <;> rfl)
  · rfl
theorem s_bagv_ok : SumOk Try.prog 95 s_bagv := by
  have hE : EnvOk Try.prog BagValid_E := env_ok (l := []) th_ok any_ok trivial _
  refine sum_ok hE Try.func95 rfl (by kernel_rfl) s_bagv [.raw] BagValid.k ?_
  intro R avs objs κ r h
  unfold s_bagv at h
  simp only at h
  split at h
  · rename_i b
    split at h
    case isFalse => cases h
    rename_i hl
    refine ⟨b.length + 1, _, _, _, (BagValid.eq (b.length + 1) b).trans (BagValid.pure b hl), ?_, h⟩
    intro rs ros hk
    unfold BagValid.k at hk
    split at hk
    · first | (cases hk; exact ⟨rfl, rfl⟩) | (have e := Option.some.inj hk; rw [← e]; exact ⟨rfl, rfl⟩)
    · cases hk
  · cases h
theorem s_recv_det : SumDet s_recv := fun avs objs R κ => by
  show s_recv.run avs objs (two κ) = (s_recv.run avs objs (two some)).bind κ
  unfold s_recv
  simp only
  split
  · first | rfl | (split <;> rfl)
  · rfl
theorem s_recv_ok : SumOk Try.prog 86 s_recv := by
  have hE : EnvOk Try.prog RecValid_E := env_ok (l := [(48, s_sv), (95, s_bagv)]) th_ok any_ok ⟨⟨s_sv_ok, s_sv_det⟩, ⟨s_bagv_ok, s_bagv_det⟩, trivial⟩ _
  refine sum_ok hE Try.func86 rfl (by kernel_rfl) s_recv [.raw] RecValid.k ?_
  intro R avs objs κ r h
  unfold s_recv at h
  simp only at h
  split at h
  · rename_i rid rinc rst rlo rhi rcut rbag
    split at h
    case isFalse => cases h
    rename_i hl
    refine ⟨0, _, _, _, (RecValid.eq (0) rid rinc rst rlo rhi rcut rbag).trans (RecValid.pure rid rinc rst rlo rhi rcut rbag hl), ?_, h⟩
    intro rs ros hk
    unfold RecValid.k at hk
    split at hk
    · first | (cases hk; exact ⟨rfl, rfl⟩) | (have e := Option.some.inj hk; rw [← e]; exact ⟨rfl, rfl⟩)
    · cases hk
  · cases h
end Go.Proofs.Ytlmljpmohljefaa

/- printed by denfn.py -/
set_option linter.unusedVariables false
namespace Go.Proofs.Ytlmljpmohljefaa
open Go.Den
noncomputable def hasF (k p : Int) : Bool := if decide (p ≥ 0) && decide (p ≤ 4) then (bits Go.BinOp.and .u8 (Int.fdiv (ofF k).2 ((2 : Int) ^ (Min.min (Int.toNat p) (Go.IntKind.bits .u8)))) (1 : Int)) == (1 : Int) else false
noncomputable def livesF (kind life epoch base : Int) : Bool :=
  if !withinF (hasF kind 2) life 0 281474976710655 || !withinF (hasF kind 2) epoch 0 65535 then false else
  if epoch == 0 && (life != 0 || kind == 9) then false else base == 0 || (hasF kind 3 && (decide (base > 0) && decide (base < epoch)))
noncomputable def smallRec (r : (Int × Int × Int × (Int × Int) × Bool × List (Int × List Int))) : Bool := smallBag r.2.2.2.2.2
noncomputable def smallRecs (l : List (Int × Int × Int × (Int × Int) × Bool × List (Int × List Int))) : Bool := decide (l.length < 281474976710656) && l.all smallRec
noncomputable def recOkT (r : (Int × Int × Int × (Int × Int) × Bool × List (Int × List Int))) : Bool := recOk r.1 r.2.1 r.2.2.1 r.2.2.2.1.1 r.2.2.2.1.2 r.2.2.2.2.1 r.2.2.2.2.2
/-- the first record that is not in order, or the length; and the last id seen -/
noncomputable def whGo : List (Int × Int × Int × (Int × Int) × Bool × List (Int × List Int)) → Int → Int → Int × Int
  | [], i, last => (i, last)
  | r :: l, i, last => if !recOkT r || decide (r.1 ≤ last) then (i, r.1) else whGo l (i + 1) r.1
noncomputable def sortedF (l : List (Int × Int × Int × (Int × Int) × Bool × List (Int × List Int))) : Bool := (whGo l 0 (-1)).1 == (l.length : Int)
noncomputable def validF (kind from0 inc lo hi seq target life epoch base : Int) (recs : List (Int × Int × Int × (Int × Int) × Bool × List (Int × List Int))) : Bool :=
  if (ofF kind).1.toList == (⟨#[]⟩ : ByteArray).toList || (decide (from0 < 0) || (decide (from0 > 4095) || (decide (inc < 0) || (decide (inc > 281474976710655) || !okS lo hi)))) then false else
  if !withinF (hasF kind 0) seq 0 65535 || (!withinF (hasF kind 1) target (if kind == 3 then 1 else 0) (if kind == 3 then 3 else 4095) || !livesF kind life epoch base) then false else
  if !hasF kind 4 then recs.length == 0 else decide ((recs.length : Int) ≤ 255) && sortedF recs
noncomputable def few6Go : List (Int × List Int) → Int → Bool
  | [], _ => true
  | x :: l, n => if decide (n + (x.2.length : Int) > 5000) then false else few6Go l (n + (x.2.length : Int))
noncomputable def few6 (b : List (Int × List Int)) : Bool := if decide ((b.length : Int) > 40) then false else few6Go b 0
noncomputable def few8 (l : List (Int × Int × Int × (Int × Int) × Bool × List (Int × List Int))) : Bool := if decide ((l.length : Int) > 20) then false else l.all fun r => few6 r.2.2.2.2.2
noncomputable def fitGo : List (Int × Int × Int × (Int × Int) × Bool × List (Int × List Int)) → Bool
  | [] => true
  | r :: l => if decide (r.2.1 > 65535) || decide ((r.2.2.2.2.2.length : Int) > 0) then false else fitGo l
noncomputable def fits1 (kind from0 inc lo hi seq target life epoch base : Int) (recs : List (Int × Int × Int × (Int × Int) × Bool × List (Int × List Int))) : Bool :=
  if !validF kind from0 inc lo hi seq target life epoch base recs || (kind == 9 || epoch != 0) then false else fitGo recs
noncomputable def fitsL (kind from0 inc lo hi seq target life epoch base : Int) (recs : List (Int × Int × Int × (Int × Int) × Bool × List (Int × List Int))) : Bool :=
  if !validF kind from0 inc lo hi seq target life epoch base recs || (kind == 9 || (life != 0 || (epoch != 0 || base != 0))) then false else fitGo recs
noncomputable def stateF (st lo hi : Int) (cut : Bool) : Int :=
  let v := bits .or .i64 (bits .or .i64 st (Go.IntKind.wrap .i64 (lo * 4))) (Go.IntKind.wrap .i64 (hi * 16))
  if cut then bits .or .i64 v 64 else v
/-- the bytes of a number, the greatest first -/
noncomputable def be : Nat → Int → List Int
  | 0, _ => []
  | n + 1, v => be n (v / 256) ++ [v % 256]
noncomputable def fitsF (n v : Int) : Bool := decide (1 ≤ n) && (decide (n ≤ 7) && (decide (0 ≤ v) && decide (v < 256 ^ n.toNat)))
noncomputable def s_has : Den.Sum := ⟨[.raw, .raw], fun args objs κ => match args, objs with
  | [.d (.int .i64) k, .d (.int .i64) p], [] => κ [.d .bool (hasF k p)] []
  | _, _ => none⟩
noncomputable def s_lives : Den.Sum := ⟨[.dat (.pair (.int .i64) (.pair (.int .i64) (.pair (.int .i64) (.pair (.pair (.int .i64) (.int .i64)) (.pair (.int .i64) (.pair (.int .i64) (.pair (.int .i64) (.pair (.int .i64) (.pair (.int .i64) (.sl (.pair (.int .i64) (.pair (.int .i64) (.pair (.int .i64) (.pair (.pair (.int .i64) (.int .i64)) (.pair .bool (.sl (.pair (.int .i64) (.sl (.int .u8))))))))))))))))))) true], fun args objs κ => match args, objs with
  | [.agg [.d (.int .i64) mkind, .d (.int .i64) mfrom0, .d (.int .i64) minc, .d (.int .i64) mlo, .d (.int .i64) mhi, .d (.int .i64) mseq, .d (.int .i64) mtarget, .d (.int .i64) mlife, .d (.int .i64) mepoch, .d (.int .i64) mbase, .d (.sl (.pair (.int .i64) (.pair (.int .i64) (.pair (.int .i64) (.pair (.pair (.int .i64) (.int .i64)) (.pair .bool (.sl (.pair (.int .i64) (.sl (.int .u8)))))))))) mrecs]], [] => κ [.d .bool (livesF mkind mlife mepoch mbase)] []
  | _, _ => none⟩
noncomputable def s_srt1 : Den.Sum := ⟨[.dat (.pair (.int .i64) (.pair (.int .i64) (.pair (.int .i64) (.pair (.pair (.int .i64) (.int .i64)) (.pair .bool (.sl (.pair (.int .i64) (.sl (.int .u8))))))))) true, .raw], fun args objs κ => match args, objs with
  | [.agg [.d (.int .i64) rid, .d (.int .i64) rinc, .d (.int .i64) rst, .d (.int .i64) rlo, .d (.int .i64) rhi, .d .bool rcut, .d (.sl (.pair (.int .i64) (.sl (.int .u8)))) rbag], .ptr 0 0], [.box [.d (.int .i64) last]] => if smallBag rbag = true then κ [.d .bool (!recOk rid rinc rst rlo rhi rcut rbag || decide (rid ≤ last))] [.box [.d (.int .i64) rid]] else none
  | _, _ => none⟩
noncomputable def s_where : Den.Sum := ⟨[.dat (.sl (.pair (.int .i64) (.pair (.int .i64) (.pair (.int .i64) (.pair (.pair (.int .i64) (.int .i64)) (.pair .bool (.sl (.pair (.int .i64) (.sl (.int .u8)))))))))) false, .raw], fun args objs κ => match args, objs with
  | [.d (.sl (.pair (.int .i64) (.pair (.int .i64) (.pair (.int .i64) (.pair (.pair (.int .i64) (.int .i64)) (.pair .bool (.sl (.pair (.int .i64) (.sl (.int .u8)))))))))) l, .fn (.func 85) [] [.ptr 0 0]], [.box [.d (.int .i64) last]] => if smallRecs l = true then κ [.d (.int .i64) (whGo l 0 last).1] [.box [.d (.int .i64) (whGo l 0 last).2]] else none
  | _, _ => none⟩
noncomputable def s_sorted : Den.Sum := ⟨[.dat (.sl (.pair (.int .i64) (.pair (.int .i64) (.pair (.int .i64) (.pair (.pair (.int .i64) (.int .i64)) (.pair .bool (.sl (.pair (.int .i64) (.sl (.int .u8)))))))))) false], fun args objs κ => match args, objs with
  | [.d (.sl (.pair (.int .i64) (.pair (.int .i64) (.pair (.int .i64) (.pair (.pair (.int .i64) (.int .i64)) (.pair .bool (.sl (.pair (.int .i64) (.sl (.int .u8)))))))))) l], [] => if smallRecs l = true then κ [.d .bool (sortedF l)] [] else none
  | _, _ => none⟩
noncomputable def s_valid : Den.Sum := ⟨[.dat (.pair (.int .i64) (.pair (.int .i64) (.pair (.int .i64) (.pair (.pair (.int .i64) (.int .i64)) (.pair (.int .i64) (.pair (.int .i64) (.pair (.int .i64) (.pair (.int .i64) (.pair (.int .i64) (.sl (.pair (.int .i64) (.pair (.int .i64) (.pair (.int .i64) (.pair (.pair (.int .i64) (.int .i64)) (.pair .bool (.sl (.pair (.int .i64) (.sl (.int .u8))))))))))))))))))) true], fun args objs κ => match args, objs with
  | [.agg [.d (.int .i64) mkind, .d (.int .i64) mfrom0, .d (.int .i64) minc, .d (.int .i64) mlo, .d (.int .i64) mhi, .d (.int .i64) mseq, .d (.int .i64) mtarget, .d (.int .i64) mlife, .d (.int .i64) mepoch, .d (.int .i64) mbase, .d (.sl (.pair (.int .i64) (.pair (.int .i64) (.pair (.int .i64) (.pair (.pair (.int .i64) (.int .i64)) (.pair .bool (.sl (.pair (.int .i64) (.sl (.int .u8)))))))))) mrecs]], [] => if smallRecs mrecs = true then κ [.d .bool (validF mkind mfrom0 minc mlo mhi mseq mtarget mlife mepoch mbase mrecs)] [] else none
  | _, _ => none⟩
noncomputable def s_few6 : Den.Sum := ⟨[.dat (.sl (.pair (.int .i64) (.sl (.int .u8)))) false], fun args objs κ => match args, objs with
  | [.d (.sl (.pair (.int .i64) (.sl (.int .u8)))) b], [] => if smallBag b = true then κ [.d .bool (few6 b)] [] else none
  | _, _ => none⟩
noncomputable def s_few8 : Den.Sum := ⟨[.dat (.sl (.pair (.int .i64) (.pair (.int .i64) (.pair (.int .i64) (.pair (.pair (.int .i64) (.int .i64)) (.pair .bool (.sl (.pair (.int .i64) (.sl (.int .u8)))))))))) false], fun args objs κ => match args, objs with
  | [.d (.sl (.pair (.int .i64) (.pair (.int .i64) (.pair (.int .i64) (.pair (.pair (.int .i64) (.int .i64)) (.pair .bool (.sl (.pair (.int .i64) (.sl (.int .u8)))))))))) l], [] => if smallRecs l = true then κ [.d .bool (few8 l)] [] else none
  | _, _ => none⟩
noncomputable def s_few10 : Den.Sum := ⟨[.dat (.pair (.int .i64) (.pair (.int .i64) (.pair (.int .i64) (.pair (.pair (.int .i64) (.int .i64)) (.pair (.int .i64) (.pair (.int .i64) (.pair (.int .i64) (.pair (.int .i64) (.pair (.int .i64) (.sl (.pair (.int .i64) (.pair (.int .i64) (.pair (.int .i64) (.pair (.pair (.int .i64) (.int .i64)) (.pair .bool (.sl (.pair (.int .i64) (.sl (.int .u8))))))))))))))))))) true], fun args objs κ => match args, objs with
  | [.agg [.d (.int .i64) mkind, .d (.int .i64) mfrom0, .d (.int .i64) minc, .d (.int .i64) mlo, .d (.int .i64) mhi, .d (.int .i64) mseq, .d (.int .i64) mtarget, .d (.int .i64) mlife, .d (.int .i64) mepoch, .d (.int .i64) mbase, .d (.sl (.pair (.int .i64) (.pair (.int .i64) (.pair (.int .i64) (.pair (.pair (.int .i64) (.int .i64)) (.pair .bool (.sl (.pair (.int .i64) (.sl (.int .u8)))))))))) mrecs]], [] => if smallRecs mrecs = true then κ [.d .bool (few8 mrecs)] [] else none
  | _, _ => none⟩
noncomputable def s_fits1 : Den.Sum := ⟨[.dat (.pair (.int .i64) (.pair (.int .i64) (.pair (.int .i64) (.pair (.pair (.int .i64) (.int .i64)) (.pair (.int .i64) (.pair (.int .i64) (.pair (.int .i64) (.pair (.int .i64) (.pair (.int .i64) (.sl (.pair (.int .i64) (.pair (.int .i64) (.pair (.int .i64) (.pair (.pair (.int .i64) (.int .i64)) (.pair .bool (.sl (.pair (.int .i64) (.sl (.int .u8))))))))))))))))))) true], fun args objs κ => match args, objs with
  | [.agg [.d (.int .i64) mkind, .d (.int .i64) mfrom0, .d (.int .i64) minc, .d (.int .i64) mlo, .d (.int .i64) mhi, .d (.int .i64) mseq, .d (.int .i64) mtarget, .d (.int .i64) mlife, .d (.int .i64) mepoch, .d (.int .i64) mbase, .d (.sl (.pair (.int .i64) (.pair (.int .i64) (.pair (.int .i64) (.pair (.pair (.int .i64) (.int .i64)) (.pair .bool (.sl (.pair (.int .i64) (.sl (.int .u8)))))))))) mrecs]], [] => if smallRecs mrecs = true then κ [.d .bool (fits1 mkind mfrom0 minc mlo mhi mseq mtarget mlife mepoch mbase mrecs)] [] else none
  | _, _ => none⟩
noncomputable def s_fitsL : Den.Sum := ⟨[.dat (.pair (.int .i64) (.pair (.int .i64) (.pair (.int .i64) (.pair (.pair (.int .i64) (.int .i64)) (.pair (.int .i64) (.pair (.int .i64) (.pair (.int .i64) (.pair (.int .i64) (.pair (.int .i64) (.sl (.pair (.int .i64) (.pair (.int .i64) (.pair (.int .i64) (.pair (.pair (.int .i64) (.int .i64)) (.pair .bool (.sl (.pair (.int .i64) (.sl (.int .u8))))))))))))))))))) true], fun args objs κ => match args, objs with
  | [.agg [.d (.int .i64) mkind, .d (.int .i64) mfrom0, .d (.int .i64) minc, .d (.int .i64) mlo, .d (.int .i64) mhi, .d (.int .i64) mseq, .d (.int .i64) mtarget, .d (.int .i64) mlife, .d (.int .i64) mepoch, .d (.int .i64) mbase, .d (.sl (.pair (.int .i64) (.pair (.int .i64) (.pair (.int .i64) (.pair (.pair (.int .i64) (.int .i64)) (.pair .bool (.sl (.pair (.int .i64) (.sl (.int .u8)))))))))) mrecs]], [] => if smallRecs mrecs = true then κ [.d .bool (fitsL mkind mfrom0 minc mlo mhi mseq mtarget mlife mepoch mbase mrecs)] [] else none
  | _, _ => none⟩
noncomputable def s_state : Den.Sum := ⟨[.dat (.pair (.int .i64) (.pair (.int .i64) (.pair (.int .i64) (.pair (.pair (.int .i64) (.int .i64)) (.pair .bool (.sl (.pair (.int .i64) (.sl (.int .u8))))))))) true], fun args objs κ => match args, objs with
  | [.agg [.d (.int .i64) rid, .d (.int .i64) rinc, .d (.int .i64) rst, .d (.int .i64) rlo, .d (.int .i64) rhi, .d .bool rcut, .d (.sl (.pair (.int .i64) (.sl (.int .u8)))) rbag]], [] => κ [.d (.int .i64) (stateF rst rlo rhi rcut)] []
  | _, _ => none⟩
noncomputable def s_ofits : Den.Sum := ⟨[.raw, .raw], fun args objs κ => match args, objs with
  | [.d (.int .i64) n, .d (.int .i64) v], [] => if fitsF n v = true then κ [.d .bool true] [] else none
  | _, _ => none⟩
noncomputable def MsgLives_E : Env := ⟨th, gam [(50, s_has), (49, s_within)], fun i => ⟨[], [], []⟩⟩
noncomputable def MsgLives.k (rs : List AV) (os : List Den.Obj) : Option Bool :=
  match rs, os with
  | [.d .bool r0], [] => some r0
  | _, _ => none
noncomputable def MsgLives.b (mkind : Int) (mfrom0 : Int) (minc : Int) (mlo : Int) (mhi : Int) (mseq : Int) (mtarget : Int) (mlife : Int) (mepoch : Int) (mbase : Int) (mrecs : List (Int × Int × Int × (Int × Int) × Bool × List (Int × List Int))) : Option Bool :=
  (if (!(withinF (hasF mkind (2 : Int)) mlife (0 : Int) (veil (281474976710655 : Int)))) then some (false) else (if (!(withinF (hasF mkind (2 : Int)) mepoch (0 : Int) (65535 : Int))) then some (false) else (if (mepoch == (0 : Int)) then (if (mlife != (0 : Int)) then some (false) else (if (mkind == (9 : Int)) then some (false) else (if (mbase == (0 : Int)) then some (true) else (if (hasF mkind (3 : Int)) then (if (decide (mbase > (0 : Int))) then some ((decide (mbase < mepoch))) else some (false)) else some (false))))) else (if (mbase == (0 : Int)) then some (true) else (if (hasF mkind (3 : Int)) then (if (decide (mbase > (0 : Int))) then some ((decide (mbase < mepoch))) else some (false)) else some (false))))))
noncomputable def MsgLives.f (fuel : Nat) (mkind : Int) (mfrom0 : Int) (minc : Int) (mlo : Int) (mhi : Int) (mseq : Int) (mtarget : Int) (mlife : Int) (mepoch : Int) (mbase : Int) (mrecs : List (Int × Int × Int × (Int × Int) × Bool × List (Int × List Int))) : Option Bool := MsgLives.b mkind mfrom0 minc mlo mhi mseq mtarget mlife mepoch mbase mrecs
theorem MsgLives.eq (fuel : Nat) (mkind : Int) (mfrom0 : Int) (minc : Int) (mlo : Int) (mhi : Int) (mseq : Int) (mtarget : Int) (mlife : Int) (mepoch : Int) (mbase : Int) (mrecs : List (Int × Int × Int × (Int × Int) × Bool × List (Int × List Int))) : (denF MsgLives_E loopN fuel Try.f51 [.raw] [.agg [.d (.int .i64) mkind, .d (.int .i64) mfrom0, .d (.int .i64) minc, .d (.int .i64) mlo, .d (.int .i64) mhi, .d (.int .i64) mseq, .d (.int .i64) mtarget, .d (.int .i64) mlife, .d (.int .i64) mepoch, .d (.int .i64) mbase, .d (.sl (.pair (.int .i64) (.pair (.int .i64) (.pair (.int .i64) (.pair (.pair (.int .i64) (.int .i64)) (.pair .bool (.sl (.pair (.int .i64) (.sl (.int .u8)))))))))) mrecs]] [] MsgLives.k) = MsgLives.f fuel mkind mfrom0 minc mlo mhi mseq mtarget mlife mepoch mbase mrecs := by
  kernel_rfl


noncomputable def Srt1_E : Env := ⟨th, gam [(86, s_recv)], fun i => ⟨[], [], []⟩⟩
noncomputable def Srt1.k (rs : List AV) (os : List Den.Obj) : Option (Bool × Int) :=
  match rs, os with
  | [.d .bool r0], [.box [.d (.int .i64) r1]] => some (r0, r1)
  | _, _ => none
noncomputable def Srt1.b (rid : Int) (rinc : Int) (rst : Int) (rlo : Int) (rhi : Int) (rcut : Bool) (rbag : List (Int × List Int)) (last : Int) : Option (Bool × Int) :=
  (if (smallBag (rinc, (rst, ((rlo, rhi), (rcut, rbag)))).2.2.2.2) then (if (!(recOk rid (rinc, (rst, ((rlo, rhi), (rcut, rbag)))).1 (rinc, (rst, ((rlo, rhi), (rcut, rbag)))).2.1 (rinc, (rst, ((rlo, rhi), (rcut, rbag)))).2.2.1.1 (rinc, (rst, ((rlo, rhi), (rcut, rbag)))).2.2.1.2 (rinc, (rst, ((rlo, rhi), (rcut, rbag)))).2.2.2.1 (rinc, (rst, ((rlo, rhi), (rcut, rbag)))).2.2.2.2)) then some (true, rid) else some ((decide (rid ≤ last)), rid)) else none)
noncomputable def Srt1.f (fuel : Nat) (rid : Int) (rinc : Int) (rst : Int) (rlo : Int) (rhi : Int) (rcut : Bool) (rbag : List (Int × List Int)) (last : Int) : Option (Bool × Int) := Srt1.b rid rinc rst rlo rhi rcut rbag last
theorem Srt1.eq (fuel : Nat) (rid : Int) (rinc : Int) (rst : Int) (rlo : Int) (rhi : Int) (rcut : Bool) (rbag : List (Int × List Int)) (last : Int) : (denF Srt1_E loopN fuel Try.f85 [.raw] [.agg [.d (.int .i64) rid, .d (.int .i64) rinc, .d (.int .i64) rst, .d (.int .i64) rlo, .d (.int .i64) rhi, .d .bool rcut, .d (.sl (.pair (.int .i64) (.sl (.int .u8)))) rbag], .ptr 0 0] [.box [.d (.int .i64) last]] Srt1.k) = Srt1.f fuel rid rinc rst rlo rhi rcut rbag last := by
  kernel_rfl


noncomputable def Where_E : Env := ⟨th, gam [(85, s_srt1)], fun i => if i = 2 then ⟨[0, 1, 7, 8, 9], [], []⟩ else ⟨[], [], []⟩⟩
noncomputable def Where.k (rs : List AV) (os : List Den.Obj) : Option (Int × Int) :=
  match rs, os with
  | [.d (.int .i64) r0], [.box [.d (.int .i64) r1]] => some (r0, r1)
  | _, _ => none
noncomputable def Where.s2 (l : List (Int × Int × Int × (Int × Int) × Bool × List (Int × List Int))) (last : Int) (x0 : Int) (x1 : Int) (x2 : Int) : St := ⟨[.d (.sl (.pair (.int .i64) (.pair (.int .i64) (.pair (.int .i64) (.pair (.pair (.int .i64) (.int .i64)) (.pair .bool (.sl (.pair (.int .i64) (.sl (.int .u8)))))))))) (l), .fn (.func 85) [] [.ptr 0 0], .dead, .dead, .dead, .dead, .dead, .d (.sl (.pair (.int .i64) (.pair (.int .i64) (.pair (.int .i64) (.pair (.pair (.int .i64) (.int .i64)) (.pair .bool (.sl (.pair (.int .i64) (.sl (.int .u8)))))))))) (l), .d (.int .i64) x0, .d (.int .i64) x1, .dead, .dead, .dead, .dead, .dead, .dead, .dead, .dead, .dead, .dead, .dead], ofL [(0, .box [.d (.int .i64) x2])], 1⟩
noncomputable def Where.b2 (l : List (Int × Int × Int × (Int × Int) × Bool × List (Int × List Int))) (last : Int) (A2 : Int → Int → Int → Option (Int × Int)) (x0 : Int) (x1 : Int) (x2 : Int) : Option (Int × Int) :=
  (if (decide (x1 < x0)) then (match (idx l x1) with | none => none | some y3 => (if (smallBag (y3.2.1, (y3.2.2.1, ((y3.2.2.2.1.1, y3.2.2.2.1.2), (y3.2.2.2.2.1, y3.2.2.2.2.2)))).2.2.2.2) then (if ((!(recOk y3.1 (y3.2.1, (y3.2.2.1, ((y3.2.2.2.1.1, y3.2.2.2.1.2), (y3.2.2.2.2.1, y3.2.2.2.2.2)))).1 (y3.2.1, (y3.2.2.1, ((y3.2.2.2.1.1, y3.2.2.2.1.2), (y3.2.2.2.2.1, y3.2.2.2.2.2)))).2.1 (y3.2.1, (y3.2.2.1, ((y3.2.2.2.1.1, y3.2.2.2.1.2), (y3.2.2.2.2.1, y3.2.2.2.2.2)))).2.2.1.1 (y3.2.1, (y3.2.2.1, ((y3.2.2.2.1.1, y3.2.2.2.1.2), (y3.2.2.2.2.1, y3.2.2.2.2.2)))).2.2.1.2 (y3.2.1, (y3.2.2.1, ((y3.2.2.2.1.1, y3.2.2.2.1.2), (y3.2.2.2.2.1, y3.2.2.2.2.2)))).2.2.2.1 (y3.2.1, (y3.2.2.1, ((y3.2.2.2.1.1, y3.2.2.2.1.2), (y3.2.2.2.2.1, y3.2.2.2.2.2)))).2.2.2.2)) || (decide (y3.1 ≤ x2))) then some (x1, y3.1) else A2 x0 (Go.IntKind.wrap .i64 (x1 + (1 : Int))) y3.1) else none)) else some (((((List.length l)) : Nat) : Int), x2))
noncomputable def Where.l2 (fuel : Nat) (l : List (Int × Int × Int × (Int × Int) × Bool × List (Int × List Int))) (last : Int) : Nat → Int → Int → Int → Option (Int × Int)
  | 0, _, _, _ => none
  | k + 1, x0, x1, x2 => Where.b2 l last (Where.l2 fuel l last k) x0 x1 x2
noncomputable def Where.b (l : List (Int × Int × Int × (Int × Int) × Bool × List (Int × List Int))) (last : Int) (E2 : Int → Int → Int → Option (Int × Int)) : Option (Int × Int) :=
  E2 ((((List.length l)) : Nat) : Int) (0 : Int) last
noncomputable def Where.f (fuel : Nat) (l : List (Int × Int × Int × (Int × Int) × Bool × List (Int × List Int))) (last : Int) : Option (Int × Int) := Where.b l last (Where.l2 fuel l last fuel)
theorem Where.l2_eq (fuel : Nat) (l : List (Int × Int × Int × (Int × Int) × Bool × List (Int × List Int))) (last : Int) : ∀ (k : Nat) (x0 : Int) (x1 : Int) (x2 : Int), lp Where_E fuel Try.f84 [.raw] 1 Where.k 2 [] k (Where.s2 l last x0 x1 x2) = Where.l2 fuel l last k x0 x1 x2 := by
  intro k
  induction k with
  | zero => intro x0 x1 x2; rfl
  | succ k ih =>
    intro x0 x1 x2
    have h : lp Where_E fuel Try.f84 [.raw] 1 Where.k 2 [] (k + 1) (Where.s2 l last x0 x1 x2) = Where.b2 l last (fun x0 x1 x2 => lp Where_E fuel Try.f84 [.raw] 1 Where.k 2 [] k (Where.s2 l last x0 x1 x2)) x0 x1 x2 := by kernel_rfl
    rw [h]
    have e2 : (fun x0 x1 x2 => lp Where_E fuel Try.f84 [.raw] 1 Where.k 2 [] k (Where.s2 l last x0 x1 x2)) = Where.l2 fuel l last k := (funext fun x0 => (funext fun x1 => (funext fun x2 => ih x0 x1 x2)))
    rw [e2]
    rfl
theorem Where.eq (fuel : Nat) (l : List (Int × Int × Int × (Int × Int) × Bool × List (Int × List Int))) (last : Int) : (denF Where_E loopN fuel Try.f84 [.raw] [.d (.sl (.pair (.int .i64) (.pair (.int .i64) (.pair (.int .i64) (.pair (.pair (.int .i64) (.int .i64)) (.pair .bool (.sl (.pair (.int .i64) (.sl (.int .u8)))))))))) l, .fn (.func 85) [] [.ptr 0 0]] [.box [.d (.int .i64) last]] Where.k) = Where.f fuel l last := by
  have h : (denF Where_E loopN fuel Try.f84 [.raw] [.d (.sl (.pair (.int .i64) (.pair (.int .i64) (.pair (.int .i64) (.pair (.pair (.int .i64) (.int .i64)) (.pair .bool (.sl (.pair (.int .i64) (.sl (.int .u8)))))))))) l, .fn (.func 85) [] [.ptr 0 0]] [.box [.d (.int .i64) last]] Where.k) = Where.b l last (fun x0 x1 x2 => lp Where_E fuel Try.f84 [.raw] 1 Where.k 2 [] fuel (Where.s2 l last x0 x1 x2)) := by kernel_rfl
  rw [h]
  have e2 : (fun x0 x1 x2 => lp Where_E fuel Try.f84 [.raw] 1 Where.k 2 [] fuel (Where.s2 l last x0 x1 x2)) = Where.l2 fuel l last fuel := (funext fun x0 => (funext fun x1 => (funext fun x2 => Where.l2_eq fuel l last fuel x0 x1 x2)))
  rw [e2]
  rfl


noncomputable def Sorted_E : Env := ⟨th, gam [(84, s_where)], fun i => ⟨[], [], []⟩⟩
noncomputable def Sorted.k (rs : List AV) (os : List Den.Obj) : Option Bool :=
  match rs, os with
  | [.d .bool r0], [] => some r0
  | _, _ => none
noncomputable def Sorted.b (l : List (Int × Int × Int × (Int × Int) × Bool × List (Int × List Int))) : Option Bool :=
  (if (smallRecs l) then some (((whGo l (0 : Int) (-(1 : Int))).1 == ((((List.length l)) : Nat) : Int))) else none)
noncomputable def Sorted.f (fuel : Nat) (l : List (Int × Int × Int × (Int × Int) × Bool × List (Int × List Int))) : Option Bool := Sorted.b l
theorem Sorted.eq (fuel : Nat) (l : List (Int × Int × Int × (Int × Int) × Bool × List (Int × List Int))) : (denF Sorted_E loopN fuel Try.f52 [.raw] [.d (.sl (.pair (.int .i64) (.pair (.int .i64) (.pair (.int .i64) (.pair (.pair (.int .i64) (.int .i64)) (.pair .bool (.sl (.pair (.int .i64) (.sl (.int .u8)))))))))) l] [] Sorted.k) = Sorted.f fuel l := by
  kernel_rfl


noncomputable def MsgValid_E : Env := ⟨th, gam [(47, s_of), (48, s_sv), (49, s_within), (50, s_has), (51, s_lives), (52, s_sorted)], fun i => ⟨[], [], []⟩⟩
noncomputable def MsgValid.k (rs : List AV) (os : List Den.Obj) : Option Bool :=
  match rs, os with
  | [.d .bool r0], [] => some r0
  | _, _ => none
noncomputable def MsgValid.b (mkind : Int) (mfrom0 : Int) (minc : Int) (mlo : Int) (mhi : Int) (mseq : Int) (mtarget : Int) (mlife : Int) (mepoch : Int) (mbase : Int) (mrecs : List (Int × Int × Int × (Int × Int) × Bool × List (Int × List Int))) : Option Bool :=
  (if ((ByteArray.toList (ofF mkind).1) == (ByteArray.toList (⟨([]).toArray⟩ : ByteArray))) then some (false) else (if (decide (mfrom0 < (0 : Int))) then some (false) else (if (decide (mfrom0 > (4095 : Int))) then some (false) else (if (decide (minc < (0 : Int))) then some (false) else (if (decide (minc > (veil (281474976710655 : Int)))) then some (false) else (if (!(okS mlo mhi)) then some (false) else (if (mkind == (3 : Int)) then (if (!(withinF (hasF mkind (0 : Int)) mseq (0 : Int) (65535 : Int))) then some (false) else (if (!(withinF (hasF mkind (1 : Int)) mtarget (1 : Int) (3 : Int))) then some (false) else (if (!(livesF mkind (mfrom0, (minc, ((mlo, mhi), (mseq, (mtarget, (mlife, (mepoch, (mbase, mrecs)))))))).2.2.2.2.2.1 (mfrom0, (minc, ((mlo, mhi), (mseq, (mtarget, (mlife, (mepoch, (mbase, mrecs)))))))).2.2.2.2.2.2.1 (mfrom0, (minc, ((mlo, mhi), (mseq, (mtarget, (mlife, (mepoch, (mbase, mrecs)))))))).2.2.2.2.2.2.2.1)) then some (false) else (if (!(hasF mkind (4 : Int))) then some ((((((List.length mrecs)) : Nat) : Int) == (0 : Int))) else (if (decide (((((List.length mrecs)) : Nat) : Int) ≤ (255 : Int))) then (if (smallRecs mrecs) then some ((sortedF mrecs)) else none) else some (false)))))) else (if (!(withinF (hasF mkind (0 : Int)) mseq (0 : Int) (65535 : Int))) then some (false) else (if (!(withinF (hasF mkind (1 : Int)) mtarget (0 : Int) (4095 : Int))) then some (false) else (if (!(livesF mkind (mfrom0, (minc, ((mlo, mhi), (mseq, (mtarget, (mlife, (mepoch, (mbase, mrecs)))))))).2.2.2.2.2.1 (mfrom0, (minc, ((mlo, mhi), (mseq, (mtarget, (mlife, (mepoch, (mbase, mrecs)))))))).2.2.2.2.2.2.1 (mfrom0, (minc, ((mlo, mhi), (mseq, (mtarget, (mlife, (mepoch, (mbase, mrecs)))))))).2.2.2.2.2.2.2.1)) then some (false) else (if (!(hasF mkind (4 : Int))) then some ((((((List.length mrecs)) : Nat) : Int) == (0 : Int))) else (if (decide (((((List.length mrecs)) : Nat) : Int) ≤ (255 : Int))) then (if (smallRecs mrecs) then some ((sortedF mrecs)) else none) else some (false)))))))))))))
noncomputable def MsgValid.f (fuel : Nat) (mkind : Int) (mfrom0 : Int) (minc : Int) (mlo : Int) (mhi : Int) (mseq : Int) (mtarget : Int) (mlife : Int) (mepoch : Int) (mbase : Int) (mrecs : List (Int × Int × Int × (Int × Int) × Bool × List (Int × List Int))) : Option Bool := MsgValid.b mkind mfrom0 minc mlo mhi mseq mtarget mlife mepoch mbase mrecs
theorem MsgValid.eq (fuel : Nat) (mkind : Int) (mfrom0 : Int) (minc : Int) (mlo : Int) (mhi : Int) (mseq : Int) (mtarget : Int) (mlife : Int) (mepoch : Int) (mbase : Int) (mrecs : List (Int × Int × Int × (Int × Int) × Bool × List (Int × List Int))) : (denF MsgValid_E loopN fuel Try.f20 [.raw] [.agg [.d (.int .i64) mkind, .d (.int .i64) mfrom0, .d (.int .i64) minc, .d (.int .i64) mlo, .d (.int .i64) mhi, .d (.int .i64) mseq, .d (.int .i64) mtarget, .d (.int .i64) mlife, .d (.int .i64) mepoch, .d (.int .i64) mbase, .d (.sl (.pair (.int .i64) (.pair (.int .i64) (.pair (.int .i64) (.pair (.pair (.int .i64) (.int .i64)) (.pair .bool (.sl (.pair (.int .i64) (.sl (.int .u8)))))))))) mrecs]] [] MsgValid.k) = MsgValid.f fuel mkind mfrom0 minc mlo mhi mseq mtarget mlife mepoch mbase mrecs := by
  kernel_rfl


noncomputable def Few6_E : Env := ⟨th, gam [], fun i => if i = 5 then ⟨[0, 3, 4], [], []⟩ else ⟨[], [], []⟩⟩
noncomputable def Few6.k (rs : List AV) (os : List Den.Obj) : Option Bool :=
  match rs, os with
  | [.d .bool r0], [] => some r0
  | _, _ => none
noncomputable def Few6.s5 (b : List (Int × List Int)) (x0 : Int) (x1 : Int) : St := ⟨[.d (.sl (.pair (.int .i64) (.sl (.int .u8)))) (b), .dead, .dead, .d (.int .i64) x0, .d (.int .i64) x1, .dead, .dead, .dead, .dead, .dead, .dead, .dead, .dead, .dead, .dead, .dead, .dead, .dead, .dead, .dead, .dead, .dead, .dead, .dead], ofL [], 0⟩
noncomputable def Few6.b5 (b : List (Int × List Int)) (A5 : Int → Int → Option Bool) (x0 : Int) (x1 : Int) : Option Bool :=
  (if (decide (x1 < ((((List.length b)) : Nat) : Int))) then (match (idx b x1) with | none => none | some y2 => (if (decide ((Go.IntKind.wrap .i64 (x0 + ((((List.length y2.2)) : Nat) : Int))) > (5000 : Int))) then some (false) else A5 (Go.IntKind.wrap .i64 (x0 + ((((List.length y2.2)) : Nat) : Int))) (Go.IntKind.wrap .i64 (x1 + (1 : Int))))) else some (true))
noncomputable def Few6.l5 (fuel : Nat) (b : List (Int × List Int)) : Nat → Int → Int → Option Bool
  | 0, _, _ => none
  | k + 1, x0, x1 => Few6.b5 b (Few6.l5 fuel b k) x0 x1
noncomputable def Few6.b (b : List (Int × List Int)) (E5 : Int → Int → Option Bool) : Option Bool :=
  (if (decide (((((List.length b)) : Nat) : Int) > (40 : Int))) then some (false) else E5 (0 : Int) (0 : Int))
noncomputable def Few6.f (fuel : Nat) (b : List (Int × List Int)) : Option Bool := Few6.b b (Few6.l5 fuel b fuel)
theorem Few6.l5_eq (fuel : Nat) (b : List (Int × List Int)) : ∀ (k : Nat) (x0 : Int) (x1 : Int), lp Few6_E fuel Try.f81 [.raw] 0 Few6.k 5 [] k (Few6.s5 b x0 x1) = Few6.l5 fuel b k x0 x1 := by
  intro k
  induction k with
  | zero => intro x0 x1; rfl
  | succ k ih =>
    intro x0 x1
    have h : lp Few6_E fuel Try.f81 [.raw] 0 Few6.k 5 [] (k + 1) (Few6.s5 b x0 x1) = Few6.b5 b (fun x0 x1 => lp Few6_E fuel Try.f81 [.raw] 0 Few6.k 5 [] k (Few6.s5 b x0 x1)) x0 x1 := by kernel_rfl
    rw [h]
    have e5 : (fun x0 x1 => lp Few6_E fuel Try.f81 [.raw] 0 Few6.k 5 [] k (Few6.s5 b x0 x1)) = Few6.l5 fuel b k := (funext fun x0 => (funext fun x1 => ih x0 x1))
    rw [e5]
    rfl
theorem Few6.eq (fuel : Nat) (b : List (Int × List Int)) : (denF Few6_E loopN fuel Try.f81 [.raw] [.d (.sl (.pair (.int .i64) (.sl (.int .u8)))) b] [] Few6.k) = Few6.f fuel b := by
  have h : (denF Few6_E loopN fuel Try.f81 [.raw] [.d (.sl (.pair (.int .i64) (.sl (.int .u8)))) b] [] Few6.k) = Few6.b b (fun x0 x1 => lp Few6_E fuel Try.f81 [.raw] 0 Few6.k 5 [] fuel (Few6.s5 b x0 x1)) := by kernel_rfl
  rw [h]
  have e5 : (fun x0 x1 => lp Few6_E fuel Try.f81 [.raw] 0 Few6.k 5 [] fuel (Few6.s5 b x0 x1)) = Few6.l5 fuel b fuel := (funext fun x0 => (funext fun x1 => Few6.l5_eq fuel b fuel x0 x1))
  rw [e5]
  rfl


noncomputable def Few8_E : Env := ⟨th, gam [(81, s_few6)], fun i => if i = 4 then ⟨[0, 3], [], []⟩ else ⟨[], [], []⟩⟩
noncomputable def Few8.k (rs : List AV) (os : List Den.Obj) : Option Bool :=
  match rs, os with
  | [.d .bool r0], [] => some r0
  | _, _ => none
noncomputable def Few8.s4 (l : List (Int × Int × Int × (Int × Int) × Bool × List (Int × List Int))) (x0 : Int) : St := ⟨[.d (.sl (.pair (.int .i64) (.pair (.int .i64) (.pair (.int .i64) (.pair (.pair (.int .i64) (.int .i64)) (.pair .bool (.sl (.pair (.int .i64) (.sl (.int .u8)))))))))) (l), .dead, .dead, .d (.int .i64) x0, .dead, .dead, .dead, .dead, .dead, .dead, .dead, .dead, .dead, .dead, .dead, .dead, .dead, .dead, .dead, .dead], ofL [], 0⟩
noncomputable def Few8.b4 (l : List (Int × Int × Int × (Int × Int) × Bool × List (Int × List Int))) (A4 : Int → Option Bool) (x0 : Int) : Option Bool :=
  (if (decide (x0 < ((((List.length l)) : Nat) : Int))) then (match (idx l x0) with | none => none | some y1 => (if (smallBag y1.2.2.2.2.2) then (if (!(few6 y1.2.2.2.2.2)) then some (false) else A4 (Go.IntKind.wrap .i64 (x0 + (1 : Int)))) else none)) else some (true))
noncomputable def Few8.l4 (fuel : Nat) (l : List (Int × Int × Int × (Int × Int) × Bool × List (Int × List Int))) : Nat → Int → Option Bool
  | 0, _ => none
  | k + 1, x0 => Few8.b4 l (Few8.l4 fuel l k) x0
noncomputable def Few8.b (l : List (Int × Int × Int × (Int × Int) × Bool × List (Int × List Int))) (E4 : Int → Option Bool) : Option Bool :=
  (if (decide (((((List.length l)) : Nat) : Int) > (20 : Int))) then some (false) else E4 (0 : Int))
noncomputable def Few8.f (fuel : Nat) (l : List (Int × Int × Int × (Int × Int) × Bool × List (Int × List Int))) : Option Bool := Few8.b l (Few8.l4 fuel l fuel)
theorem Few8.l4_eq (fuel : Nat) (l : List (Int × Int × Int × (Int × Int) × Bool × List (Int × List Int))) : ∀ (k : Nat) (x0 : Int), lp Few8_E fuel Try.f41 [.raw] 0 Few8.k 4 [] k (Few8.s4 l x0) = Few8.l4 fuel l k x0 := by
  intro k
  induction k with
  | zero => intro x0; rfl
  | succ k ih =>
    intro x0
    have h : lp Few8_E fuel Try.f41 [.raw] 0 Few8.k 4 [] (k + 1) (Few8.s4 l x0) = Few8.b4 l (fun x0 => lp Few8_E fuel Try.f41 [.raw] 0 Few8.k 4 [] k (Few8.s4 l x0)) x0 := by kernel_rfl
    rw [h]
    have e4 : (fun x0 => lp Few8_E fuel Try.f41 [.raw] 0 Few8.k 4 [] k (Few8.s4 l x0)) = Few8.l4 fuel l k := (funext fun x0 => ih x0)
    rw [e4]
    rfl
theorem Few8.eq (fuel : Nat) (l : List (Int × Int × Int × (Int × Int) × Bool × List (Int × List Int))) : (denF Few8_E loopN fuel Try.f41 [.raw] [.d (.sl (.pair (.int .i64) (.pair (.int .i64) (.pair (.int .i64) (.pair (.pair (.int .i64) (.int .i64)) (.pair .bool (.sl (.pair (.int .i64) (.sl (.int .u8)))))))))) l] [] Few8.k) = Few8.f fuel l := by
  have h : (denF Few8_E loopN fuel Try.f41 [.raw] [.d (.sl (.pair (.int .i64) (.pair (.int .i64) (.pair (.int .i64) (.pair (.pair (.int .i64) (.int .i64)) (.pair .bool (.sl (.pair (.int .i64) (.sl (.int .u8)))))))))) l] [] Few8.k) = Few8.b l (fun x0 => lp Few8_E fuel Try.f41 [.raw] 0 Few8.k 4 [] fuel (Few8.s4 l x0)) := by kernel_rfl
  rw [h]
  have e4 : (fun x0 => lp Few8_E fuel Try.f41 [.raw] 0 Few8.k 4 [] fuel (Few8.s4 l x0)) = Few8.l4 fuel l fuel := (funext fun x0 => Few8.l4_eq fuel l fuel x0)
  rw [e4]
  rfl


noncomputable def Few10_E : Env := ⟨th, gam [(41, s_few8)], fun i => ⟨[], [], []⟩⟩
noncomputable def Few10.k (rs : List AV) (os : List Den.Obj) : Option Bool :=
  match rs, os with
  | [.d .bool r0], [] => some r0
  | _, _ => none
noncomputable def Few10.b (mkind : Int) (mfrom0 : Int) (minc : Int) (mlo : Int) (mhi : Int) (mseq : Int) (mtarget : Int) (mlife : Int) (mepoch : Int) (mbase : Int) (mrecs : List (Int × Int × Int × (Int × Int) × Bool × List (Int × List Int))) : Option Bool :=
  (if (smallRecs mrecs) then some ((few8 mrecs)) else none)
noncomputable def Few10.f (fuel : Nat) (mkind : Int) (mfrom0 : Int) (minc : Int) (mlo : Int) (mhi : Int) (mseq : Int) (mtarget : Int) (mlife : Int) (mepoch : Int) (mbase : Int) (mrecs : List (Int × Int × Int × (Int × Int) × Bool × List (Int × List Int))) : Option Bool := Few10.b mkind mfrom0 minc mlo mhi mseq mtarget mlife mepoch mbase mrecs
theorem Few10.eq (fuel : Nat) (mkind : Int) (mfrom0 : Int) (minc : Int) (mlo : Int) (mhi : Int) (mseq : Int) (mtarget : Int) (mlife : Int) (mepoch : Int) (mbase : Int) (mrecs : List (Int × Int × Int × (Int × Int) × Bool × List (Int × List Int))) : (denF Few10_E loopN fuel Try.f15 [.raw] [.agg [.d (.int .i64) mkind, .d (.int .i64) mfrom0, .d (.int .i64) minc, .d (.int .i64) mlo, .d (.int .i64) mhi, .d (.int .i64) mseq, .d (.int .i64) mtarget, .d (.int .i64) mlife, .d (.int .i64) mepoch, .d (.int .i64) mbase, .d (.sl (.pair (.int .i64) (.pair (.int .i64) (.pair (.int .i64) (.pair (.pair (.int .i64) (.int .i64)) (.pair .bool (.sl (.pair (.int .i64) (.sl (.int .u8)))))))))) mrecs]] [] Few10.k) = Few10.f fuel mkind mfrom0 minc mlo mhi mseq mtarget mlife mepoch mbase mrecs := by
  kernel_rfl


noncomputable def Fits1_E : Env := ⟨th, gam [(20, s_valid)], fun i => if i = 4 then ⟨[19, 20, 21], [], []⟩ else ⟨[], [], []⟩⟩
noncomputable def Fits1.k (rs : List AV) (os : List Den.Obj) : Option Bool :=
  match rs, os with
  | [.d .bool r0], [] => some r0
  | _, _ => none
noncomputable def Fits1.s4 (mkind : Int) (mfrom0 : Int) (minc : Int) (mlo : Int) (mhi : Int) (mseq : Int) (mtarget : Int) (mlife : Int) (mepoch : Int) (mbase : Int) (mrecs : List (Int × Int × Int × (Int × Int) × Bool × List (Int × List Int))) (x0 : Int) (x1 : Int) : St := ⟨[.dead, .dead, .dead, .dead, .dead, .dead, .dead, .dead, .dead, .dead, .dead, .dead, .dead, .dead, .dead, .dead, .dead, .dead, .dead, .d (.sl (.pair (.int .i64) (.pair (.int .i64) (.pair (.int .i64) (.pair (.pair (.int .i64) (.int .i64)) (.pair .bool (.sl (.pair (.int .i64) (.sl (.int .u8)))))))))) (mrecs), .d (.int .i64) x0, .d (.int .i64) x1, .dead, .dead, .dead, .dead, .dead, .dead, .dead, .dead, .dead, .dead, .dead, .dead, .dead], ofL [], 0⟩
noncomputable def Fits1.b4 (mkind : Int) (mfrom0 : Int) (minc : Int) (mlo : Int) (mhi : Int) (mseq : Int) (mtarget : Int) (mlife : Int) (mepoch : Int) (mbase : Int) (mrecs : List (Int × Int × Int × (Int × Int) × Bool × List (Int × List Int))) (A4 : Int → Int → Option Bool) (x0 : Int) (x1 : Int) : Option Bool :=
  (if (decide (x1 < x0)) then (match (idx mrecs x1) with | none => none | some y2 => (if (decide (y2.2.1 > (65535 : Int))) then some (false) else (if (decide (((((List.length y2.2.2.2.2.2)) : Nat) : Int) > (0 : Int))) then some (false) else A4 x0 (Go.IntKind.wrap .i64 (x1 + (1 : Int)))))) else some (true))
noncomputable def Fits1.l4 (fuel : Nat) (mkind : Int) (mfrom0 : Int) (minc : Int) (mlo : Int) (mhi : Int) (mseq : Int) (mtarget : Int) (mlife : Int) (mepoch : Int) (mbase : Int) (mrecs : List (Int × Int × Int × (Int × Int) × Bool × List (Int × List Int))) : Nat → Int → Int → Option Bool
  | 0, _, _ => none
  | k + 1, x0, x1 => Fits1.b4 mkind mfrom0 minc mlo mhi mseq mtarget mlife mepoch mbase mrecs (Fits1.l4 fuel mkind mfrom0 minc mlo mhi mseq mtarget mlife mepoch mbase mrecs k) x0 x1
noncomputable def Fits1.b (mkind : Int) (mfrom0 : Int) (minc : Int) (mlo : Int) (mhi : Int) (mseq : Int) (mtarget : Int) (mlife : Int) (mepoch : Int) (mbase : Int) (mrecs : List (Int × Int × Int × (Int × Int) × Bool × List (Int × List Int))) (E4 : Int → Int → Option Bool) : Option Bool :=
  (if (smallRecs (mfrom0, (minc, ((mlo, mhi), (mseq, (mtarget, (mlife, (mepoch, (mbase, mrecs)))))))).2.2.2.2.2.2.2.2) then (if (!(validF mkind (mfrom0, (minc, ((mlo, mhi), (mseq, (mtarget, (mlife, (mepoch, (mbase, mrecs)))))))).1 (mfrom0, (minc, ((mlo, mhi), (mseq, (mtarget, (mlife, (mepoch, (mbase, mrecs)))))))).2.1 (mfrom0, (minc, ((mlo, mhi), (mseq, (mtarget, (mlife, (mepoch, (mbase, mrecs)))))))).2.2.1.1 (mfrom0, (minc, ((mlo, mhi), (mseq, (mtarget, (mlife, (mepoch, (mbase, mrecs)))))))).2.2.1.2 (mfrom0, (minc, ((mlo, mhi), (mseq, (mtarget, (mlife, (mepoch, (mbase, mrecs)))))))).2.2.2.1 (mfrom0, (minc, ((mlo, mhi), (mseq, (mtarget, (mlife, (mepoch, (mbase, mrecs)))))))).2.2.2.2.1 (mfrom0, (minc, ((mlo, mhi), (mseq, (mtarget, (mlife, (mepoch, (mbase, mrecs)))))))).2.2.2.2.2.1 (mfrom0, (minc, ((mlo, mhi), (mseq, (mtarget, (mlife, (mepoch, (mbase, mrecs)))))))).2.2.2.2.2.2.1 (mfrom0, (minc, ((mlo, mhi), (mseq, (mtarget, (mlife, (mepoch, (mbase, mrecs)))))))).2.2.2.2.2.2.2.1 (mfrom0, (minc, ((mlo, mhi), (mseq, (mtarget, (mlife, (mepoch, (mbase, mrecs)))))))).2.2.2.2.2.2.2.2)) then some (false) else (if (mkind == (9 : Int)) then some (false) else (if (mepoch != (0 : Int)) then some (false) else E4 ((((List.length mrecs)) : Nat) : Int) (0 : Int)))) else none)
noncomputable def Fits1.f (fuel : Nat) (mkind : Int) (mfrom0 : Int) (minc : Int) (mlo : Int) (mhi : Int) (mseq : Int) (mtarget : Int) (mlife : Int) (mepoch : Int) (mbase : Int) (mrecs : List (Int × Int × Int × (Int × Int) × Bool × List (Int × List Int))) : Option Bool := Fits1.b mkind mfrom0 minc mlo mhi mseq mtarget mlife mepoch mbase mrecs (Fits1.l4 fuel mkind mfrom0 minc mlo mhi mseq mtarget mlife mepoch mbase mrecs fuel)
theorem Fits1.l4_eq (fuel : Nat) (mkind : Int) (mfrom0 : Int) (minc : Int) (mlo : Int) (mhi : Int) (mseq : Int) (mtarget : Int) (mlife : Int) (mepoch : Int) (mbase : Int) (mrecs : List (Int × Int × Int × (Int × Int) × Bool × List (Int × List Int))) : ∀ (k : Nat) (x0 : Int) (x1 : Int), lp Fits1_E fuel Try.f18 [.raw] 0 Fits1.k 4 [] k (Fits1.s4 mkind mfrom0 minc mlo mhi mseq mtarget mlife mepoch mbase mrecs x0 x1) = Fits1.l4 fuel mkind mfrom0 minc mlo mhi mseq mtarget mlife mepoch mbase mrecs k x0 x1 := by
  intro k
  induction k with
  | zero => intro x0 x1; rfl
  | succ k ih =>
    intro x0 x1
    have h : lp Fits1_E fuel Try.f18 [.raw] 0 Fits1.k 4 [] (k + 1) (Fits1.s4 mkind mfrom0 minc mlo mhi mseq mtarget mlife mepoch mbase mrecs x0 x1) = Fits1.b4 mkind mfrom0 minc mlo mhi mseq mtarget mlife mepoch mbase mrecs (fun x0 x1 => lp Fits1_E fuel Try.f18 [.raw] 0 Fits1.k 4 [] k (Fits1.s4 mkind mfrom0 minc mlo mhi mseq mtarget mlife mepoch mbase mrecs x0 x1)) x0 x1 := by kernel_rfl
    rw [h]
    have e4 : (fun x0 x1 => lp Fits1_E fuel Try.f18 [.raw] 0 Fits1.k 4 [] k (Fits1.s4 mkind mfrom0 minc mlo mhi mseq mtarget mlife mepoch mbase mrecs x0 x1)) = Fits1.l4 fuel mkind mfrom0 minc mlo mhi mseq mtarget mlife mepoch mbase mrecs k := (funext fun x0 => (funext fun x1 => ih x0 x1))
    rw [e4]
    rfl
theorem Fits1.eq (fuel : Nat) (mkind : Int) (mfrom0 : Int) (minc : Int) (mlo : Int) (mhi : Int) (mseq : Int) (mtarget : Int) (mlife : Int) (mepoch : Int) (mbase : Int) (mrecs : List (Int × Int × Int × (Int × Int) × Bool × List (Int × List Int))) : (denF Fits1_E loopN fuel Try.f18 [.raw] [.agg [.d (.int .i64) mkind, .d (.int .i64) mfrom0, .d (.int .i64) minc, .d (.int .i64) mlo, .d (.int .i64) mhi, .d (.int .i64) mseq, .d (.int .i64) mtarget, .d (.int .i64) mlife, .d (.int .i64) mepoch, .d (.int .i64) mbase, .d (.sl (.pair (.int .i64) (.pair (.int .i64) (.pair (.int .i64) (.pair (.pair (.int .i64) (.int .i64)) (.pair .bool (.sl (.pair (.int .i64) (.sl (.int .u8)))))))))) mrecs]] [] Fits1.k) = Fits1.f fuel mkind mfrom0 minc mlo mhi mseq mtarget mlife mepoch mbase mrecs := by
  have h : (denF Fits1_E loopN fuel Try.f18 [.raw] [.agg [.d (.int .i64) mkind, .d (.int .i64) mfrom0, .d (.int .i64) minc, .d (.int .i64) mlo, .d (.int .i64) mhi, .d (.int .i64) mseq, .d (.int .i64) mtarget, .d (.int .i64) mlife, .d (.int .i64) mepoch, .d (.int .i64) mbase, .d (.sl (.pair (.int .i64) (.pair (.int .i64) (.pair (.int .i64) (.pair (.pair (.int .i64) (.int .i64)) (.pair .bool (.sl (.pair (.int .i64) (.sl (.int .u8)))))))))) mrecs]] [] Fits1.k) = Fits1.b mkind mfrom0 minc mlo mhi mseq mtarget mlife mepoch mbase mrecs (fun x0 x1 => lp Fits1_E fuel Try.f18 [.raw] 0 Fits1.k 4 [] fuel (Fits1.s4 mkind mfrom0 minc mlo mhi mseq mtarget mlife mepoch mbase mrecs x0 x1)) := by kernel_rfl
  rw [h]
  have e4 : (fun x0 x1 => lp Fits1_E fuel Try.f18 [.raw] 0 Fits1.k 4 [] fuel (Fits1.s4 mkind mfrom0 minc mlo mhi mseq mtarget mlife mepoch mbase mrecs x0 x1)) = Fits1.l4 fuel mkind mfrom0 minc mlo mhi mseq mtarget mlife mepoch mbase mrecs fuel := (funext fun x0 => (funext fun x1 => Fits1.l4_eq fuel mkind mfrom0 minc mlo mhi mseq mtarget mlife mepoch mbase mrecs fuel x0 x1))
  rw [e4]
  rfl


noncomputable def FitsL_E : Env := ⟨th, gam [(20, s_valid)], fun i => if i = 4 then ⟨[1, 3], [], []⟩ else ⟨[], [], []⟩⟩
noncomputable def FitsL.k (rs : List AV) (os : List Den.Obj) : Option Bool :=
  match rs, os with
  | [.d .bool r0], [] => some r0
  | _, _ => none
noncomputable def FitsL.s4 (mkind : Int) (mfrom0 : Int) (minc : Int) (mlo : Int) (mhi : Int) (mseq : Int) (mtarget : Int) (mlife : Int) (mepoch : Int) (mbase : Int) (mrecs : List (Int × Int × Int × (Int × Int) × Bool × List (Int × List Int))) (x0 : Int) : St := ⟨[.dead, .ptr 64 0, .dead, .d (.int .i64) x0, .dead, .dead, .dead, .dead, .dead, .dead, .dead, .dead, .dead, .dead, .dead, .dead, .dead, .dead, .dead, .dead, .dead, .dead, .dead, .dead, .dead, .dead, .dead, .dead, .dead, .dead, .dead, .dead, .dead, .dead, .dead, .dead, .dead, .dead, .dead, .dead, .dead, .dead, .dead, .dead, .dead, .dead, .dead, .dead, .dead, .dead, .dead], ofL [(64, .box [.d (.int .i64) (mkind), .d (.int .i64) (mfrom0), .d (.int .i64) (minc), .d (.int .i64) (mlo), .d (.int .i64) (mhi), .d (.int .i64) (mseq), .d (.int .i64) (mtarget), .d (.int .i64) (mlife), .d (.int .i64) (mepoch), .d (.int .i64) (mbase), .d (.sl (.pair (.int .i64) (.pair (.int .i64) (.pair (.int .i64) (.pair (.pair (.int .i64) (.int .i64)) (.pair .bool (.sl (.pair (.int .i64) (.sl (.int .u8)))))))))) (mrecs)])], 0⟩
noncomputable def FitsL.b4 (mkind : Int) (mfrom0 : Int) (minc : Int) (mlo : Int) (mhi : Int) (mseq : Int) (mtarget : Int) (mlife : Int) (mepoch : Int) (mbase : Int) (mrecs : List (Int × Int × Int × (Int × Int) × Bool × List (Int × List Int))) (A4 : Int → Option Bool) (x0 : Int) : Option Bool :=
  (if (decide (x0 < ((((List.length mrecs)) : Nat) : Int))) then (match (idx mrecs x0) with | none => none | some y1 => (if (decide (y1.2.1 > (65535 : Int))) then some (false) else (match (idx mrecs x0) with | none => none | some y2 => (if (decide (((((List.length y2.2.2.2.2.2)) : Nat) : Int) > (0 : Int))) then some (false) else A4 (Go.IntKind.wrap .i64 (x0 + (1 : Int))))))) else some (true))
noncomputable def FitsL.l4 (fuel : Nat) (mkind : Int) (mfrom0 : Int) (minc : Int) (mlo : Int) (mhi : Int) (mseq : Int) (mtarget : Int) (mlife : Int) (mepoch : Int) (mbase : Int) (mrecs : List (Int × Int × Int × (Int × Int) × Bool × List (Int × List Int))) : Nat → Int → Option Bool
  | 0, _ => none
  | k + 1, x0 => FitsL.b4 mkind mfrom0 minc mlo mhi mseq mtarget mlife mepoch mbase mrecs (FitsL.l4 fuel mkind mfrom0 minc mlo mhi mseq mtarget mlife mepoch mbase mrecs k) x0
noncomputable def FitsL.b (mkind : Int) (mfrom0 : Int) (minc : Int) (mlo : Int) (mhi : Int) (mseq : Int) (mtarget : Int) (mlife : Int) (mepoch : Int) (mbase : Int) (mrecs : List (Int × Int × Int × (Int × Int) × Bool × List (Int × List Int))) (E4 : Int → Option Bool) : Option Bool :=
  (if (smallRecs (mfrom0, (minc, ((mlo, mhi), (mseq, (mtarget, (mlife, (mepoch, (mbase, mrecs)))))))).2.2.2.2.2.2.2.2) then (if (!(validF mkind (mfrom0, (minc, ((mlo, mhi), (mseq, (mtarget, (mlife, (mepoch, (mbase, mrecs)))))))).1 (mfrom0, (minc, ((mlo, mhi), (mseq, (mtarget, (mlife, (mepoch, (mbase, mrecs)))))))).2.1 (mfrom0, (minc, ((mlo, mhi), (mseq, (mtarget, (mlife, (mepoch, (mbase, mrecs)))))))).2.2.1.1 (mfrom0, (minc, ((mlo, mhi), (mseq, (mtarget, (mlife, (mepoch, (mbase, mrecs)))))))).2.2.1.2 (mfrom0, (minc, ((mlo, mhi), (mseq, (mtarget, (mlife, (mepoch, (mbase, mrecs)))))))).2.2.2.1 (mfrom0, (minc, ((mlo, mhi), (mseq, (mtarget, (mlife, (mepoch, (mbase, mrecs)))))))).2.2.2.2.1 (mfrom0, (minc, ((mlo, mhi), (mseq, (mtarget, (mlife, (mepoch, (mbase, mrecs)))))))).2.2.2.2.2.1 (mfrom0, (minc, ((mlo, mhi), (mseq, (mtarget, (mlife, (mepoch, (mbase, mrecs)))))))).2.2.2.2.2.2.1 (mfrom0, (minc, ((mlo, mhi), (mseq, (mtarget, (mlife, (mepoch, (mbase, mrecs)))))))).2.2.2.2.2.2.2.1 (mfrom0, (minc, ((mlo, mhi), (mseq, (mtarget, (mlife, (mepoch, (mbase, mrecs)))))))).2.2.2.2.2.2.2.2)) then some (false) else (if (mkind == (9 : Int)) then some (false) else (if (mlife != (0 : Int)) then some (false) else (if (mepoch != (0 : Int)) then some (false) else (if (mbase != (0 : Int)) then some (false) else E4 (0 : Int)))))) else none)
noncomputable def FitsL.f (fuel : Nat) (mkind : Int) (mfrom0 : Int) (minc : Int) (mlo : Int) (mhi : Int) (mseq : Int) (mtarget : Int) (mlife : Int) (mepoch : Int) (mbase : Int) (mrecs : List (Int × Int × Int × (Int × Int) × Bool × List (Int × List Int))) : Option Bool := FitsL.b mkind mfrom0 minc mlo mhi mseq mtarget mlife mepoch mbase mrecs (FitsL.l4 fuel mkind mfrom0 minc mlo mhi mseq mtarget mlife mepoch mbase mrecs fuel)
theorem FitsL.l4_eq (fuel : Nat) (mkind : Int) (mfrom0 : Int) (minc : Int) (mlo : Int) (mhi : Int) (mseq : Int) (mtarget : Int) (mlife : Int) (mepoch : Int) (mbase : Int) (mrecs : List (Int × Int × Int × (Int × Int) × Bool × List (Int × List Int))) : ∀ (k : Nat) (x0 : Int), lp FitsL_E fuel Try.f19 [.raw] 0 FitsL.k 4 [] k (FitsL.s4 mkind mfrom0 minc mlo mhi mseq mtarget mlife mepoch mbase mrecs x0) = FitsL.l4 fuel mkind mfrom0 minc mlo mhi mseq mtarget mlife mepoch mbase mrecs k x0 := by
  intro k
  induction k with
  | zero => intro x0; rfl
  | succ k ih =>
    intro x0
    have h : lp FitsL_E fuel Try.f19 [.raw] 0 FitsL.k 4 [] (k + 1) (FitsL.s4 mkind mfrom0 minc mlo mhi mseq mtarget mlife mepoch mbase mrecs x0) = FitsL.b4 mkind mfrom0 minc mlo mhi mseq mtarget mlife mepoch mbase mrecs (fun x0 => lp FitsL_E fuel Try.f19 [.raw] 0 FitsL.k 4 [] k (FitsL.s4 mkind mfrom0 minc mlo mhi mseq mtarget mlife mepoch mbase mrecs x0)) x0 := by kernel_rfl
    rw [h]
    have e4 : (fun x0 => lp FitsL_E fuel Try.f19 [.raw] 0 FitsL.k 4 [] k (FitsL.s4 mkind mfrom0 minc mlo mhi mseq mtarget mlife mepoch mbase mrecs x0)) = FitsL.l4 fuel mkind mfrom0 minc mlo mhi mseq mtarget mlife mepoch mbase mrecs k := (funext fun x0 => ih x0)
    rw [e4]
    rfl
theorem FitsL.eq (fuel : Nat) (mkind : Int) (mfrom0 : Int) (minc : Int) (mlo : Int) (mhi : Int) (mseq : Int) (mtarget : Int) (mlife : Int) (mepoch : Int) (mbase : Int) (mrecs : List (Int × Int × Int × (Int × Int) × Bool × List (Int × List Int))) : (denF FitsL_E loopN fuel Try.f19 [.raw] [.agg [.d (.int .i64) mkind, .d (.int .i64) mfrom0, .d (.int .i64) minc, .d (.int .i64) mlo, .d (.int .i64) mhi, .d (.int .i64) mseq, .d (.int .i64) mtarget, .d (.int .i64) mlife, .d (.int .i64) mepoch, .d (.int .i64) mbase, .d (.sl (.pair (.int .i64) (.pair (.int .i64) (.pair (.int .i64) (.pair (.pair (.int .i64) (.int .i64)) (.pair .bool (.sl (.pair (.int .i64) (.sl (.int .u8)))))))))) mrecs]] [] FitsL.k) = FitsL.f fuel mkind mfrom0 minc mlo mhi mseq mtarget mlife mepoch mbase mrecs := by
  have h : (denF FitsL_E loopN fuel Try.f19 [.raw] [.agg [.d (.int .i64) mkind, .d (.int .i64) mfrom0, .d (.int .i64) minc, .d (.int .i64) mlo, .d (.int .i64) mhi, .d (.int .i64) mseq, .d (.int .i64) mtarget, .d (.int .i64) mlife, .d (.int .i64) mepoch, .d (.int .i64) mbase, .d (.sl (.pair (.int .i64) (.pair (.int .i64) (.pair (.int .i64) (.pair (.pair (.int .i64) (.int .i64)) (.pair .bool (.sl (.pair (.int .i64) (.sl (.int .u8)))))))))) mrecs]] [] FitsL.k) = FitsL.b mkind mfrom0 minc mlo mhi mseq mtarget mlife mepoch mbase mrecs (fun x0 => lp FitsL_E fuel Try.f19 [.raw] 0 FitsL.k 4 [] fuel (FitsL.s4 mkind mfrom0 minc mlo mhi mseq mtarget mlife mepoch mbase mrecs x0)) := by kernel_rfl
  rw [h]
  have e4 : (fun x0 => lp FitsL_E fuel Try.f19 [.raw] 0 FitsL.k 4 [] fuel (FitsL.s4 mkind mfrom0 minc mlo mhi mseq mtarget mlife mepoch mbase mrecs x0)) = FitsL.l4 fuel mkind mfrom0 minc mlo mhi mseq mtarget mlife mepoch mbase mrecs fuel := (funext fun x0 => FitsL.l4_eq fuel mkind mfrom0 minc mlo mhi mseq mtarget mlife mepoch mbase mrecs fuel x0)
  rw [e4]
  rfl


noncomputable def State_E : Env := ⟨th, gam [], fun i => ⟨[], [], []⟩⟩
noncomputable def State.k (rs : List AV) (os : List Den.Obj) : Option Int :=
  match rs, os with
  | [.d (.int .i64) r0], [] => some r0
  | _, _ => none
noncomputable def State.b (rid : Int) (rinc : Int) (rst : Int) (rlo : Int) (rhi : Int) (rcut : Bool) (rbag : List (Int × List Int)) : Option Int :=
  (if rcut then some ((bits Go.BinOp.or .i64 (bits Go.BinOp.or .i64 (bits Go.BinOp.or .i64 rst (Go.IntKind.wrap .i64 (rlo * ((2 : Int) ^ (Min.min (Int.toNat (2 : Int)) (Go.IntKind.bits .i64)))))) (Go.IntKind.wrap .i64 (rhi * ((2 : Int) ^ (Min.min (Int.toNat (4 : Int)) (Go.IntKind.bits .i64)))))) (64 : Int))) else some ((bits Go.BinOp.or .i64 (bits Go.BinOp.or .i64 rst (Go.IntKind.wrap .i64 (rlo * ((2 : Int) ^ (Min.min (Int.toNat (2 : Int)) (Go.IntKind.bits .i64)))))) (Go.IntKind.wrap .i64 (rhi * ((2 : Int) ^ (Min.min (Int.toNat (4 : Int)) (Go.IntKind.bits .i64))))))))
noncomputable def State.f (fuel : Nat) (rid : Int) (rinc : Int) (rst : Int) (rlo : Int) (rhi : Int) (rcut : Bool) (rbag : List (Int × List Int)) : Option Int := State.b rid rinc rst rlo rhi rcut rbag
theorem State.eq (fuel : Nat) (rid : Int) (rinc : Int) (rst : Int) (rlo : Int) (rhi : Int) (rcut : Bool) (rbag : List (Int × List Int)) : (denF State_E loopN fuel Try.f45 [.raw] [.agg [.d (.int .i64) rid, .d (.int .i64) rinc, .d (.int .i64) rst, .d (.int .i64) rlo, .d (.int .i64) rhi, .d .bool rcut, .d (.sl (.pair (.int .i64) (.sl (.int .u8)))) rbag]] [] State.k) = State.f fuel rid rinc rst rlo rhi rcut rbag := by
  kernel_rfl


end Go.Proofs.Ytlmljpmohljefaa

set_option linter.unusedVariables false
set_option linter.unusedSimpArgs false
namespace Go.Proofs.Ytlmljpmohljefaa
open Go.Den
theorem MsgHas.pure (k p : Int) : MsgHas.f 0 k p = some (hasF k p) := by
  unfold MsgHas.f MsgHas.b hasF
  by_cases h1 : p ≥ 0
  · by_cases h2 : p ≤ 4
    · rw [if_pos (by simpa using h1), if_pos (by simpa using h2), if_neg (by omega), if_pos (by simp; omega)]
    · simp [h1, h2]
  · simp [h1]
theorem MsgLives.pure (kind from0 inc lo hi seq target life epoch base : Int) (recs : List (Int × Int × Int × (Int × Int) × Bool × List (Int × List Int))) : MsgLives.f 0 kind from0 inc lo hi seq target life epoch base recs = some (livesF kind life epoch base) := by
  unfold MsgLives.f MsgLives.b livesF
  rw [veil_eq]
  cases withinF (hasF kind 2) life 0 281474976710655
  · simp
  cases withinF (hasF kind 2) epoch 0 65535
  · simp
  simp only [Bool.not_true, Bool.false_eq_true, if_false, Bool.or_self]
  by_cases h1 : epoch = 0 <;> by_cases h2 : life = 0 <;> by_cases h3 : kind = 9 <;> by_cases h4 : base = 0 <;> cases hasF kind 3 <;> by_cases h5 : base > 0 <;> simp [h1, h2, h3, h4, h5]
theorem Srt1.pure (id inc st lo hi : Int) (cut : Bool) (bag : List (Int × List Int)) (last : Int) (hl : smallBag bag = true) : Srt1.f 0 id inc st lo hi cut bag last = some (!recOk id inc st lo hi cut bag || decide (id ≤ last), id) := by
  unfold Srt1.f Srt1.b
  dsimp only
  rw [hl]
  cases recOk id inc st lo hi cut bag <;> simp
theorem smallRecs_iff (l : List (Int × Int × Int × (Int × Int) × Bool × List (Int × List Int))) : smallRecs l = true ↔ l.length < 281474976710656 ∧ ∀ r ∈ l, smallBag r.2.2.2.2.2 = true := by
  unfold smallRecs
  simp [List.all_eq_true, smallRec]
theorem Where.loop (fuel : Nat) (l : List (Int × Int × Int × (Int × Int) × Bool × List (Int × List Int))) (l0 : Int) (hl : smallRecs l = true) : ∀ (k i : Nat) (last : Int), i ≤ l.length → l.length - i < k →
    Where.l2 fuel l l0 k (l.length : Int) (i : Int) last = some (whGo (l.drop i) (i : Int) last) := by
  obtain ⟨hb, hx⟩ := (smallRecs_iff l).1 hl
  intro k
  induction k with
  | zero => intro i last h1 h2; omega
  | succ k ih =>
    intro i last h1 h2
    rw [Where.l2]
    unfold Where.b2
    by_cases hi : i < l.length
    · rw [if_pos (by simp; omega), idx_at, List.getElem?_eq_getElem hi]
      dsimp only
      rw [List.drop_eq_getElem_cons hi, hx l[i] (List.getElem_mem hi)]
      unfold whGo recOkT
      rw [if_pos rfl, wrap_small ((i : Int) + 1) (by omega) (by omega)]
      split
      · rfl
      · exact ih (i + 1) _ (by omega) (by omega)
    · rw [if_neg (by simp; omega)]
      have : i = l.length := by omega
      subst this
      rw [List.drop_of_length_le (by omega)]
      rfl
theorem Where.pure (l : List (Int × Int × Int × (Int × Int) × Bool × List (Int × List Int))) (last : Int) (hl : smallRecs l = true) : Where.f (l.length + 1) l last = some ((whGo l 0 last).1, (whGo l 0 last).2) := by
  unfold Where.f Where.b
  exact Where.loop _ l last hl _ 0 last (by omega) (by omega)
theorem Sorted.pure (l : List (Int × Int × Int × (Int × Int) × Bool × List (Int × List Int))) (hl : smallRecs l = true) : Sorted.f 0 l = some (sortedF l) := by
  unfold Sorted.f Sorted.b sortedF
  rw [hl]; rfl
theorem MsgValid.pure (kind from0 inc lo hi seq target life epoch base : Int) (recs : List (Int × Int × Int × (Int × Int) × Bool × List (Int × List Int))) (hl : smallRecs recs = true) : MsgValid.f 0 kind from0 inc lo hi seq target life epoch base recs = some (validF kind from0 inc lo hi seq target life epoch base recs) := by
  unfold MsgValid.f MsgValid.b validF
  rw [veil_eq, hl]
  dsimp only
  cases h0 : ((ofF kind).1.toList == (⟨[].toArray⟩ : ByteArray).toList)
  case true => simp [h0]
  by_cases c1 : from0 < 0
  · simp [h0, c1]
  by_cases c2 : from0 > 4095
  · simp [h0, c1, c2]
  by_cases c3 : inc < 0
  · simp [h0, c1, c2, c3]
  by_cases c4 : inc > 281474976710655
  · simp [h0, c1, c2, c3, c4]
  cases h1 : okS lo hi
  · simp [h0, c1, c2, c3, c4]
  simp only [h0, c1, c2, c3, c4, decide_false, Bool.or_self, Bool.not_true, Bool.false_eq_true, if_false]
  cases withinF (hasF kind 0) seq 0 65535
  · by_cases h3 : kind = 3 <;> simp [h3]
  by_cases h3 : kind = 3
  · subst h3
    simp only [beq_self_eq_true, if_true]
    cases withinF (hasF 3 1) target 1 3 <;> cases livesF 3 life epoch base <;> cases hasF 3 4 <;> simp
    · exact Bool.eq_iff_iff.2 (by simp)
    · split
      · simp_all
      · simp_all; omega
  · have h3' : (kind == 3) = false := by simpa using h3
    simp only [h3', Bool.false_eq_true, if_false]
    cases withinF (hasF kind 1) target 0 4095 <;> cases livesF kind life epoch base <;> cases hasF kind 4 <;> simp
    · exact Bool.eq_iff_iff.2 (by simp)
    · split
      · simp_all
      · simp_all; omega
theorem Few6.loop (fuel : Nat) (b : List (Int × List Int)) (hl : smallBag b = true) : ∀ (k i : Nat) (n : Int), i ≤ b.length → b.length - i < k → 0 ≤ n → n ≤ 5000 → Few6.l5 fuel b k n (i : Int) = some (few6Go (b.drop i) n) := by
  obtain ⟨hb, hx⟩ := (smallBag_iff b).1 hl
  intro k
  induction k with
  | zero => intro i n h1 h2; omega
  | succ k ih =>
    intro i n h1 h2 h3 h4
    rw [Few6.l5]
    unfold Few6.b5
    by_cases hi : i < b.length
    · rw [if_pos (by simp; omega), idx_at, List.getElem?_eq_getElem hi]
      dsimp only
      rw [List.drop_eq_getElem_cons hi]
      have hxl := hx b[i] (List.getElem_mem hi)
      unfold few6Go
      rw [wrap_small (n + _) (by omega) (by omega), wrap_small ((i : Int) + 1) (by omega) (by omega)]
      split
      · rfl
      · rename_i hh
        exact ih (i + 1) _ (by omega) (by omega) (by omega) (by simpa using hh)
    · rw [if_neg (by simp; omega), List.drop_of_length_le (by omega)]
      rfl
theorem Few6.pure (b : List (Int × List Int)) (hl : smallBag b = true) : Few6.f (b.length + 1) b = some (few6 b) := by
  unfold Few6.f Few6.b few6
  split
  · rfl
  · exact Few6.loop _ b hl _ 0 0 (by omega) (by omega) (by omega) (by omega)
theorem Few8.loop (fuel : Nat) (l : List (Int × Int × Int × (Int × Int) × Bool × List (Int × List Int))) (hl : smallRecs l = true) : ∀ (k i : Nat), i ≤ l.length → l.length - i < k → Few8.l4 fuel l k (i : Int) = some ((l.drop i).all fun r => few6 r.2.2.2.2.2) := by
  obtain ⟨hb, hx⟩ := (smallRecs_iff l).1 hl
  intro k
  induction k with
  | zero => intro i h1 h2; omega
  | succ k ih =>
    intro i h1 h2
    rw [Few8.l4]
    unfold Few8.b4
    by_cases hi : i < l.length
    · rw [if_pos (by simp; omega), idx_at, List.getElem?_eq_getElem hi]
      dsimp only
      rw [List.drop_eq_getElem_cons hi, hx l[i] (List.getElem_mem hi), if_pos rfl, wrap_small ((i : Int) + 1) (by omega) (by omega), List.all_cons]
      cases few6 l[i].2.2.2.2.2
      · rfl
      · simp only [Bool.not_true, Bool.false_eq_true, if_false, Bool.true_and]
        exact ih (i + 1) (by omega) (by omega)
    · rw [if_neg (by simp; omega), List.drop_of_length_le (by omega)]
      rfl
theorem Few8.pure (l : List (Int × Int × Int × (Int × Int) × Bool × List (Int × List Int))) (hl : smallRecs l = true) : Few8.f (l.length + 1) l = some (few8 l) := by
  unfold Few8.f Few8.b few8
  split
  · rfl
  · exact Few8.loop _ l hl _ 0 (by omega) (by omega)
theorem Few10.pure (kind from0 inc lo hi seq target life epoch base : Int) (recs : List (Int × Int × Int × (Int × Int) × Bool × List (Int × List Int))) (hl : smallRecs recs = true) : Few10.f 0 kind from0 inc lo hi seq target life epoch base recs = some (few8 recs) := by
  unfold Few10.f Few10.b
  rw [hl]; rfl
theorem Fits1.loop (fuel : Nat) (kind from0 inc lo hi seq target life epoch base : Int) (l : List (Int × Int × Int × (Int × Int) × Bool × List (Int × List Int))) (hl : l.length < 281474976710656) : ∀ (k i : Nat), i ≤ l.length → l.length - i < k → Fits1.l4 fuel kind from0 inc lo hi seq target life epoch base l k (l.length : Int) (i : Int) = some (fitGo (l.drop i)) := by
  intro k
  induction k with
  | zero => intro i h1 h2; omega
  | succ k ih =>
    intro i h1 h2
    rw [Fits1.l4]
    unfold Fits1.b4
    by_cases hi : i < l.length
    · rw [if_pos (by simp; omega), idx_at, List.getElem?_eq_getElem hi]
      dsimp only
      rw [List.drop_eq_getElem_cons hi, wrap_small ((i : Int) + 1) (by omega) (by omega)]
      unfold fitGo
      by_cases c1 : l[i].2.1 > 65535
      · simp [c1]
      · by_cases c2 : ((l[i].2.2.2.2.2.length : Nat) : Int) > 0
        · rw [if_neg (by simpa using c1), if_pos (by simpa using c2), if_pos (by simp; right; simpa using c2)]
        · rw [if_neg (by simpa using c1), if_neg (by simpa using c2), if_neg (by simp; exact ⟨by omega, by simpa using c2⟩)]
          exact ih (i + 1) (by omega) (by omega)
    · rw [if_neg (by simp; omega), List.drop_of_length_le (by omega)]
      rfl
theorem Fits1.pure (kind from0 inc lo hi seq target life epoch base : Int) (recs : List (Int × Int × Int × (Int × Int) × Bool × List (Int × List Int))) (hl : smallRecs recs = true) : Fits1.f (recs.length + 1) kind from0 inc lo hi seq target life epoch base recs = some (fits1 kind from0 inc lo hi seq target life epoch base recs) := by
  unfold Fits1.f Fits1.b fits1
  dsimp only
  have := Fits1.loop (recs.length + 1) kind from0 inc lo hi seq target life epoch base recs ((smallRecs_iff recs).1 hl).1 (recs.length + 1) 0 (by omega) (by omega)
  rw [hl, if_pos rfl]
  cases validF kind from0 inc lo hi seq target life epoch base recs
  · rfl
  · by_cases h1 : kind = 9
    · simp [h1]
    · by_cases h2 : epoch = 0
      · subst h2
        have h1' : (kind == 9) = false := by simpa using h1
        simp only [h1', bne_self_eq_false, Bool.false_eq_true, if_false, Bool.or_self, Bool.not_true]
        exact this
      · have h1' : (kind == 9) = false := by simpa using h1
        simp [h1', h2]
theorem FitsL.loop (fuel : Nat) (kind from0 inc lo hi seq target life epoch base : Int) (l : List (Int × Int × Int × (Int × Int) × Bool × List (Int × List Int))) (hl : l.length < 281474976710656) : ∀ (k i : Nat), i ≤ l.length → l.length - i < k → FitsL.l4 fuel kind from0 inc lo hi seq target life epoch base l k (i : Int) = some (fitGo (l.drop i)) := by
  intro k
  induction k with
  | zero => intro i h1 h2; omega
  | succ k ih =>
    intro i h1 h2
    rw [FitsL.l4]
    unfold FitsL.b4
    by_cases hi : i < l.length
    · rw [if_pos (by simp; omega), idx_at, List.getElem?_eq_getElem hi]
      dsimp only
      rw [List.drop_eq_getElem_cons hi, wrap_small ((i : Int) + 1) (by omega) (by omega)]
      unfold fitGo
      by_cases c1 : l[i].2.1 > 65535
      · simp [c1]
      · by_cases c2 : ((l[i].2.2.2.2.2.length : Nat) : Int) > 0
        · rw [if_neg (by simpa using c1), if_pos (by simpa using c2), if_pos (by simp; right; simpa using c2)]
        · rw [if_neg (by simpa using c1), if_neg (by simpa using c2), if_neg (by simp; exact ⟨by omega, by simpa using c2⟩)]
          exact ih (i + 1) (by omega) (by omega)
    · rw [if_neg (by simp; omega), List.drop_of_length_le (by omega)]
      rfl
theorem FitsL.pure (kind from0 inc lo hi seq target life epoch base : Int) (recs : List (Int × Int × Int × (Int × Int) × Bool × List (Int × List Int))) (hl : smallRecs recs = true) : FitsL.f (recs.length + 1) kind from0 inc lo hi seq target life epoch base recs = some (fitsL kind from0 inc lo hi seq target life epoch base recs) := by
  unfold FitsL.f FitsL.b fitsL
  dsimp only
  have := FitsL.loop (recs.length + 1) kind from0 inc lo hi seq target life epoch base recs ((smallRecs_iff recs).1 hl).1 (recs.length + 1) 0 (by omega) (by omega)
  rw [hl, if_pos rfl]
  cases validF kind from0 inc lo hi seq target life epoch base recs
  · rfl
  · by_cases h1 : kind = 9
    · simp [h1]
    · by_cases h2 : life = 0
      · by_cases h3 : epoch = 0
        · by_cases h4 : base = 0
          · subst h2; subst h3; subst h4
            have h1' : (kind == 9) = false := by simpa using h1
            simp only [h1', bne_self_eq_false, Bool.false_eq_true, if_false, Bool.or_self, Bool.not_true]
            exact this
          · simp [h1, h2, h3, h4]
        · simp [h1, h2, h3]
      · simp [h1, h2]
theorem State.pure (id inc st lo hi : Int) (cut : Bool) (bag : List (Int × List Int)) : State.f 0 id inc st lo hi cut bag = some (stateF st lo hi cut) := by
  unfold State.f State.b stateF
  cases cut <;> rfl
theorem fitsF_iff (n v : Int) : fitsF n v = true ↔ 1 ≤ n ∧ n ≤ 7 ∧ 0 ≤ v ∧ v < 256 ^ n.toNat := by
  unfold fitsF
  simp only [Bool.and_eq_true, decide_eq_true_eq]
theorem fdiv_zero (v m : Int) (h0 : 0 ≤ v) (hm : v < m) : Int.fdiv v m = 0 := by
  rw [Int.fdiv_eq_ediv_of_nonneg _ (by omega)]
  exact Int.ediv_eq_zero_of_lt h0 hm
theorem pow8 (n : Int) (h1 : 1 ≤ n) (h7 : n ≤ 7) : ((2 : Int) ^ (Min.min (Int.toNat (Go.IntKind.wrap .i64 ((8 : Int) * n))) (Go.IntKind.bits .i64))) = 256 ^ n.toNat := by
  have : n = 1 ∨ n = 2 ∨ n = 3 ∨ n = 4 ∨ n = 5 ∨ n = 6 ∨ n = 7 := by omega
  rcases this with rfl | rfl | rfl | rfl | rfl | rfl | rfl <;> rfl
theorem OctFits.pure (n v : Int) (hl : fitsF n v = true) : OctFits.f 0 n v = some true := by
  obtain ⟨h1, h2, h3, h4⟩ := (fitsF_iff n v).1 hl
  unfold OctFits.f OctFits.b
  rw [if_pos (by simpa using h1), if_pos (by simpa using h2), if_pos (by simpa using h3), if_neg (by rw [wrap_small _ (by omega) (by omega)]; omega), pow8 n h1 h2, fdiv_zero v _ h3 h4]
  rfl
end Go.Proofs.Ytlmljpmohljefaa

set_option linter.unusedVariables false
namespace Go.Proofs.Ytlmljpmohljefaa
open Go.Den
theorem s_has_det : SumDet s_has := fun avs objs R κ => by
  show s_has.run avs objs (two κ) = (s_has.run avs objs (two some)).bind κ
  unfold s_has
  simp only
  split
  · first | rfl | (split <;> rfl)
  · rfl
theorem s_has_ok : SumOk Try.prog 50 s_has := by
  have hE : EnvOk Try.prog MsgHas_E := env_ok (l := [(47, s_of)]) th_ok any_ok ⟨⟨s_of_ok, s_of_det⟩, trivial⟩ _
  refine sum_ok hE Try.func50 rfl (by kernel_rfl) s_has [.raw] MsgHas.k ?_
  intro R avs objs κ r h
  unfold s_has at h
  simp only at h
  split at h
  · rename_i k p
    refine ⟨0, _, _, _, (MsgHas.eq (0) k p).trans (MsgHas.pure k p), ?_, h⟩
    intro rs ros hk
    unfold MsgHas.k at hk
    split at hk
    · first | (cases hk; exact ⟨rfl, rfl⟩) | (have e := Option.some.inj hk; rw [← e]; exact ⟨rfl, rfl⟩)
    · cases hk
  · cases h
theorem s_lives_det : SumDet s_lives := fun avs objs R κ => by
  show s_lives.run avs objs (two κ) = (s_lives.run avs objs (two some)).bind κ
  unfold s_lives
  simp only
  split
  · first | rfl | (split <;> rfl)
  · rfl
theorem s_lives_ok : SumOk Try.prog 51 s_lives := by
  have hE : EnvOk Try.prog MsgLives_E := env_ok (l := [(50, s_has), (49, s_within)]) th_ok any_ok ⟨⟨s_has_ok, s_has_det⟩, ⟨s_within_ok, s_within_det⟩, trivial⟩ _
  refine sum_ok hE Try.func51 rfl (by kernel_rfl) s_lives [.raw] MsgLives.k ?_
  intro R avs objs κ r h
  unfold s_lives at h
  simp only at h
  split at h
  · rename_i mkind mfrom0 minc mlo mhi mseq mtarget mlife mepoch mbase mrecs
    refine ⟨0, _, _, _, (MsgLives.eq (0) mkind mfrom0 minc mlo mhi mseq mtarget mlife mepoch mbase mrecs).trans (MsgLives.pure mkind mfrom0 minc mlo mhi mseq mtarget mlife mepoch mbase mrecs), ?_, h⟩
    intro rs ros hk
    unfold MsgLives.k at hk
    split at hk
    · first | (cases hk; exact ⟨rfl, rfl⟩) | (have e := Option.some.inj hk; rw [← e]; exact ⟨rfl, rfl⟩)
    · cases hk
  · cases h
theorem s_srt1_det : SumDet s_srt1 := fun avs objs R κ => by
  show s_srt1.run avs objs (two κ) = (s_srt1.run avs objs (two some)).bind κ
  unfold s_srt1
  simp only
  split
  · first | rfl | (split <;> rfl)
  · rfl
theorem s_srt1_ok : SumOk Try.prog 85 s_srt1 := by
  have hE : EnvOk Try.prog Srt1_E := env_ok (l := [(86, s_recv)]) th_ok any_ok ⟨⟨s_recv_ok, s_recv_det⟩, trivial⟩ _
  refine sum_ok hE Try.func85 rfl (by kernel_rfl) s_srt1 [.raw] Srt1.k ?_
  intro R avs objs κ r h
  unfold s_srt1 at h
  simp only at h
  split at h
  · rename_i rid rinc rst rlo rhi rcut rbag last
    split at h
    case isFalse => cases h
    rename_i hl
    refine ⟨0, _, _, _, (Srt1.eq (0) rid rinc rst rlo rhi rcut rbag last).trans (Srt1.pure rid rinc rst rlo rhi rcut rbag last hl), ?_, h⟩
    intro rs ros hk
    unfold Srt1.k at hk
    split at hk
    · first | (cases hk; exact ⟨rfl, rfl⟩) | (have e := Option.some.inj hk; rw [← e]; exact ⟨rfl, rfl⟩)
    · cases hk
  · cases h
theorem s_where_det : SumDet s_where := fun avs objs R κ => by
  show s_where.run avs objs (two κ) = (s_where.run avs objs (two some)).bind κ
  unfold s_where
  simp only
  split
  · first | rfl | (split <;> rfl)
  · rfl
theorem s_where_ok : SumOk Try.prog 84 s_where := by
  have hE : EnvOk Try.prog Where_E := env_ok (l := [(85, s_srt1)]) th_ok any_ok ⟨⟨s_srt1_ok, s_srt1_det⟩, trivial⟩ _
  refine sum_ok hE Try.func84 rfl (by kernel_rfl) s_where [.raw] Where.k ?_
  intro R avs objs κ r h
  unfold s_where at h
  simp only at h
  split at h
  · rename_i l last
    split at h
    case isFalse => cases h
    rename_i hl
    refine ⟨l.length + 1, _, _, _, (Where.eq (l.length + 1) l last).trans (Where.pure l last hl), ?_, h⟩
    intro rs ros hk
    unfold Where.k at hk
    split at hk
    · first | (cases hk; exact ⟨rfl, rfl⟩) | (have e := Option.some.inj hk; rw [← e]; exact ⟨rfl, rfl⟩)
    · cases hk
  · cases h
theorem s_sorted_det : SumDet s_sorted := fun avs objs R κ => by
  show s_sorted.run avs objs (two κ) = (s_sorted.run avs objs (two some)).bind κ
  unfold s_sorted
  simp only
  split
  · first | rfl | (split <;> rfl)
  · rfl
theorem s_sorted_ok : SumOk Try.prog 52 s_sorted := by
  have hE : EnvOk Try.prog Sorted_E := env_ok (l := [(84, s_where)]) th_ok any_ok ⟨⟨s_where_ok, s_where_det⟩, trivial⟩ _
  refine sum_ok hE Try.func52 rfl (by kernel_rfl) s_sorted [.raw] Sorted.k ?_
  intro R avs objs κ r h
  unfold s_sorted at h
  simp only at h
  split at h
  · rename_i l
    split at h
    case isFalse => cases h
    rename_i hl
    refine ⟨0, _, _, _, (Sorted.eq (0) l).trans (Sorted.pure l hl), ?_, h⟩
    intro rs ros hk
    unfold Sorted.k at hk
    split at hk
    · first | (cases hk; exact ⟨rfl, rfl⟩) | (have e := Option.some.inj hk; rw [← e]; exact ⟨rfl, rfl⟩)
    · cases hk
  · cases h
theorem s_valid_det : SumDet s_valid := fun avs objs R κ => by
  show s_valid.run avs objs (two κ) = (s_valid.run avs objs (two some)).bind κ
  unfold s_valid
  simp only
  split
  · first | rfl | (split <;> rfl)
  · rfl
theorem s_valid_ok : SumOk Try.prog 20 s_valid := by
  have hE : EnvOk Try.prog MsgValid_E := env_ok (l := [(47, s_of), (48, s_sv), (49, s_within), (50, s_has), (51, s_lives), (52, s_sorted)]) th_ok any_ok ⟨⟨s_of_ok, s_of_det⟩, ⟨s_sv_ok, s_sv_det⟩, ⟨s_within_ok, s_within_det⟩, ⟨s_has_ok, s_has_det⟩, ⟨s_lives_ok, s_lives_det⟩, ⟨s_sorted_ok, s_sorted_det⟩, trivial⟩ _
  refine sum_ok hE Try.func20 rfl (by kernel_rfl) s_valid [.raw] MsgValid.k ?_
  intro R avs objs κ r h
  unfold s_valid at h
  simp only at h
  split at h
  · rename_i mkind mfrom0 minc mlo mhi mseq mtarget mlife mepoch mbase mrecs
    split at h
    case isFalse => cases h
    rename_i hl
    refine ⟨0, _, _, _, (MsgValid.eq (0) mkind mfrom0 minc mlo mhi mseq mtarget mlife mepoch mbase mrecs).trans (MsgValid.pure mkind mfrom0 minc mlo mhi mseq mtarget mlife mepoch mbase mrecs hl), ?_, h⟩
    intro rs ros hk
    unfold MsgValid.k at hk
    split at hk
    · first | (cases hk; exact ⟨rfl, rfl⟩) | (have e := Option.some.inj hk; rw [← e]; exact ⟨rfl, rfl⟩)
    · cases hk
  · cases h
theorem s_few6_det : SumDet s_few6 := fun avs objs R κ => by
  show s_few6.run avs objs (two κ) = (s_few6.run avs objs (two some)).bind κ
  unfold s_few6
  simp only
  split
  · first | rfl | (split <;> rfl)
  · rfl
theorem s_few6_ok : SumOk Try.prog 81 s_few6 := by
  have hE : EnvOk Try.prog Few6_E := env_ok (l := []) th_ok any_ok trivial _
  refine sum_ok hE Try.func81 rfl (by kernel_rfl) s_few6 [.raw] Few6.k ?_
  intro R avs objs κ r h
  unfold s_few6 at h
  simp only at h
  split at h
  · rename_i b
    split at h
    case isFalse => cases h
    rename_i hl
    refine ⟨b.length + 1, _, _, _, (Few6.eq (b.length + 1) b).trans (Few6.pure b hl), ?_, h⟩
    intro rs ros hk
    unfold Few6.k at hk
    split at hk
    · first | (cases hk; exact ⟨rfl, rfl⟩) | (have e := Option.some.inj hk; rw [← e]; exact ⟨rfl, rfl⟩)
    · cases hk
  · cases h
theorem s_few8_det : SumDet s_few8 := fun avs objs R κ => by
  show s_few8.run avs objs (two κ) = (s_few8.run avs objs (two some)).bind κ
  unfold s_few8
  simp only
  split
  · first | rfl | (split <;> rfl)
  · rfl
theorem s_few8_ok : SumOk Try.prog 41 s_few8 := by
  have hE : EnvOk Try.prog Few8_E := env_ok (l := [(81, s_few6)]) th_ok any_ok ⟨⟨s_few6_ok, s_few6_det⟩, trivial⟩ _
  refine sum_ok hE Try.func41 rfl (by kernel_rfl) s_few8 [.raw] Few8.k ?_
  intro R avs objs κ r h
  unfold s_few8 at h
  simp only at h
  split at h
  · rename_i l
    split at h
    case isFalse => cases h
    rename_i hl
    refine ⟨l.length + 1, _, _, _, (Few8.eq (l.length + 1) l).trans (Few8.pure l hl), ?_, h⟩
    intro rs ros hk
    unfold Few8.k at hk
    split at hk
    · first | (cases hk; exact ⟨rfl, rfl⟩) | (have e := Option.some.inj hk; rw [← e]; exact ⟨rfl, rfl⟩)
    · cases hk
  · cases h
theorem s_few10_det : SumDet s_few10 := fun avs objs R κ => by
  show s_few10.run avs objs (two κ) = (s_few10.run avs objs (two some)).bind κ
  unfold s_few10
  simp only
  split
  · first | rfl | (split <;> rfl)
  · rfl
theorem s_few10_ok : SumOk Try.prog 15 s_few10 := by
  have hE : EnvOk Try.prog Few10_E := env_ok (l := [(41, s_few8)]) th_ok any_ok ⟨⟨s_few8_ok, s_few8_det⟩, trivial⟩ _
  refine sum_ok hE Try.func15 rfl (by kernel_rfl) s_few10 [.raw] Few10.k ?_
  intro R avs objs κ r h
  unfold s_few10 at h
  simp only at h
  split at h
  · rename_i mkind mfrom0 minc mlo mhi mseq mtarget mlife mepoch mbase mrecs
    split at h
    case isFalse => cases h
    rename_i hl
    refine ⟨0, _, _, _, (Few10.eq (0) mkind mfrom0 minc mlo mhi mseq mtarget mlife mepoch mbase mrecs).trans (Few10.pure mkind mfrom0 minc mlo mhi mseq mtarget mlife mepoch mbase mrecs hl), ?_, h⟩
    intro rs ros hk
    unfold Few10.k at hk
    split at hk
    · first | (cases hk; exact ⟨rfl, rfl⟩) | (have e := Option.some.inj hk; rw [← e]; exact ⟨rfl, rfl⟩)
    · cases hk
  · cases h
theorem s_fits1_det : SumDet s_fits1 := fun avs objs R κ => by
  show s_fits1.run avs objs (two κ) = (s_fits1.run avs objs (two some)).bind κ
  unfold s_fits1
  simp only
  split
  · first | rfl | (split <;> rfl)
  · rfl
theorem s_fits1_ok : SumOk Try.prog 18 s_fits1 := by
  have hE : EnvOk Try.prog Fits1_E := env_ok (l := [(20, s_valid)]) th_ok any_ok ⟨⟨s_valid_ok, s_valid_det⟩, trivial⟩ _
  refine sum_ok hE Try.func18 rfl (by kernel_rfl) s_fits1 [.raw] Fits1.k ?_
  intro R avs objs κ r h
  unfold s_fits1 at h
  simp only at h
  split at h
  · rename_i mkind mfrom0 minc mlo mhi mseq mtarget mlife mepoch mbase mrecs
    split at h
    case isFalse => cases h
    rename_i hl
    refine ⟨mrecs.length + 1, _, _, _, (Fits1.eq (mrecs.length + 1) mkind mfrom0 minc mlo mhi mseq mtarget mlife mepoch mbase mrecs).trans (Fits1.pure mkind mfrom0 minc mlo mhi mseq mtarget mlife mepoch mbase mrecs hl), ?_, h⟩
    intro rs ros hk
    unfold Fits1.k at hk
    split at hk
    · first | (cases hk; exact ⟨rfl, rfl⟩) | (have e := Option.some.inj hk; rw [← e]; exact ⟨rfl, rfl⟩)
    · cases hk
  · cases h
theorem s_fitsL_det : SumDet s_fitsL := fun avs objs R κ => by
  show s_fitsL.run avs objs (two κ) = (s_fitsL.run avs objs (two some)).bind κ
  unfold s_fitsL
  simp only
  split
  · first | rfl | (split <;> rfl)
  · rfl
theorem s_fitsL_ok : SumOk Try.prog 19 s_fitsL := by
  have hE : EnvOk Try.prog FitsL_E := env_ok (l := [(20, s_valid)]) th_ok any_ok ⟨⟨s_valid_ok, s_valid_det⟩, trivial⟩ _
  refine sum_ok hE Try.func19 rfl (by kernel_rfl) s_fitsL [.raw] FitsL.k ?_
  intro R avs objs κ r h
  unfold s_fitsL at h
  simp only at h
  split at h
  · rename_i mkind mfrom0 minc mlo mhi mseq mtarget mlife mepoch mbase mrecs
    split at h
    case isFalse => cases h
    rename_i hl
    refine ⟨mrecs.length + 1, _, _, _, (FitsL.eq (mrecs.length + 1) mkind mfrom0 minc mlo mhi mseq mtarget mlife mepoch mbase mrecs).trans (FitsL.pure mkind mfrom0 minc mlo mhi mseq mtarget mlife mepoch mbase mrecs hl), ?_, h⟩
    intro rs ros hk
    unfold FitsL.k at hk
    split at hk
    · first | (cases hk; exact ⟨rfl, rfl⟩) | (have e := Option.some.inj hk; rw [← e]; exact ⟨rfl, rfl⟩)
    · cases hk
  · cases h
theorem s_state_det : SumDet s_state := fun avs objs R κ => by
  show s_state.run avs objs (two κ) = (s_state.run avs objs (two some)).bind κ
  unfold s_state
  simp only
  split
  · first | rfl | (split <;> rfl)
  · rfl
theorem s_state_ok : SumOk Try.prog 45 s_state := by
  have hE : EnvOk Try.prog State_E := env_ok (l := []) th_ok any_ok trivial _
  refine sum_ok hE Try.func45 rfl (by kernel_rfl) s_state [.raw] State.k ?_
  intro R avs objs κ r h
  unfold s_state at h
  simp only at h
  split at h
  · rename_i rid rinc rst rlo rhi rcut rbag
    refine ⟨0, _, _, _, (State.eq (0) rid rinc rst rlo rhi rcut rbag).trans (State.pure rid rinc rst rlo rhi rcut rbag), ?_, h⟩
    intro rs ros hk
    unfold State.k at hk
    split at hk
    · first | (cases hk; exact ⟨rfl, rfl⟩) | (have e := Option.some.inj hk; rw [← e]; exact ⟨rfl, rfl⟩)
    · cases hk
  · cases h
theorem s_ofits_det : SumDet s_ofits := fun avs objs R κ => by
  show s_ofits.run avs objs (two κ) = (s_ofits.run avs objs (two some)).bind κ
  unfold s_ofits
  simp only
  split
  · first | rfl | (split <;> rfl)
  · rfl
theorem s_ofits_ok : SumOk Try.prog 82 s_ofits := by
  have hE : EnvOk Try.prog OctFits_E := env_ok (l := []) th_ok any_ok trivial _
  refine sum_ok hE Try.func82 rfl (by kernel_rfl) s_ofits [.raw] OctFits.k ?_
  intro R avs objs κ r h
  unfold s_ofits at h
  simp only at h
  split at h
  · rename_i n v
    split at h
    case isFalse => cases h
    rename_i hl
    refine ⟨0, _, _, _, (OctFits.eq (0) n v).trans (OctFits.pure n v hl), ?_, h⟩
    intro rs ros hk
    unfold OctFits.k at hk
    split at hk
    · first | (cases hk; exact ⟨rfl, rfl⟩) | (have e := Option.some.inj hk; rw [← e]; exact ⟨rfl, rfl⟩)
    · cases hk
  · cases h
end Go.Proofs.Ytlmljpmohljefaa

/- printed by denfn.py -/
set_option linter.unusedVariables false
namespace Go.Proofs.Ytlmljpmohljefaa
open Go.Den
noncomputable def roomy (l : List Int) : Bool := decide (l.length < 1099511600000)
noncomputable def s_write : Den.Sum := ⟨[], fun args objs κ => match args, objs with
  | [], [] => κ [.ptr 0 0] [.box [.nilsl, .d .bool false]]
  | _, _ => none⟩
noncomputable def s_num : Den.Sum := ⟨[.raw, .raw, .raw], fun args objs κ => match args, objs with
  | [.ptr 0 0, .d (.int .i64) n, .d (.int .i64) v], [.box [.nilsl, .d .bool false]] => if fitsF n v = true then κ [.ptr 0 0] [.box [.row 1, .d .bool false], .row 5 (.int .u8) (be n.toNat v) false] else none
  | [.ptr 0 0, .d (.int .i64) n, .d (.int .i64) v], [.box [.row 1, .d .bool false], .row 5 (.int .u8) l false] => if fitsF n v = true ∧ roomy l = true then κ [.ptr 0 0] [.box [.row 2, .d .bool false], .gone, .row 5 (.int .u8) (l ++ be n.toNat v) false] else none
  | _, _ => none⟩
noncomputable def s_bytes : Den.Sum := ⟨[.raw], fun args objs κ => match args, objs with
  | [.ptr 0 0], [.box [.row 1, .d .bool false], .row 5 (.int .u8) l false] => if roomy l = true then κ [.d (.sl (.int .u8)) l, .d .bool true] [.box [.row 1, .d .bool false], .row 5 (.int .u8) l false] else none
  | _, _ => none⟩
noncomputable def s_put : Den.Sum := ⟨[.own 5 (.int .u8), .raw, .raw], fun args objs κ => match args, objs with
  | [.row 0, .d (.int .i64) n, .d (.int .i64) v], [.row 5 (.int .u8) l false] => if fitsF n v = true ∧ roomy l = true then κ [.row 1] [.gone, .row 5 (.int .u8) (l ++ be n.toNat v) false] else none
  | _, _ => none⟩
noncomputable def OWrite_E : Env := ⟨th, gam [], fun i => ⟨[], [], []⟩⟩
noncomputable def OWrite.k (rs : List AV) (os : List Den.Obj) : Option Bool :=
  match rs, os with
  | [.ptr 0 0], [.box [.nilsl, .d .bool r0]] => some r0
  | _, _ => none
noncomputable def OWrite.b (u : Unit) : Option Bool :=
  some (false)
noncomputable def OWrite.f (fuel : Nat) (u : Unit) : Option Bool := OWrite.b u
theorem OWrite.eq (fuel : Nat) (u : Unit) : (denF OWrite_E loopN fuel Try.f42 [.raw] [] [] OWrite.k) = OWrite.f fuel u := by
  kernel_rfl


noncomputable def NumN_E : Env := ⟨th, gam [(82, s_ofits)], fun i => if i = 7 then ⟨[0, 2, 7], [(1000, 5, (.int .u8))], [1001]⟩ else ⟨[], [], []⟩⟩
noncomputable def NumN.k (rs : List AV) (os : List Den.Obj) : Option (Bool × (List Int)) :=
  match rs, os with
  | [.ptr 0 0], [.box [.row 1, .d .bool r0], .row 5 (.int .u8) r1 false] => some (r0, r1)
  | _, _ => none
noncomputable def NumN.s7 (n : Int) (v : Int) (x0 : Int) (x1 : (List Int)) : St := ⟨[.ptr 0 0, .dead, .d (.int .i64) (v), .dead, .dead, .dead, .dead, .d (.int .i64) x0, .dead, .dead, .dead, .dead, .dead, .dead, .dead, .dead, .dead, .dead, .dead, .dead, .dead, .dead, .dead, .dead, .dead, .dead, .dead, .dead, .dead, .dead, .dead, .dead, .dead, .dead, .dead, .dead, .dead, .dead, .dead, .dead, .dead, .dead, .dead, .dead, .dead, .dead], ofL [(0, .box [.row 64, .d .bool (false)]), (64, .row 5 (.int .u8) x1 false)], 1⟩
noncomputable def NumN.b7 (n : Int) (v : Int) (A7 : Int → (List Int) → Option (Bool × (List Int))) (x0 : Int) (x1 : (List Int)) : Option (Bool × (List Int)) :=
  (if (decide (x0 ≥ (0 : Int))) then (if ((Go.IntKind.wrap .i64 ((8 : Int) * x0)) < (0 : Int)) then none else (if ((((List.length x1) + (List.length ((Go.IntKind.wrap .u8 (Int.fdiv v ((2 : Int) ^ (Min.min (Int.toNat (Go.IntKind.wrap .i64 ((8 : Int) * x0))) (Go.IntKind.bits .i64))))) :: []))) * (1 : Nat)) ≤ lim) then A7 (Go.IntKind.wrap .i64 (x0 - (1 : Int))) (x1 ++ ((Go.IntKind.wrap .u8 (Int.fdiv v ((2 : Int) ^ (Min.min (Int.toNat (Go.IntKind.wrap .i64 ((8 : Int) * x0))) (Go.IntKind.bits .i64))))) :: [])) else none)) else some (false, x1))
noncomputable def NumN.l7 (fuel : Nat) (n : Int) (v : Int) : Nat → Int → (List Int) → Option (Bool × (List Int))
  | 0, _, _ => none
  | k + 1, x0, x1 => NumN.b7 n v (NumN.l7 fuel n v k) x0 x1
noncomputable def NumN.b (n : Int) (v : Int) (E7 : Int → (List Int) → Option (Bool × (List Int))) : Option (Bool × (List Int)) :=
  (if (fitsF n v) then E7 (Go.IntKind.wrap .i64 (n - (1 : Int))) [] else none)
noncomputable def NumN.f (fuel : Nat) (n : Int) (v : Int) : Option (Bool × (List Int)) := NumN.b n v (NumN.l7 fuel n v fuel)
theorem NumN.l7_eq (fuel : Nat) (n : Int) (v : Int) : ∀ (k : Nat) (x0 : Int) (x1 : (List Int)), lp NumN_E fuel Try.f43 [.raw] 1 NumN.k 7 [] k (NumN.s7 n v x0 x1) = NumN.l7 fuel n v k x0 x1 := by
  intro k
  induction k with
  | zero => intro x0 x1; rfl
  | succ k ih =>
    intro x0 x1
    have h : lp NumN_E fuel Try.f43 [.raw] 1 NumN.k 7 [] (k + 1) (NumN.s7 n v x0 x1) = NumN.b7 n v (fun x0 x1 => lp NumN_E fuel Try.f43 [.raw] 1 NumN.k 7 [] k (NumN.s7 n v x0 x1)) x0 x1 := by kernel_rfl
    rw [h]
    have e7 : (fun x0 x1 => lp NumN_E fuel Try.f43 [.raw] 1 NumN.k 7 [] k (NumN.s7 n v x0 x1)) = NumN.l7 fuel n v k := (funext fun x0 => (funext fun x1 => ih x0 x1))
    rw [e7]
    rfl
theorem NumN.eq (fuel : Nat) (n : Int) (v : Int) : (denF NumN_E loopN fuel Try.f43 [.raw] [.ptr 0 0, .d (.int .i64) n, .d (.int .i64) v] [.box [.nilsl, .d .bool false]] NumN.k) = NumN.f fuel n v := by
  have h : (denF NumN_E loopN fuel Try.f43 [.raw] [.ptr 0 0, .d (.int .i64) n, .d (.int .i64) v] [.box [.nilsl, .d .bool false]] NumN.k) = NumN.b n v (fun x0 x1 => lp NumN_E fuel Try.f43 [.raw] 1 NumN.k 7 [] fuel (NumN.s7 n v x0 x1)) := by kernel_rfl
  rw [h]
  have e7 : (fun x0 x1 => lp NumN_E fuel Try.f43 [.raw] 1 NumN.k 7 [] fuel (NumN.s7 n v x0 x1)) = NumN.l7 fuel n v fuel := (funext fun x0 => (funext fun x1 => NumN.l7_eq fuel n v fuel x0 x1))
  rw [e7]
  rfl


noncomputable def NumR_E : Env := ⟨th, gam [(82, s_ofits)], fun i => if i = 7 then ⟨[0, 2, 7], [(1000, 5, (.int .u8))], [1001]⟩ else ⟨[], [], []⟩⟩
noncomputable def NumR.k (rs : List AV) (os : List Den.Obj) : Option (Bool × (List Int)) :=
  match rs, os with
  | [.ptr 0 0], [.box [.row 2, .d .bool r0], .gone, .row 5 (.int .u8) r1 false] => some (r0, r1)
  | _, _ => none
noncomputable def NumR.s7 (n : Int) (v : Int) (l : List Int) (x0 : Int) (x1 : (List Int)) : St := ⟨[.ptr 0 0, .dead, .d (.int .i64) (v), .dead, .dead, .dead, .dead, .d (.int .i64) x0, .dead, .dead, .dead, .dead, .dead, .dead, .dead, .dead, .dead, .dead, .dead, .dead, .dead, .dead, .dead, .dead, .dead, .dead, .dead, .dead, .dead, .dead, .dead, .dead, .dead, .dead, .dead, .dead, .dead, .dead, .dead, .dead, .dead, .dead, .dead, .dead, .dead, .dead], ofL [(0, .box [.row 64, .d .bool (false)]), (1, .gone), (64, .row 5 (.int .u8) x1 false)], 2⟩
noncomputable def NumR.b7 (n : Int) (v : Int) (l : List Int) (A7 : Int → (List Int) → Option (Bool × (List Int))) (x0 : Int) (x1 : (List Int)) : Option (Bool × (List Int)) :=
  (if (decide (x0 ≥ (0 : Int))) then (if ((Go.IntKind.wrap .i64 ((8 : Int) * x0)) < (0 : Int)) then none else (if ((((List.length x1) + (List.length ((Go.IntKind.wrap .u8 (Int.fdiv v ((2 : Int) ^ (Min.min (Int.toNat (Go.IntKind.wrap .i64 ((8 : Int) * x0))) (Go.IntKind.bits .i64))))) :: []))) * (1 : Nat)) ≤ lim) then A7 (Go.IntKind.wrap .i64 (x0 - (1 : Int))) (x1 ++ ((Go.IntKind.wrap .u8 (Int.fdiv v ((2 : Int) ^ (Min.min (Int.toNat (Go.IntKind.wrap .i64 ((8 : Int) * x0))) (Go.IntKind.bits .i64))))) :: [])) else none)) else some (false, x1))
noncomputable def NumR.l7 (fuel : Nat) (n : Int) (v : Int) (l : List Int) : Nat → Int → (List Int) → Option (Bool × (List Int))
  | 0, _, _ => none
  | k + 1, x0, x1 => NumR.b7 n v l (NumR.l7 fuel n v l k) x0 x1
noncomputable def NumR.b (n : Int) (v : Int) (l : List Int) (E7 : Int → (List Int) → Option (Bool × (List Int))) : Option (Bool × (List Int)) :=
  (if (fitsF n v) then E7 (Go.IntKind.wrap .i64 (n - (1 : Int))) l else none)
noncomputable def NumR.f (fuel : Nat) (n : Int) (v : Int) (l : List Int) : Option (Bool × (List Int)) := NumR.b n v l (NumR.l7 fuel n v l fuel)
theorem NumR.l7_eq (fuel : Nat) (n : Int) (v : Int) (l : List Int) : ∀ (k : Nat) (x0 : Int) (x1 : (List Int)), lp NumR_E fuel Try.f43 [.raw] 2 NumR.k 7 [] k (NumR.s7 n v l x0 x1) = NumR.l7 fuel n v l k x0 x1 := by
  intro k
  induction k with
  | zero => intro x0 x1; rfl
  | succ k ih =>
    intro x0 x1
    have h : lp NumR_E fuel Try.f43 [.raw] 2 NumR.k 7 [] (k + 1) (NumR.s7 n v l x0 x1) = NumR.b7 n v l (fun x0 x1 => lp NumR_E fuel Try.f43 [.raw] 2 NumR.k 7 [] k (NumR.s7 n v l x0 x1)) x0 x1 := by kernel_rfl
    rw [h]
    have e7 : (fun x0 x1 => lp NumR_E fuel Try.f43 [.raw] 2 NumR.k 7 [] k (NumR.s7 n v l x0 x1)) = NumR.l7 fuel n v l k := (funext fun x0 => (funext fun x1 => ih x0 x1))
    rw [e7]
    rfl
theorem NumR.eq (fuel : Nat) (n : Int) (v : Int) (l : List Int) : (denF NumR_E loopN fuel Try.f43 [.raw] [.ptr 0 0, .d (.int .i64) n, .d (.int .i64) v] [.box [.row 1, .d .bool false], .row 5 (.int .u8) l false] NumR.k) = NumR.f fuel n v l := by
  have h : (denF NumR_E loopN fuel Try.f43 [.raw] [.ptr 0 0, .d (.int .i64) n, .d (.int .i64) v] [.box [.row 1, .d .bool false], .row 5 (.int .u8) l false] NumR.k) = NumR.b n v l (fun x0 x1 => lp NumR_E fuel Try.f43 [.raw] 2 NumR.k 7 [] fuel (NumR.s7 n v l x0 x1)) := by kernel_rfl
  rw [h]
  have e7 : (fun x0 x1 => lp NumR_E fuel Try.f43 [.raw] 2 NumR.k 7 [] fuel (NumR.s7 n v l x0 x1)) = NumR.l7 fuel n v l fuel := (funext fun x0 => (funext fun x1 => NumR.l7_eq fuel n v l fuel x0 x1))
  rw [e7]
  rfl


noncomputable def OBytes_E : Env := ⟨th, gam [], fun i => ⟨[], [], []⟩⟩
noncomputable def OBytes.k (rs : List AV) (os : List Den.Obj) : Option ((List Int) × Bool × Bool × (List Int)) :=
  match rs, os with
  | [.d (.sl (.int .u8)) r0, .d .bool r1], [.box [.row 1, .d .bool r2], .row 5 (.int .u8) r3 false] => some (r0, r1, r2, r3)
  | _, _ => none
noncomputable def OBytes.b (l : List Int) : Option ((List Int) × Bool × Bool × (List Int)) :=
  (if (((0 : Int) ≤ ((((List.length l)) : Nat) : Int)) ∧ ((((((List.length l)) : Nat) : Int) ≤ ((((List.length l)) : Nat) : Int)) ∧ (((((((List.length l)) : Nat) : Int) * ((((1 : Nat)) : Nat) : Int)) ≤ (1099511627776 : Int)) ∧ (((((List.length l)) : Nat) : Int) ≤ (1099511627776 : Int))))) then (if ((false = false) ∧ ((List.length l) ≤ (List.length (List.replicate (Int.toNat ((((List.length l)) : Nat) : Int)) (zeroI (Go.Den.Ty.int .u8)))))) then some ((l ++ (List.drop (List.length l) (List.replicate (Int.toNat ((((List.length l)) : Nat) : Int)) (zeroI (Go.Den.Ty.int .u8))))), true, false, l) else none) else none)
noncomputable def OBytes.f (fuel : Nat) (l : List Int) : Option ((List Int) × Bool × Bool × (List Int)) := OBytes.b l
theorem OBytes.eq (fuel : Nat) (l : List Int) : (denF OBytes_E loopN fuel Try.f46 [.dat (.sl (.int .u8)) false, .raw] [.ptr 0 0] [.box [.row 1, .d .bool false], .row 5 (.int .u8) l false] OBytes.k) = OBytes.f fuel l := by
  kernel_rfl


noncomputable def Put11_E : Env := ⟨th, gam [], fun i => if i = 3 then ⟨[0, 2, 7, 8], [], []⟩ else ⟨[], [], []⟩⟩
noncomputable def Put11.k (rs : List AV) (os : List Den.Obj) : Option (List Int) :=
  match rs, os with
  | [.row 1], [.gone, .row 5 (.int .u8) r0 false] => some r0
  | _, _ => none
noncomputable def Put11.s3 (n : Int) (v : Int) (l : List Int) (x0 : Int) (x1 : Int) (x2 : (List Int)) : St := ⟨[.row 0, .dead, .d (.int .i64) x0, .dead, .dead, .dead, .dead, .row 64, .d (.int .i64) x1, .dead, .dead, .dead, .dead, .dead, .dead, .dead, .dead, .dead, .dead, .dead, .dead, .dead, .dead, .dead, .dead, .dead, .dead, .dead], ofL [(0, .row 5 (.int .u8) (l) false), (64, .row 5 (.int .u8) x2 false)], 1⟩
noncomputable def Put11.b3 (n : Int) (v : Int) (l : List Int) (A3 : Int → Int → (List Int) → Option (List Int)) (x0 : Int) (x1 : Int) (x2 : (List Int)) : Option (List Int) :=
  (if (decide (x1 ≥ (0 : Int))) then (match (idx x2 x1) with | none => none | some y3 => (match (idx x2 x1) with | none => none | some y4 => A3 (Go.IntKind.wrap .i64 (Int.tdiv x0 (256 : Int))) (Go.IntKind.wrap .i64 (x1 - (1 : Int))) (List.set x2 (Int.toNat x1) (Go.IntKind.wrap .u8 (Int.tmod x0 (256 : Int)))))) else (if ((((List.length l) + (List.length x2)) * (1 : Nat)) ≤ lim) then some ((l ++ x2)) else none))
noncomputable def Put11.l3 (fuel : Nat) (n : Int) (v : Int) (l : List Int) : Nat → Int → Int → (List Int) → Option (List Int)
  | 0, _, _, _ => none
  | k + 1, x0, x1, x2 => Put11.b3 n v l (Put11.l3 fuel n v l k) x0 x1 x2
noncomputable def Put11.b (n : Int) (v : Int) (l : List Int) (E3 : Int → Int → (List Int) → Option (List Int)) : Option (List Int) :=
  (if (((0 : Int) ≤ n) ∧ ((n ≤ n) ∧ (((n * ((((1 : Nat)) : Nat) : Int)) ≤ (1099511627776 : Int)) ∧ (n ≤ (1099511627776 : Int))))) then E3 v (Go.IntKind.wrap .i64 (n - (1 : Int))) (List.replicate (Int.toNat n) (zeroI (Go.Den.Ty.int .u8))) else none)
noncomputable def Put11.f (fuel : Nat) (n : Int) (v : Int) (l : List Int) : Option (List Int) := Put11.b n v l (Put11.l3 fuel n v l fuel)
theorem Put11.l3_eq (fuel : Nat) (n : Int) (v : Int) (l : List Int) : ∀ (k : Nat) (x0 : Int) (x1 : Int) (x2 : (List Int)), lp Put11_E fuel Try.f53 [.own 5 (.int .u8)] 1 Put11.k 3 [] k (Put11.s3 n v l x0 x1 x2) = Put11.l3 fuel n v l k x0 x1 x2 := by
  intro k
  induction k with
  | zero => intro x0 x1 x2; rfl
  | succ k ih =>
    intro x0 x1 x2
    have h : lp Put11_E fuel Try.f53 [.own 5 (.int .u8)] 1 Put11.k 3 [] (k + 1) (Put11.s3 n v l x0 x1 x2) = Put11.b3 n v l (fun x0 x1 x2 => lp Put11_E fuel Try.f53 [.own 5 (.int .u8)] 1 Put11.k 3 [] k (Put11.s3 n v l x0 x1 x2)) x0 x1 x2 := by kernel_rfl
    rw [h]
    have e3 : (fun x0 x1 x2 => lp Put11_E fuel Try.f53 [.own 5 (.int .u8)] 1 Put11.k 3 [] k (Put11.s3 n v l x0 x1 x2)) = Put11.l3 fuel n v l k := (funext fun x0 => (funext fun x1 => (funext fun x2 => ih x0 x1 x2)))
    rw [e3]
    rfl
theorem Put11.eq (fuel : Nat) (n : Int) (v : Int) (l : List Int) : (denF Put11_E loopN fuel Try.f53 [.own 5 (.int .u8)] [.row 0, .d (.int .i64) n, .d (.int .i64) v] [.row 5 (.int .u8) l false] Put11.k) = Put11.f fuel n v l := by
  have h : (denF Put11_E loopN fuel Try.f53 [.own 5 (.int .u8)] [.row 0, .d (.int .i64) n, .d (.int .i64) v] [.row 5 (.int .u8) l false] Put11.k) = Put11.b n v l (fun x0 x1 x2 => lp Put11_E fuel Try.f53 [.own 5 (.int .u8)] 1 Put11.k 3 [] fuel (Put11.s3 n v l x0 x1 x2)) := by kernel_rfl
  rw [h]
  have e3 : (fun x0 x1 x2 => lp Put11_E fuel Try.f53 [.own 5 (.int .u8)] 1 Put11.k 3 [] fuel (Put11.s3 n v l x0 x1 x2)) = Put11.l3 fuel n v l fuel := (funext fun x0 => (funext fun x1 => (funext fun x2 => Put11.l3_eq fuel n v l fuel x0 x1 x2)))
  rw [e3]
  rfl


end Go.Proofs.Ytlmljpmohljefaa

set_option linter.unusedVariables false
set_option linter.unusedSimpArgs false
namespace Go.Proofs.Ytlmljpmohljefaa
open Go.Den
theorem be_cons : ∀ (n : Nat) (v : Int), be (n + 1) v = (v / 256 ^ n % 256) :: be n v
  | 0, v => by simp [be]
  | n + 1, v => by
    have ih := be_cons n (v / 256)
    show be (n + 1) (v / 256) ++ [v % 256] = _
    rw [ih, Int.ediv_ediv_of_nonneg (by omega)]
    show ((v / (256 * 256 ^ n)) % 256 :: be n (v / 256)) ++ [v % 256] = (v / 256 ^ (n + 1) % 256) :: (be n (v / 256) ++ [v % 256])
    rw [Int.pow_succ, Int.mul_comm (256 ^ n) 256]
    rfl
theorem be_length : ∀ (n : Nat) (v : Int), (be n v).length = n
  | 0, v => rfl
  | n + 1, v => by
    show (be n (v / 256) ++ [v % 256]).length = n + 1
    rw [List.length_append, be_length n]; rfl
theorem wrap8 (x : Int) : Go.IntKind.wrap .u8 x = x % 256 := by
  rw [Go.IntKind.wrap_u8]
theorem pow8' (n : Int) (h1 : 0 ≤ n) (h7 : n ≤ 6) : ((2 : Int) ^ (Min.min (Int.toNat (Go.IntKind.wrap .i64 ((8 : Int) * n))) (Go.IntKind.bits .i64))) = 256 ^ n.toNat := by
  have : n = 0 ∨ n = 1 ∨ n = 2 ∨ n = 3 ∨ n = 4 ∨ n = 5 ∨ n = 6 := by omega
  rcases this with rfl | rfl | rfl | rfl | rfl | rfl | rfl <;> rfl
theorem roomy_iff (l : List Int) : roomy l = true ↔ l.length < 1099511600000 := by unfold roomy; simp
theorem byteAt (v : Int) (i : Nat) : Go.IntKind.wrap .u8 (Int.fdiv v (256 ^ i)) = v / 256 ^ i % 256 := by
  rw [wrap8, Int.fdiv_eq_ediv_of_nonneg _ (Int.pow_nonneg (by omega))]
theorem NumR.loop (fuel : Nat) (n v : Int) (l0 : List Int) : ∀ (k i : Nat) (acc : List Int), i ≤ 7 → i < k → acc.length + i < 1099511620000 → NumR.l7 fuel n v l0 k ((i : Int) - 1) acc = some (false, acc ++ be i v) := by
  intro k
  induction k with
  | zero => intro i acc h1 h2; omega
  | succ k ih =>
    intro i acc h1 h2 h3
    rw [NumR.l7]
    unfold NumR.b7
    cases i with
    | zero => rw [if_neg (by simp)]; simp [be]
    | succ i =>
      rw [show ((i + 1 : Nat) : Int) - 1 = (i : Int) from by omega]
      rw [if_pos (by simp), if_neg (by rw [wrap_small _ (by omega) (by omega)]; omega), pow8' (i : Int) (by omega) (by omega), Int.toNat_natCast, byteAt, if_pos (by simp [lim]; omega), wrap_small _ (by omega) (by omega), ih i _ (by omega) (by omega) (by simp; omega), be_cons i v]
      simp
theorem NumR.pure (n v : Int) (l : List Int) (hf : fitsF n v = true) (hr : roomy l = true) : NumR.f 9 n v l = some (false, l ++ be n.toNat v) := by
  obtain ⟨h1, h2, h3, h4⟩ := (fitsF_iff n v).1 hf
  have hr' := (roomy_iff l).1 hr
  unfold NumR.f NumR.b
  rw [hf, if_pos rfl, wrap_small _ (by omega) (by omega)]
  have := NumR.loop 9 n v l 9 n.toNat l (by omega) (by omega) (by omega)
  rw [Int.toNat_of_nonneg (by omega)] at this
  exact this
theorem NumN.loop (fuel : Nat) (n v : Int) : ∀ (k i : Nat) (acc : List Int), i ≤ 7 → i < k → acc.length + i < 1099511620000 → NumN.l7 fuel n v k ((i : Int) - 1) acc = some (false, acc ++ be i v) := by
  intro k
  induction k with
  | zero => intro i acc h1 h2; omega
  | succ k ih =>
    intro i acc h1 h2 h3
    rw [NumN.l7]
    unfold NumN.b7
    cases i with
    | zero => rw [if_neg (by simp)]; simp [be]
    | succ i =>
      rw [show ((i + 1 : Nat) : Int) - 1 = (i : Int) from by omega]
      rw [if_pos (by simp), if_neg (by rw [wrap_small _ (by omega) (by omega)]; omega), pow8' (i : Int) (by omega) (by omega), Int.toNat_natCast, byteAt, if_pos (by simp [lim]; omega), wrap_small _ (by omega) (by omega), ih i _ (by omega) (by omega) (by simp; omega), be_cons i v]
      simp
theorem NumN.pure (n v : Int) (hf : fitsF n v = true) : NumN.f 9 n v = some (false, be n.toNat v) := by
  obtain ⟨h1, h2, h3, h4⟩ := (fitsF_iff n v).1 hf
  unfold NumN.f NumN.b
  rw [hf, if_pos rfl, wrap_small _ (by omega) (by omega)]
  have := NumN.loop 9 n v 9 n.toNat [] (by omega) (by omega) (by simp; omega)
  rw [Int.toNat_of_nonneg (by omega), List.nil_append] at this
  exact this
theorem OBytes.pure (l : List Int) (hr : roomy l = true) : OBytes.f 0 l = some (l, true, false, l) := by
  have hr' := (roomy_iff l).1 hr
  unfold OBytes.f OBytes.b
  rw [if_pos (by refine ⟨by omega, by omega, by omega, by omega⟩), if_pos (by simp)]
  simp
theorem Put11.loop (fuel : Nat) (n v0 : Int) (l : List Int) (hr : roomy l = true) : ∀ (k i : Nat) (v : Int) (d : List Int), i < k → i ≤ d.length → d.length ≤ 7 → 0 ≤ v → v < 9223372036854775808 →
    Put11.l3 fuel n v0 l k v ((i : Int) - 1) d = some (l ++ (be i v ++ d.drop i)) := by
  have hr' := (roomy_iff l).1 hr
  intro k
  induction k with
  | zero => intro i v d h1; omega
  | succ k ih =>
    intro i v d h1 h2 h3 h4 h5
    rw [Put11.l3]
    unfold Put11.b3
    cases i with
    | zero =>
      rw [if_neg (by simp), if_pos (by simp [lim]; omega)]
      simp [be]
    | succ i =>
      rw [show ((i + 1 : Nat) : Int) - 1 = (i : Int) from by omega]
      rw [if_pos (by simp), idx_at, List.getElem?_eq_getElem (by omega)]
      dsimp only
      have e1 : Int.tdiv v 256 = v / 256 := Int.tdiv_eq_ediv_of_nonneg h4
      have e2 : Int.tmod v 256 = v % 256 := Int.tmod_eq_emod_of_nonneg h4
      rw [e1, e2, wrap8, Int.emod_emod_of_dvd _ (Int.dvd_refl _), wrap_small (v / 256) (by omega) (by omega), wrap_small ((i : Int) - 1) (by omega) (by omega), Int.toNat_natCast]
      rw [ih i (v / 256) (d.set i (v % 256)) (by omega) (by simp; omega) (by simpa using h3) (by omega) (by omega)]
      have e3 : (d.set i (v % 256)).drop i = (v % 256) :: d.drop (i + 1) := by
        rw [List.drop_eq_getElem_cons (by simp; omega), List.drop_set_of_lt (by omega)]
        simp
      rw [e3]
      show _ = some (l ++ ((be i (v / 256) ++ [v % 256]) ++ d.drop (i + 1)))
      simp
theorem Put11.pure (n v : Int) (l : List Int) (hf : fitsF n v = true) (hr : roomy l = true) : Put11.f 9 n v l = some (l ++ be n.toNat v) := by
  obtain ⟨h1, h2, h3, h4⟩ := (fitsF_iff n v).1 hf
  have h5 : v < 9223372036854775808 := by
    have : n = 1 ∨ n = 2 ∨ n = 3 ∨ n = 4 ∨ n = 5 ∨ n = 6 ∨ n = 7 := by omega
    rcases this with rfl | rfl | rfl | rfl | rfl | rfl | rfl <;> simp at h4 <;> omega
  unfold Put11.f Put11.b
  rw [if_pos (by refine ⟨by omega, by omega, by omega, by omega⟩), wrap_small _ (by omega) (by omega)]
  have := Put11.loop 9 n v l hr 9 n.toNat v (List.replicate n.toNat (zeroI (.int .u8))) (by omega) (by simp) (by simp; omega) h3 h5
  rw [Int.toNat_of_nonneg (by omega)] at this
  rw [this]
  simp
end Go.Proofs.Ytlmljpmohljefaa

set_option linter.unusedVariables false
namespace Go.Proofs.Ytlmljpmohljefaa
open Go.Den
theorem s_write_det : SumDet s_write := fun avs objs R κ => by
  show s_write.run avs objs (two κ) = (s_write.run avs objs (two some)).bind κ
  unfold s_write
  simp only
  split
  · first | rfl | (split <;> rfl)
  · rfl
theorem s_write_ok : SumOk Try.prog 42 s_write := by
  have hE : EnvOk Try.prog OWrite_E := env_ok (l := []) th_ok any_ok trivial _
  refine sum_ok hE Try.func42 rfl (by kernel_rfl) s_write [.raw] OWrite.k ?_
  intro R avs objs κ r h
  unfold s_write at h
  simp only at h
  split at h
  · skip
    refine ⟨0, _, _, _, (OWrite.eq (0) ()).trans (rfl), ?_, h⟩
    intro rs ros hk
    unfold OWrite.k at hk
    split at hk
    · first | (cases hk; exact ⟨rfl, rfl⟩) | (have e := Option.some.inj hk; rw [← e]; exact ⟨rfl, rfl⟩)
    · cases hk
  · cases h
theorem s_bytes_det : SumDet s_bytes := fun avs objs R κ => by
  show s_bytes.run avs objs (two κ) = (s_bytes.run avs objs (two some)).bind κ
  unfold s_bytes
  simp only
  split
  · first | rfl | (split <;> rfl)
  · rfl
theorem s_bytes_ok : SumOk Try.prog 46 s_bytes := by
  have hE : EnvOk Try.prog OBytes_E := env_ok (l := []) th_ok any_ok trivial _
  refine sum_ok hE Try.func46 rfl (by kernel_rfl) s_bytes [.dat (.sl (.int .u8)) false, .raw] OBytes.k ?_
  intro R avs objs κ r h
  unfold s_bytes at h
  simp only at h
  split at h
  · rename_i l
    split at h
    case isFalse => cases h
    rename_i hl
    refine ⟨0, _, _, _, (OBytes.eq (0) l).trans (OBytes.pure l hl), ?_, h⟩
    intro rs ros hk
    unfold OBytes.k at hk
    split at hk
    · first | (cases hk; exact ⟨rfl, rfl⟩) | (have e := Option.some.inj hk; rw [← e]; exact ⟨rfl, rfl⟩)
    · cases hk
  · cases h
theorem s_put_det : SumDet s_put := fun avs objs R κ => by
  show s_put.run avs objs (two κ) = (s_put.run avs objs (two some)).bind κ
  unfold s_put
  simp only
  split
  · first | rfl | (split <;> rfl)
  · rfl
theorem s_put_ok : SumOk Try.prog 53 s_put := by
  have hE : EnvOk Try.prog Put11_E := env_ok (l := []) th_ok any_ok trivial _
  refine sum_ok hE Try.func53 rfl (by kernel_rfl) s_put [.own 5 (.int .u8)] Put11.k ?_
  intro R avs objs κ r h
  unfold s_put at h
  simp only at h
  split at h
  · rename_i n v l
    split at h
    case isFalse => cases h
    rename_i hl
    refine ⟨9, _, _, _, (Put11.eq (9) n v l).trans (Put11.pure n v l hl.1 hl.2), ?_, h⟩
    intro rs ros hk
    unfold Put11.k at hk
    split at hk
    · first | (cases hk; exact ⟨rfl, rfl⟩) | (have e := Option.some.inj hk; rw [← e]; exact ⟨rfl, rfl⟩)
    · cases hk
  · cases h
theorem s_num_det : SumDet s_num := fun avs objs R κ => by
  show s_num.run avs objs (two κ) = (s_num.run avs objs (two some)).bind κ
  unfold s_num
  simp only
  split
  · split <;> rfl
  · split <;> rfl
  · rfl
theorem s_num_ok : SumOk Try.prog 43 s_num := by
  have hN : EnvOk Try.prog NumN_E := env_ok (l := [(82, s_ofits)]) th_ok any_ok ⟨⟨s_ofits_ok, s_ofits_det⟩, trivial⟩ _
  have hR : EnvOk Try.prog NumR_E := env_ok (l := [(82, s_ofits)]) th_ok any_ok ⟨⟨s_ofits_ok, s_ofits_det⟩, trivial⟩ _
  refine sum_of hN (drawOk hN) Try.func43 rfl (by kernel_rfl) s_num [.raw] ?_
  intro R avs objs κ r h
  unfold s_num at h
  simp only at h
  split at h
  · rename_i n v
    split at h
    case isFalse => cases h
    rename_i hl
    refine ⟨9, ?_⟩
    rw [denF_any hN.D ((NumN.eq 9 n v).trans (NumN.pure n v hl)) (out := [.ptr 0 0]) (os := [.box [.row 1, .d .bool false], .row 5 (.int .u8) (be n.toNat v) false]) (fun rs ros hk => by
      unfold NumN.k at hk
      split at hk
      · have e := Option.some.inj hk; cases e; exact ⟨rfl, rfl⟩
      · cases hk)]
    exact h
  · rename_i n v l
    split at h
    case isFalse => cases h
    rename_i hl
    refine ⟨9, ?_⟩
    have := denF_any hR.D ((NumR.eq 9 n v l).trans (NumR.pure n v l hl.1 hl.2)) (out := [.ptr 0 0]) (os := [.box [.row 2, .d .bool false], .gone, .row 5 (.int .u8) (l ++ be n.toNat v) false]) (fun rs ros hk => by
      unfold NumR.k at hk
      split at hk
      · have e := Option.some.inj hk; cases e; exact ⟨rfl, rfl⟩
      · cases hk) κ
    exact this.trans h
  · cases h
end Go.Proofs.Ytlmljpmohljefaa

/- printed by denfn.py -/
set_option linter.unusedVariables false
namespace Go.Proofs.Ytlmljpmohljefaa
open Go.Den
noncomputable def stateL (r : (Int × Int × Int × (Int × Int) × Bool × List (Int × List Int))) : Int := if r.2.2.2.2.1 then r.2.2.1 + 4 * r.2.2.2.1.1 + 16 * r.2.2.2.1.2 + 64 else r.2.2.1 + 4 * r.2.2.2.1.1 + 16 * r.2.2.2.1.2
noncomputable def recB (r : (Int × Int × Int × (Int × Int) × Bool × List (Int × List Int))) : List Int := be 2 r.1 ++ (be 2 r.2.1 ++ be 1 (stateL r))
noncomputable def headB (kind from0 inc lo hi seq target len : Int) : List Int := be 1 kind ++ (be 2 from0 ++ (be 6 inc ++ (be 1 (lo * 16 + hi) ++ (be 2 seq ++ (be 2 target ++ be 1 len)))))
noncomputable def bodyF (kind from0 inc lo hi seq target : Int) (recs : List (Int × Int × Int × (Int × Int) × Bool × List (Int × List Int))) : List Int := headB kind from0 inc lo hi seq target (recs.length : Int) ++ recs.flatMap recB
noncomputable def encF (kind from0 inc lo hi seq target life epoch base : Int) (recs : List (Int × Int × Int × (Int × Int) × Bool × List (Int × List Int))) : List Int × Int :=
  if !validF kind from0 inc lo hi seq target life epoch base recs then ([], 1) else if !fits1 kind from0 inc lo hi seq target life epoch base recs then ([], 14) else (bodyF kind from0 inc lo hi seq target recs, 0)
noncomputable def s_body : Den.Sum := ⟨[.dat (.pair (.int .i64) (.pair (.int .i64) (.pair (.int .i64) (.pair (.pair (.int .i64) (.int .i64)) (.pair (.int .i64) (.pair (.int .i64) (.pair (.int .i64) (.pair (.int .i64) (.pair (.int .i64) (.sl (.pair (.int .i64) (.pair (.int .i64) (.pair (.int .i64) (.pair (.pair (.int .i64) (.int .i64)) (.pair .bool (.sl (.pair (.int .i64) (.sl (.int .u8))))))))))))))))))) true], fun args objs κ => match args, objs with
  | [.agg [.d (.int .i64) mkind, .d (.int .i64) mfrom0, .d (.int .i64) minc, .d (.int .i64) mlo, .d (.int .i64) mhi, .d (.int .i64) mseq, .d (.int .i64) mtarget, .d (.int .i64) mlife, .d (.int .i64) mepoch, .d (.int .i64) mbase, .d (.sl (.pair (.int .i64) (.pair (.int .i64) (.pair (.int .i64) (.pair (.pair (.int .i64) (.int .i64)) (.pair .bool (.sl (.pair (.int .i64) (.sl (.int .u8)))))))))) mrecs]], [] => if (fitsL mkind mfrom0 minc mlo mhi mseq mtarget mlife mepoch mbase mrecs && smallRecs mrecs) = true then κ [.d (.sl (.int .u8)) (bodyF mkind mfrom0 minc mlo mhi mseq mtarget mrecs)] [] else none
  | _, _ => none⟩
noncomputable def s_enc : Den.Sum := ⟨[.dat (.pair (.int .i64) (.pair (.int .i64) (.pair (.int .i64) (.pair (.pair (.int .i64) (.int .i64)) (.pair (.int .i64) (.pair (.int .i64) (.pair (.int .i64) (.pair (.int .i64) (.pair (.int .i64) (.sl (.pair (.int .i64) (.pair (.int .i64) (.pair (.int .i64) (.pair (.pair (.int .i64) (.int .i64)) (.pair .bool (.sl (.pair (.int .i64) (.sl (.int .u8))))))))))))))))))) true], fun args objs κ => match args, objs with
  | [.agg [.d (.int .i64) mkind, .d (.int .i64) mfrom0, .d (.int .i64) minc, .d (.int .i64) mlo, .d (.int .i64) mhi, .d (.int .i64) mseq, .d (.int .i64) mtarget, .d (.int .i64) mlife, .d (.int .i64) mepoch, .d (.int .i64) mbase, .d (.sl (.pair (.int .i64) (.pair (.int .i64) (.pair (.int .i64) (.pair (.pair (.int .i64) (.int .i64)) (.pair .bool (.sl (.pair (.int .i64) (.sl (.int .u8)))))))))) mrecs]], [] => if smallRecs mrecs = true then κ [.d (.sl (.int .u8)) (encF mkind mfrom0 minc mlo mhi mseq mtarget mlife mepoch mbase mrecs).1, .d (.int .i64) (encF mkind mfrom0 minc mlo mhi mseq mtarget mlife mepoch mbase mrecs).2] [] else none
  | _, _ => none⟩
noncomputable def s_awake11 : Den.Sum := ⟨[], fun args objs κ => match args, objs with
  | [], [] => κ [.d .bool true] []
  | _, _ => none⟩
noncomputable def Body11_E : Env := ⟨th, gam [(53, s_put)], fun i => if i = 9 then ⟨[1, 3, 4], [], []⟩ else ⟨[], [], []⟩⟩
noncomputable def Body11.k (rs : List AV) (os : List Den.Obj) : Option (List Int) :=
  match rs, os with
  | [.d (.sl (.int .u8)) r0], [] => some r0
  | _, _ => none
noncomputable def Body11.s9 (mkind : Int) (mfrom0 : Int) (minc : Int) (mlo : Int) (mhi : Int) (mseq : Int) (mtarget : Int) (mlife : Int) (mepoch : Int) (mbase : Int) (mrecs : List (Int × Int × Int × (Int × Int) × Bool × List (Int × List Int))) (x0 : Int) (x1 : (List Int)) : St := ⟨[.dead, .ptr 64 0, .dead, .row 65, .d (.int .i64) x0, .dead, .dead, .dead, .dead, .dead, .dead, .dead, .dead, .dead, .dead, .dead, .dead, .dead, .dead, .dead, .dead, .dead, .dead, .dead, .dead, .dead, .dead, .dead, .dead, .dead, .dead, .dead, .dead, .dead, .dead, .dead, .dead, .dead, .dead, .dead, .dead, .dead, .dead, .dead, .dead, .dead, .dead, .dead, .dead, .dead, .dead, .dead, .dead, .dead, .dead, .dead, .dead, .dead, .dead, .dead, .dead, .dead, .dead, .dead, .dead, .dead, .dead, .dead, .dead, .dead, .dead, .dead, .dead, .dead, .dead, .dead, .dead, .dead, .dead], ofL [(64, .box [.d (.int .i64) (mkind), .d (.int .i64) (mfrom0), .d (.int .i64) (minc), .d (.int .i64) (mlo), .d (.int .i64) (mhi), .d (.int .i64) (mseq), .d (.int .i64) (mtarget), .d (.int .i64) (mlife), .d (.int .i64) (mepoch), .d (.int .i64) (mbase), .d (.sl (.pair (.int .i64) (.pair (.int .i64) (.pair (.int .i64) (.pair (.pair (.int .i64) (.int .i64)) (.pair .bool (.sl (.pair (.int .i64) (.sl (.int .u8)))))))))) (mrecs)]), (65, .row 5 (.int .u8) x1 false)], 0⟩
noncomputable def Body11.b9 (mkind : Int) (mfrom0 : Int) (minc : Int) (mlo : Int) (mhi : Int) (mseq : Int) (mtarget : Int) (mlife : Int) (mepoch : Int) (mbase : Int) (mrecs : List (Int × Int × Int × (Int × Int) × Bool × List (Int × List Int))) (A9 : Int → (List Int) → Option (List Int)) (x0 : Int) (x1 : (List Int)) : Option (List Int) :=
  (if (decide (x0 < ((((List.length mrecs)) : Nat) : Int))) then (match (idx mrecs x0) with | none => none | some y2 => (if y2.2.2.2.2.1 then (if ((fitsF (2 : Int) y2.1) ∧ (roomy x1)) then (if ((fitsF (2 : Int) y2.2.1) ∧ (roomy (x1 ++ (be (Int.toNat (2 : Int)) y2.1)))) then (if ((fitsF (1 : Int) (Go.IntKind.wrap .i64 ((Go.IntKind.wrap .i64 ((Go.IntKind.wrap .i64 (y2.2.2.1 + (Go.IntKind.wrap .i64 ((4 : Int) * y2.2.2.2.1.1)))) + (Go.IntKind.wrap .i64 ((16 : Int) * y2.2.2.2.1.2)))) + (64 : Int)))) ∧ (roomy ((x1 ++ (be (Int.toNat (2 : Int)) y2.1)) ++ (be (Int.toNat (2 : Int)) y2.2.1)))) then A9 (Go.IntKind.wrap .i64 (x0 + (1 : Int))) (((x1 ++ (be (Int.toNat (2 : Int)) y2.1)) ++ (be (Int.toNat (2 : Int)) y2.2.1)) ++ (be (Int.toNat (1 : Int)) (Go.IntKind.wrap .i64 ((Go.IntKind.wrap .i64 ((Go.IntKind.wrap .i64 (y2.2.2.1 + (Go.IntKind.wrap .i64 ((4 : Int) * y2.2.2.2.1.1)))) + (Go.IntKind.wrap .i64 ((16 : Int) * y2.2.2.2.1.2)))) + (64 : Int))))) else none) else none) else none) else (if ((fitsF (2 : Int) y2.1) ∧ (roomy x1)) then (if ((fitsF (2 : Int) y2.2.1) ∧ (roomy (x1 ++ (be (Int.toNat (2 : Int)) y2.1)))) then (if ((fitsF (1 : Int) (Go.IntKind.wrap .i64 ((Go.IntKind.wrap .i64 (y2.2.2.1 + (Go.IntKind.wrap .i64 ((4 : Int) * y2.2.2.2.1.1)))) + (Go.IntKind.wrap .i64 ((16 : Int) * y2.2.2.2.1.2))))) ∧ (roomy ((x1 ++ (be (Int.toNat (2 : Int)) y2.1)) ++ (be (Int.toNat (2 : Int)) y2.2.1)))) then A9 (Go.IntKind.wrap .i64 (x0 + (1 : Int))) (((x1 ++ (be (Int.toNat (2 : Int)) y2.1)) ++ (be (Int.toNat (2 : Int)) y2.2.1)) ++ (be (Int.toNat (1 : Int)) (Go.IntKind.wrap .i64 ((Go.IntKind.wrap .i64 (y2.2.2.1 + (Go.IntKind.wrap .i64 ((4 : Int) * y2.2.2.2.1.1)))) + (Go.IntKind.wrap .i64 ((16 : Int) * y2.2.2.2.1.2)))))) else none) else none) else none))) else some (x1))
noncomputable def Body11.l9 (fuel : Nat) (mkind : Int) (mfrom0 : Int) (minc : Int) (mlo : Int) (mhi : Int) (mseq : Int) (mtarget : Int) (mlife : Int) (mepoch : Int) (mbase : Int) (mrecs : List (Int × Int × Int × (Int × Int) × Bool × List (Int × List Int))) : Nat → Int → (List Int) → Option (List Int)
  | 0, _, _ => none
  | k + 1, x0, x1 => Body11.b9 mkind mfrom0 minc mlo mhi mseq mtarget mlife mepoch mbase mrecs (Body11.l9 fuel mkind mfrom0 minc mlo mhi mseq mtarget mlife mepoch mbase mrecs k) x0 x1
noncomputable def Body11.b (mkind : Int) (mfrom0 : Int) (minc : Int) (mlo : Int) (mhi : Int) (mseq : Int) (mtarget : Int) (mlife : Int) (mepoch : Int) (mbase : Int) (mrecs : List (Int × Int × Int × (Int × Int) × Bool × List (Int × List Int))) (E9 : Int → (List Int) → Option (List Int)) : Option (List Int) :=
  (if ((fitsF (1 : Int) mkind) ∧ (roomy [])) then (if ((fitsF (2 : Int) mfrom0) ∧ (roomy ([] ++ (be (Int.toNat (1 : Int)) mkind)))) then (if ((fitsF (6 : Int) minc) ∧ (roomy (([] ++ (be (Int.toNat (1 : Int)) mkind)) ++ (be (Int.toNat (2 : Int)) mfrom0)))) then (if ((fitsF (1 : Int) (Go.IntKind.wrap .i64 ((Go.IntKind.wrap .i64 (mlo * (16 : Int))) + mhi))) ∧ (roomy ((([] ++ (be (Int.toNat (1 : Int)) mkind)) ++ (be (Int.toNat (2 : Int)) mfrom0)) ++ (be (Int.toNat (6 : Int)) minc)))) then (if ((fitsF (2 : Int) mseq) ∧ (roomy (((([] ++ (be (Int.toNat (1 : Int)) mkind)) ++ (be (Int.toNat (2 : Int)) mfrom0)) ++ (be (Int.toNat (6 : Int)) minc)) ++ (be (Int.toNat (1 : Int)) (Go.IntKind.wrap .i64 ((Go.IntKind.wrap .i64 (mlo * (16 : Int))) + mhi)))))) then (if ((fitsF (2 : Int) mtarget) ∧ (roomy ((((([] ++ (be (Int.toNat (1 : Int)) mkind)) ++ (be (Int.toNat (2 : Int)) mfrom0)) ++ (be (Int.toNat (6 : Int)) minc)) ++ (be (Int.toNat (1 : Int)) (Go.IntKind.wrap .i64 ((Go.IntKind.wrap .i64 (mlo * (16 : Int))) + mhi)))) ++ (be (Int.toNat (2 : Int)) mseq)))) then (if ((fitsF (1 : Int) ((((List.length mrecs)) : Nat) : Int)) ∧ (roomy (((((([] ++ (be (Int.toNat (1 : Int)) mkind)) ++ (be (Int.toNat (2 : Int)) mfrom0)) ++ (be (Int.toNat (6 : Int)) minc)) ++ (be (Int.toNat (1 : Int)) (Go.IntKind.wrap .i64 ((Go.IntKind.wrap .i64 (mlo * (16 : Int))) + mhi)))) ++ (be (Int.toNat (2 : Int)) mseq)) ++ (be (Int.toNat (2 : Int)) mtarget)))) then E9 (0 : Int) ((((((([] ++ (be (Int.toNat (1 : Int)) mkind)) ++ (be (Int.toNat (2 : Int)) mfrom0)) ++ (be (Int.toNat (6 : Int)) minc)) ++ (be (Int.toNat (1 : Int)) (Go.IntKind.wrap .i64 ((Go.IntKind.wrap .i64 (mlo * (16 : Int))) + mhi)))) ++ (be (Int.toNat (2 : Int)) mseq)) ++ (be (Int.toNat (2 : Int)) mtarget)) ++ (be (Int.toNat (1 : Int)) ((((List.length mrecs)) : Nat) : Int))) else none) else none) else none) else none) else none) else none) else none)
noncomputable def Body11.f (fuel : Nat) (mkind : Int) (mfrom0 : Int) (minc : Int) (mlo : Int) (mhi : Int) (mseq : Int) (mtarget : Int) (mlife : Int) (mepoch : Int) (mbase : Int) (mrecs : List (Int × Int × Int × (Int × Int) × Bool × List (Int × List Int))) : Option (List Int) := Body11.b mkind mfrom0 minc mlo mhi mseq mtarget mlife mepoch mbase mrecs (Body11.l9 fuel mkind mfrom0 minc mlo mhi mseq mtarget mlife mepoch mbase mrecs fuel)
theorem Body11.l9_eq (fuel : Nat) (mkind : Int) (mfrom0 : Int) (minc : Int) (mlo : Int) (mhi : Int) (mseq : Int) (mtarget : Int) (mlife : Int) (mepoch : Int) (mbase : Int) (mrecs : List (Int × Int × Int × (Int × Int) × Bool × List (Int × List Int))) : ∀ (k : Nat) (x0 : Int) (x1 : (List Int)), lp Body11_E fuel Try.f21 [.dat (.sl (.int .u8)) false] 0 Body11.k 9 [] k (Body11.s9 mkind mfrom0 minc mlo mhi mseq mtarget mlife mepoch mbase mrecs x0 x1) = Body11.l9 fuel mkind mfrom0 minc mlo mhi mseq mtarget mlife mepoch mbase mrecs k x0 x1 := by
  intro k
  induction k with
  | zero => intro x0 x1; rfl
  | succ k ih =>
    intro x0 x1
    have h : lp Body11_E fuel Try.f21 [.dat (.sl (.int .u8)) false] 0 Body11.k 9 [] (k + 1) (Body11.s9 mkind mfrom0 minc mlo mhi mseq mtarget mlife mepoch mbase mrecs x0 x1) = Body11.b9 mkind mfrom0 minc mlo mhi mseq mtarget mlife mepoch mbase mrecs (fun x0 x1 => lp Body11_E fuel Try.f21 [.dat (.sl (.int .u8)) false] 0 Body11.k 9 [] k (Body11.s9 mkind mfrom0 minc mlo mhi mseq mtarget mlife mepoch mbase mrecs x0 x1)) x0 x1 := by kernel_rfl
    rw [h]
    have e9 : (fun x0 x1 => lp Body11_E fuel Try.f21 [.dat (.sl (.int .u8)) false] 0 Body11.k 9 [] k (Body11.s9 mkind mfrom0 minc mlo mhi mseq mtarget mlife mepoch mbase mrecs x0 x1)) = Body11.l9 fuel mkind mfrom0 minc mlo mhi mseq mtarget mlife mepoch mbase mrecs k := (funext fun x0 => (funext fun x1 => ih x0 x1))
    rw [e9]
    rfl
theorem Body11.eq (fuel : Nat) (mkind : Int) (mfrom0 : Int) (minc : Int) (mlo : Int) (mhi : Int) (mseq : Int) (mtarget : Int) (mlife : Int) (mepoch : Int) (mbase : Int) (mrecs : List (Int × Int × Int × (Int × Int) × Bool × List (Int × List Int))) : (denF Body11_E loopN fuel Try.f21 [.dat (.sl (.int .u8)) false] [.agg [.d (.int .i64) mkind, .d (.int .i64) mfrom0, .d (.int .i64) minc, .d (.int .i64) mlo, .d (.int .i64) mhi, .d (.int .i64) mseq, .d (.int .i64) mtarget, .d (.int .i64) mlife, .d (.int .i64) mepoch, .d (.int .i64) mbase, .d (.sl (.pair (.int .i64) (.pair (.int .i64) (.pair (.int .i64) (.pair (.pair (.int .i64) (.int .i64)) (.pair .bool (.sl (.pair (.int .i64) (.sl (.int .u8)))))))))) mrecs]] [] Body11.k) = Body11.f fuel mkind mfrom0 minc mlo mhi mseq mtarget mlife mepoch mbase mrecs := by
  have h : (denF Body11_E loopN fuel Try.f21 [.dat (.sl (.int .u8)) false] [.agg [.d (.int .i64) mkind, .d (.int .i64) mfrom0, .d (.int .i64) minc, .d (.int .i64) mlo, .d (.int .i64) mhi, .d (.int .i64) mseq, .d (.int .i64) mtarget, .d (.int .i64) mlife, .d (.int .i64) mepoch, .d (.int .i64) mbase, .d (.sl (.pair (.int .i64) (.pair (.int .i64) (.pair (.int .i64) (.pair (.pair (.int .i64) (.int .i64)) (.pair .bool (.sl (.pair (.int .i64) (.sl (.int .u8)))))))))) mrecs]] [] Body11.k) = Body11.b mkind mfrom0 minc mlo mhi mseq mtarget mlife mepoch mbase mrecs (fun x0 x1 => lp Body11_E fuel Try.f21 [.dat (.sl (.int .u8)) false] 0 Body11.k 9 [] fuel (Body11.s9 mkind mfrom0 minc mlo mhi mseq mtarget mlife mepoch mbase mrecs x0 x1)) := by kernel_rfl
  rw [h]
  have e9 : (fun x0 x1 => lp Body11_E fuel Try.f21 [.dat (.sl (.int .u8)) false] 0 Body11.k 9 [] fuel (Body11.s9 mkind mfrom0 minc mlo mhi mseq mtarget mlife mepoch mbase mrecs x0 x1)) = Body11.l9 fuel mkind mfrom0 minc mlo mhi mseq mtarget mlife mepoch mbase mrecs fuel := (funext fun x0 => (funext fun x1 => Body11.l9_eq fuel mkind mfrom0 minc mlo mhi mseq mtarget mlife mepoch mbase mrecs fuel x0 x1))
  rw [e9]
  rfl


noncomputable def Encode1_E : Env := ⟨th, gam [(20, s_valid), (18, s_fits1), (42, s_write), (44, s_code), (45, s_state), (43, s_num), (46, s_bytes)], fun i => if i = 15 then ⟨[4, 5, 50, 51, 52], [], []⟩ else ⟨[], [], []⟩⟩
noncomputable def Encode1.k (rs : List AV) (os : List Den.Obj) : Option ((List Int) × Int) :=
  match rs, os with
  | [.d (.sl (.int .u8)) r0, .d (.int .i64) r1], [] => some (r0, r1)
  | _, _ => none
noncomputable def Encode1.s15 (mkind : Int) (mfrom0 : Int) (minc : Int) (mlo : Int) (mhi : Int) (mseq : Int) (mtarget : Int) (mlife : Int) (mepoch : Int) (mbase : Int) (mrecs : List (Int × Int × Int × (Int × Int) × Bool × List (Int × List Int))) (x0 : Int) (x1 : Int) (x2 : (List Int)) : St := ⟨[.dead, .dead, .dead, .dead, .ptr 64 0, .fn (.func 43) [.ptr 64 0] [], .dead, .dead, .dead, .dead, .dead, .dead, .dead, .dead, .dead, .dead, .dead, .dead, .dead, .dead, .dead, .dead, .dead, .dead, .dead, .dead, .dead, .dead, .dead, .dead, .dead, .dead, .dead, .dead, .dead, .dead, .dead, .dead, .dead, .dead, .dead, .dead, .dead, .dead, .dead, .dead, .dead, .dead, .dead, .dead, .d (.sl (.pair (.int .i64) (.pair (.int .i64) (.pair (.int .i64) (.pair (.pair (.int .i64) (.int .i64)) (.pair .bool (.sl (.pair (.int .i64) (.sl (.int .u8)))))))))) (mrecs), .d (.int .i64) x0, .d (.int .i64) x1, .dead, .dead, .dead, .dead, .dead, .dead, .dead, .dead, .dead, .dead, .dead, .dead, .dead, .dead, .dead, .dead, .dead, .dead, .dead, .dead, .dead, .dead], ofL [(64, .box [.row 65, .d .bool (false)]), (65, .row 5 (.int .u8) x2 false)], 0⟩
noncomputable def Encode1.b15 (mkind : Int) (mfrom0 : Int) (minc : Int) (mlo : Int) (mhi : Int) (mseq : Int) (mtarget : Int) (mlife : Int) (mepoch : Int) (mbase : Int) (mrecs : List (Int × Int × Int × (Int × Int) × Bool × List (Int × List Int))) (A15 : Int → Int → (List Int) → Option ((List Int) × Int)) (x0 : Int) (x1 : Int) (x2 : (List Int)) : Option ((List Int) × Int) :=
  (if (decide (x1 < x0)) then (match (idx mrecs x1) with | none => none | some y3 => (if ((fitsF (2 : Int) y3.1) ∧ (roomy x2)) then (if ((fitsF (2 : Int) y3.2.1) ∧ (roomy (x2 ++ (be (Int.toNat (2 : Int)) y3.1)))) then (if ((fitsF (1 : Int) (stateF y3.2.2.1 y3.2.2.2.1.1 y3.2.2.2.1.2 y3.2.2.2.2.1)) ∧ (roomy ((x2 ++ (be (Int.toNat (2 : Int)) y3.1)) ++ (be (Int.toNat (2 : Int)) y3.2.1)))) then A15 x0 (Go.IntKind.wrap .i64 (x1 + (1 : Int))) (((x2 ++ (be (Int.toNat (2 : Int)) y3.1)) ++ (be (Int.toNat (2 : Int)) y3.2.1)) ++ (be (Int.toNat (1 : Int)) (stateF y3.2.2.1 y3.2.2.2.1.1 y3.2.2.2.1.2 y3.2.2.2.2.1))) else none) else none) else none)) else (if (roomy x2) then some (x2, (0 : Int)) else none))
noncomputable def Encode1.l15 (fuel : Nat) (mkind : Int) (mfrom0 : Int) (minc : Int) (mlo : Int) (mhi : Int) (mseq : Int) (mtarget : Int) (mlife : Int) (mepoch : Int) (mbase : Int) (mrecs : List (Int × Int × Int × (Int × Int) × Bool × List (Int × List Int))) : Nat → Int → Int → (List Int) → Option ((List Int) × Int)
  | 0, _, _, _ => none
  | k + 1, x0, x1, x2 => Encode1.b15 mkind mfrom0 minc mlo mhi mseq mtarget mlife mepoch mbase mrecs (Encode1.l15 fuel mkind mfrom0 minc mlo mhi mseq mtarget mlife mepoch mbase mrecs k) x0 x1 x2
noncomputable def Encode1.b (mkind : Int) (mfrom0 : Int) (minc : Int) (mlo : Int) (mhi : Int) (mseq : Int) (mtarget : Int) (mlife : Int) (mepoch : Int) (mbase : Int) (mrecs : List (Int × Int × Int × (Int × Int) × Bool × List (Int × List Int))) (E15 : Int → Int → (List Int) → Option ((List Int) × Int)) : Option ((List Int) × Int) :=
  (if (smallRecs mrecs) then (if (!(validF mkind mfrom0 minc mlo mhi mseq mtarget mlife mepoch mbase mrecs)) then some ([], (1 : Int)) else (if (smallRecs mrecs) then (if (!(fits1 mkind mfrom0 minc mlo mhi mseq mtarget mlife mepoch mbase mrecs)) then some ([], (14 : Int)) else (if (fitsF (1 : Int) mkind) then (if ((fitsF (2 : Int) mfrom0) ∧ (roomy (be (Int.toNat (1 : Int)) mkind))) then (if ((fitsF (6 : Int) minc) ∧ (roomy ((be (Int.toNat (1 : Int)) mkind) ++ (be (Int.toNat (2 : Int)) mfrom0)))) then (if ((fitsF (1 : Int) (codeF mlo mhi)) ∧ (roomy (((be (Int.toNat (1 : Int)) mkind) ++ (be (Int.toNat (2 : Int)) mfrom0)) ++ (be (Int.toNat (6 : Int)) minc)))) then (if ((fitsF (2 : Int) mseq) ∧ (roomy ((((be (Int.toNat (1 : Int)) mkind) ++ (be (Int.toNat (2 : Int)) mfrom0)) ++ (be (Int.toNat (6 : Int)) minc)) ++ (be (Int.toNat (1 : Int)) (codeF mlo mhi))))) then (if ((fitsF (2 : Int) mtarget) ∧ (roomy (((((be (Int.toNat (1 : Int)) mkind) ++ (be (Int.toNat (2 : Int)) mfrom0)) ++ (be (Int.toNat (6 : Int)) minc)) ++ (be (Int.toNat (1 : Int)) (codeF mlo mhi))) ++ (be (Int.toNat (2 : Int)) mseq)))) then (if ((fitsF (1 : Int) ((((List.length mrecs)) : Nat) : Int)) ∧ (roomy ((((((be (Int.toNat (1 : Int)) mkind) ++ (be (Int.toNat (2 : Int)) mfrom0)) ++ (be (Int.toNat (6 : Int)) minc)) ++ (be (Int.toNat (1 : Int)) (codeF mlo mhi))) ++ (be (Int.toNat (2 : Int)) mseq)) ++ (be (Int.toNat (2 : Int)) mtarget)))) then E15 ((((List.length mrecs)) : Nat) : Int) (0 : Int) (((((((be (Int.toNat (1 : Int)) mkind) ++ (be (Int.toNat (2 : Int)) mfrom0)) ++ (be (Int.toNat (6 : Int)) minc)) ++ (be (Int.toNat (1 : Int)) (codeF mlo mhi))) ++ (be (Int.toNat (2 : Int)) mseq)) ++ (be (Int.toNat (2 : Int)) mtarget)) ++ (be (Int.toNat (1 : Int)) ((((List.length mrecs)) : Nat) : Int))) else none) else none) else none) else none) else none) else none) else none)) else none)) else none)
noncomputable def Encode1.f (fuel : Nat) (mkind : Int) (mfrom0 : Int) (minc : Int) (mlo : Int) (mhi : Int) (mseq : Int) (mtarget : Int) (mlife : Int) (mepoch : Int) (mbase : Int) (mrecs : List (Int × Int × Int × (Int × Int) × Bool × List (Int × List Int))) : Option ((List Int) × Int) := Encode1.b mkind mfrom0 minc mlo mhi mseq mtarget mlife mepoch mbase mrecs (Encode1.l15 fuel mkind mfrom0 minc mlo mhi mseq mtarget mlife mepoch mbase mrecs fuel)
theorem Encode1.l15_eq (fuel : Nat) (mkind : Int) (mfrom0 : Int) (minc : Int) (mlo : Int) (mhi : Int) (mseq : Int) (mtarget : Int) (mlife : Int) (mepoch : Int) (mbase : Int) (mrecs : List (Int × Int × Int × (Int × Int) × Bool × List (Int × List Int))) : ∀ (k : Nat) (x0 : Int) (x1 : Int) (x2 : (List Int)), lp Encode1_E fuel Try.f17 [.dat (.sl (.int .u8)) false, .raw] 0 Encode1.k 15 [] k (Encode1.s15 mkind mfrom0 minc mlo mhi mseq mtarget mlife mepoch mbase mrecs x0 x1 x2) = Encode1.l15 fuel mkind mfrom0 minc mlo mhi mseq mtarget mlife mepoch mbase mrecs k x0 x1 x2 := by
  intro k
  induction k with
  | zero => intro x0 x1 x2; rfl
  | succ k ih =>
    intro x0 x1 x2
    have h : lp Encode1_E fuel Try.f17 [.dat (.sl (.int .u8)) false, .raw] 0 Encode1.k 15 [] (k + 1) (Encode1.s15 mkind mfrom0 minc mlo mhi mseq mtarget mlife mepoch mbase mrecs x0 x1 x2) = Encode1.b15 mkind mfrom0 minc mlo mhi mseq mtarget mlife mepoch mbase mrecs (fun x0 x1 x2 => lp Encode1_E fuel Try.f17 [.dat (.sl (.int .u8)) false, .raw] 0 Encode1.k 15 [] k (Encode1.s15 mkind mfrom0 minc mlo mhi mseq mtarget mlife mepoch mbase mrecs x0 x1 x2)) x0 x1 x2 := by kernel_rfl
    rw [h]
    have e15 : (fun x0 x1 x2 => lp Encode1_E fuel Try.f17 [.dat (.sl (.int .u8)) false, .raw] 0 Encode1.k 15 [] k (Encode1.s15 mkind mfrom0 minc mlo mhi mseq mtarget mlife mepoch mbase mrecs x0 x1 x2)) = Encode1.l15 fuel mkind mfrom0 minc mlo mhi mseq mtarget mlife mepoch mbase mrecs k := (funext fun x0 => (funext fun x1 => (funext fun x2 => ih x0 x1 x2)))
    rw [e15]
    rfl
theorem Encode1.eq (fuel : Nat) (mkind : Int) (mfrom0 : Int) (minc : Int) (mlo : Int) (mhi : Int) (mseq : Int) (mtarget : Int) (mlife : Int) (mepoch : Int) (mbase : Int) (mrecs : List (Int × Int × Int × (Int × Int) × Bool × List (Int × List Int))) : (denF Encode1_E loopN fuel Try.f17 [.dat (.sl (.int .u8)) false, .raw] [.agg [.d (.int .i64) mkind, .d (.int .i64) mfrom0, .d (.int .i64) minc, .d (.int .i64) mlo, .d (.int .i64) mhi, .d (.int .i64) mseq, .d (.int .i64) mtarget, .d (.int .i64) mlife, .d (.int .i64) mepoch, .d (.int .i64) mbase, .d (.sl (.pair (.int .i64) (.pair (.int .i64) (.pair (.int .i64) (.pair (.pair (.int .i64) (.int .i64)) (.pair .bool (.sl (.pair (.int .i64) (.sl (.int .u8)))))))))) mrecs]] [] Encode1.k) = Encode1.f fuel mkind mfrom0 minc mlo mhi mseq mtarget mlife mepoch mbase mrecs := by
  have h : (denF Encode1_E loopN fuel Try.f17 [.dat (.sl (.int .u8)) false, .raw] [.agg [.d (.int .i64) mkind, .d (.int .i64) mfrom0, .d (.int .i64) minc, .d (.int .i64) mlo, .d (.int .i64) mhi, .d (.int .i64) mseq, .d (.int .i64) mtarget, .d (.int .i64) mlife, .d (.int .i64) mepoch, .d (.int .i64) mbase, .d (.sl (.pair (.int .i64) (.pair (.int .i64) (.pair (.int .i64) (.pair (.pair (.int .i64) (.int .i64)) (.pair .bool (.sl (.pair (.int .i64) (.sl (.int .u8)))))))))) mrecs]] [] Encode1.k) = Encode1.b mkind mfrom0 minc mlo mhi mseq mtarget mlife mepoch mbase mrecs (fun x0 x1 x2 => lp Encode1_E fuel Try.f17 [.dat (.sl (.int .u8)) false, .raw] 0 Encode1.k 15 [] fuel (Encode1.s15 mkind mfrom0 minc mlo mhi mseq mtarget mlife mepoch mbase mrecs x0 x1 x2)) := by kernel_rfl
  rw [h]
  have e15 : (fun x0 x1 x2 => lp Encode1_E fuel Try.f17 [.dat (.sl (.int .u8)) false, .raw] 0 Encode1.k 15 [] fuel (Encode1.s15 mkind mfrom0 minc mlo mhi mseq mtarget mlife mepoch mbase mrecs x0 x1 x2)) = Encode1.l15 fuel mkind mfrom0 minc mlo mhi mseq mtarget mlife mepoch mbase mrecs fuel := (funext fun x0 => (funext fun x1 => (funext fun x2 => Encode1.l15_eq fuel mkind mfrom0 minc mlo mhi mseq mtarget mlife mepoch mbase mrecs fuel x0 x1 x2)))
  rw [e15]
  rfl


noncomputable def awake11_E : Env := ⟨th, gam [(17, s_enc)], fun i => ⟨[], [], []⟩⟩
noncomputable def awake11.k (rs : List AV) (os : List Den.Obj) : Option Bool :=
  match rs, os with
  | [.d .bool r0], [] => some r0
  | _, _ => none
noncomputable def awake11.b (u : Unit) : Option Bool :=
  some (((encF (9 : Int) 0 0 (1 : Int) (3 : Int) 0 0 0 (1 : Int) 0 []).2 == (14 : Int)))
noncomputable def awake11.f (fuel : Nat) (u : Unit) : Option Bool := awake11.b u
theorem awake11.eq (fuel : Nat) (u : Unit) : (denF awake11_E loopN fuel Try.f16 [.raw] [] [] awake11.k) = awake11.f fuel u := by
  kernel_rfl


noncomputable def Gen1Writes_E : Env := ⟨th, gam [(15, s_few10), (16, s_awake11), (17, s_enc), (18, s_fits1), (19, s_fitsL), (20, s_valid), (21, s_body)], fun i => ⟨[], [], []⟩⟩
noncomputable def Gen1Writes.k (rs : List AV) (os : List Den.Obj) : Option Bool :=
  match rs, os with
  | [.d .bool r0], [] => some r0
  | _, _ => none
noncomputable def Gen1Writes.b (mkind : Int) (mfrom0 : Int) (minc : Int) (mlo : Int) (mhi : Int) (mseq : Int) (mtarget : Int) (mlife : Int) (mepoch : Int) (mbase : Int) (mrecs : List (Int × Int × Int × (Int × Int) × Bool × List (Int × List Int))) : Option Bool :=
  (if (smallRecs mrecs) then (if (!(few8 mrecs)) then some (true) else (if (smallRecs mrecs) then (if (smallRecs mrecs) then (if (smallRecs mrecs) then (if (!((fits1 mkind mfrom0 minc mlo mhi mseq mtarget mlife mepoch mbase mrecs) == (fitsL mkind mfrom0 minc mlo mhi mseq mtarget mlife mepoch mbase mrecs))) then some (false) else (if (smallRecs mrecs) then (if (!(validF mkind mfrom0 minc mlo mhi mseq mtarget mlife mepoch mbase mrecs)) then (if (((((List.length (encF mkind mfrom0 minc mlo mhi mseq mtarget mlife mepoch mbase mrecs).1)) : Nat) : Int) == (0 : Int)) then (if ((encF mkind mfrom0 minc mlo mhi mseq mtarget mlife mepoch mbase mrecs).2 == (1 : Int)) then some (true) else some (false)) else some (false)) else (if (smallRecs mrecs) then (if (!(fitsL mkind mfrom0 minc mlo mhi mseq mtarget mlife mepoch mbase mrecs)) then (if (((((List.length (encF mkind mfrom0 minc mlo mhi mseq mtarget mlife mepoch mbase mrecs).1)) : Nat) : Int) == (0 : Int)) then (if ((encF mkind mfrom0 minc mlo mhi mseq mtarget mlife mepoch mbase mrecs).2 == (14 : Int)) then some (true) else some (false)) else some (false)) else (if ((encF mkind mfrom0 minc mlo mhi mseq mtarget mlife mepoch mbase mrecs).2 == (0 : Int)) then (if ((fitsL mkind mfrom0 minc mlo mhi mseq mtarget mlife mepoch mbase mrecs) && (smallRecs mrecs)) then (if ((ByteArray.toList (strOf (encF mkind mfrom0 minc mlo mhi mseq mtarget mlife mepoch mbase mrecs).1)) == (ByteArray.toList (strOf (bodyF mkind mfrom0 minc mlo mhi mseq mtarget mrecs)))) then some (true) else some (false)) else none) else some (false))) else none)) else none)) else none) else none) else none)) else none)
noncomputable def Gen1Writes.f (fuel : Nat) (mkind : Int) (mfrom0 : Int) (minc : Int) (mlo : Int) (mhi : Int) (mseq : Int) (mtarget : Int) (mlife : Int) (mepoch : Int) (mbase : Int) (mrecs : List (Int × Int × Int × (Int × Int) × Bool × List (Int × List Int))) : Option Bool := Gen1Writes.b mkind mfrom0 minc mlo mhi mseq mtarget mlife mepoch mbase mrecs
theorem Gen1Writes.eq (fuel : Nat) (mkind : Int) (mfrom0 : Int) (minc : Int) (mlo : Int) (mhi : Int) (mseq : Int) (mtarget : Int) (mlife : Int) (mepoch : Int) (mbase : Int) (mrecs : List (Int × Int × Int × (Int × Int) × Bool × List (Int × List Int))) : (denF Gen1Writes_E loopN fuel Try.f3 [.raw] [.agg [.d (.int .i64) mkind, .d (.int .i64) mfrom0, .d (.int .i64) minc, .d (.int .i64) mlo, .d (.int .i64) mhi, .d (.int .i64) mseq, .d (.int .i64) mtarget, .d (.int .i64) mlife, .d (.int .i64) mepoch, .d (.int .i64) mbase, .d (.sl (.pair (.int .i64) (.pair (.int .i64) (.pair (.int .i64) (.pair (.pair (.int .i64) (.int .i64)) (.pair .bool (.sl (.pair (.int .i64) (.sl (.int .u8)))))))))) mrecs]] [] Gen1Writes.k) = Gen1Writes.f fuel mkind mfrom0 minc mlo mhi mseq mtarget mlife mepoch mbase mrecs := by
  kernel_rfl


end Go.Proofs.Ytlmljpmohljefaa

set_option linter.unusedVariables false
set_option linter.unusedSimpArgs false
namespace Go.Proofs.Ytlmljpmohljefaa
open Go.Den
theorem of_name {k : Int} (h : ((ofF k).1.toList == (⟨#[]⟩ : ByteArray).toList) = false) : 1 ≤ k ∧ k ≤ 9 := by
  unfold ofF at h
  split at h
  · simp at h
  · rename_i hc
    simp only [Bool.or_eq_true, decide_eq_true_eq, not_or] at hc
    omega
theorem whGo_ge : ∀ (l : List (Int × Int × Int × (Int × Int) × Bool × List (Int × List Int))) (i last : Int), i ≤ (whGo l i last).1 ∧ (whGo l i last).1 ≤ i + (l.length : Int)
  | [], i, last => by simp [whGo]
  | r :: l, i, last => by
    unfold whGo
    split
    · simp; omega
    · have := whGo_ge l (i + 1) r.1
      simp only [List.length_cons]
      omega
theorem whGo_all : ∀ (l : List (Int × Int × Int × (Int × Int) × Bool × List (Int × List Int))) (i last : Int), (whGo l i last).1 = i + (l.length : Int) → ∀ r ∈ l, recOkT r = true
  | [], _, _, _, r, hr => by simp at hr
  | x :: l, i, last, h, r, hr => by
    unfold whGo at h
    split at h
    · simp at h; omega
    · rename_i hc
      simp only [Bool.or_eq_true, not_or, Bool.not_eq_true', Bool.not_eq_false] at hc
      rcases List.mem_cons.1 hr with rfl | hr
      · exact hc.1
      · exact whGo_all l (i + 1) x.1 (by simp only [List.length_cons] at h; omega) r hr
theorem recOk_facts {r : Int × Int × Int × (Int × Int) × Bool × List (Int × List Int)} (h : recOkT r = true) : 0 ≤ r.1 ∧ r.1 ≤ 4095 ∧ 0 ≤ r.2.1 ∧ r.2.1 ≤ 281474976710655 ∧ 0 ≤ r.2.2.1 ∧ r.2.2.1 ≤ 3 ∧ okS r.2.2.2.1.1 r.2.2.2.1.2 = true ∧ bagOk r.2.2.2.2.2 = true ∧ (r.2.2.2.2.1 = true → r.2.2.2.2.2 = []) := by
  unfold recOkT recOk at h
  split at h
  · cases h
  split at h
  · cases h
  split at h
  · cases h
  split at h
  · cases h
  split at h
  · cases h
  rename_i h1 h2 h3 h4 h5
  simp only [Bool.or_eq_true, decide_eq_true_eq, not_or, Bool.not_eq_true', Bool.not_eq_false] at h1 h2 h3 h4
  simp only [Bool.and_eq_true, decide_eq_true_eq, not_and] at h5
  refine ⟨by omega, by omega, by omega, by omega, by omega, by omega, h4.1, h4.2, fun hc => ?_⟩
  have := h5 hc
  exact List.eq_nil_of_length_eq_zero (by omega)
theorem within_facts {had : Bool} {v hi : Int} (h : withinF had v 0 hi = true) (h0 : 0 ≤ hi) : 0 ≤ v ∧ v ≤ hi := by
  unfold withinF at h
  cases had
  · simp at h; omega
  · simp at h; exact h
/-- what a valid message's numbers are -/
theorem valid_facts {kind from0 inc lo hi seq target life epoch base : Int} {recs : List (Int × Int × Int × (Int × Int) × Bool × List (Int × List Int))} (h : validF kind from0 inc lo hi seq target life epoch base recs = true) :
    1 ≤ kind ∧ kind ≤ 9 ∧ 0 ≤ from0 ∧ from0 ≤ 4095 ∧ 0 ≤ inc ∧ inc ≤ 281474976710655 ∧ okS lo hi = true ∧ 0 ≤ seq ∧ seq ≤ 65535 ∧ 0 ≤ target ∧ target ≤ 4095 ∧ livesF kind life epoch base = true ∧ recs.length ≤ 255 ∧ ∀ r ∈ recs, recOkT r = true := by
  unfold validF at h
  have h1 : ((ofF kind).1.toList == (⟨#[]⟩ : ByteArray).toList || (decide (from0 < 0) || (decide (from0 > 4095) || (decide (inc < 0) || (decide (inc > 281474976710655) || !okS lo hi))))) = false := by
    cases hc : ((ofF kind).1.toList == (⟨#[]⟩ : ByteArray).toList || (decide (from0 < 0) || (decide (from0 > 4095) || (decide (inc < 0) || (decide (inc > 281474976710655) || !okS lo hi))))) with
    | false => rfl
    | true => rw [hc] at h; cases h
  rw [h1] at h
  have h2 : (!withinF (hasF kind 0) seq 0 65535 || (!withinF (hasF kind 1) target (if kind == 3 then 1 else 0) (if kind == 3 then 3 else 4095) || !livesF kind life epoch base)) = false := by
    cases hc : (!withinF (hasF kind 0) seq 0 65535 || (!withinF (hasF kind 1) target (if kind == 3 then 1 else 0) (if kind == 3 then 3 else 4095) || !livesF kind life epoch base)) with
    | false => rfl
    | true => rw [hc] at h; cases h
  rw [h2] at h
  simp only [Bool.false_eq_true, if_false] at h
  simp only [Bool.or_eq_false_iff, decide_eq_false_iff_not, Bool.not_eq_false'] at h1 h2
  obtain ⟨k1, k2, k3, k4, k5, k6⟩ := h1
  obtain ⟨m1, m2, m3⟩ := h2
  have hk := of_name k1
  have hs := within_facts m1 (by omega)
  have ht : 0 ≤ target ∧ target ≤ 4095 := by
    unfold withinF at m2
    cases hh : hasF kind 1
    · rw [hh] at m2
      simp at m2; omega
    · rw [hh] at m2
      by_cases h3 : kind = 3
      · simp [h3] at m2; omega
      · simp [h3] at m2; exact m2
  refine ⟨hk.1, hk.2, by omega, by omega, by omega, by omega, k6, hs.1, hs.2, ht.1, ht.2, m3, ?_⟩
  split at h
  · have : recs = [] := List.eq_nil_of_length_eq_zero (by simpa using h)
    subst this
    simp
  · simp only [Bool.and_eq_true, decide_eq_true_eq] at h
    refine ⟨by omega, ?_⟩
    have hs := h.2
    unfold sortedF at hs
    exact whGo_all recs 0 (-1) (by simpa using hs)
theorem lives_zero {kind life base : Int} (h : livesF kind life 0 base = true) : life = 0 ∧ base = 0 := by
  unfold livesF at h
  split at h
  · cases h
  split at h
  · cases h
  rename_i h1 h2
  simp only [beq_self_eq_true, Bool.true_and, Bool.or_eq_true, not_or, bne_iff_ne, ne_eq, Decidable.not_not] at h2
  refine ⟨h2.1, ?_⟩
  simp only [Bool.or_eq_true, Bool.and_eq_true, beq_iff_eq, decide_eq_true_eq] at h
  rcases h with h | h
  · exact h
  · omega
/-- both say which messages fit -/
theorem fits_same (kind from0 inc lo hi seq target life epoch base : Int) (recs : List (Int × Int × Int × (Int × Int) × Bool × List (Int × List Int))) : fits1 kind from0 inc lo hi seq target life epoch base recs = fitsL kind from0 inc lo hi seq target life epoch base recs := by
  unfold fits1 fitsL
  cases hv : validF kind from0 inc lo hi seq target life epoch base recs
  · rfl
  · by_cases he : epoch = 0
    · subst he
      obtain ⟨_, _, _, _, _, _, _, _, _, _, _, hl, _⟩ := valid_facts hv
      obtain ⟨rfl, rfl⟩ := lives_zero hl
      simp
    · by_cases h9 : kind = 9
      · simp [h9]
      · simp [he, h9]
theorem fitGo_all : ∀ (l : List (Int × Int × Int × (Int × Int) × Bool × List (Int × List Int))), fitGo l = true → ∀ r ∈ l, r.2.1 ≤ 65535 ∧ r.2.2.2.2.2 = []
  | [], _, r, hr => by simp at hr
  | x :: l, h, r, hr => by
    unfold fitGo at h
    split at h
    · cases h
    · rename_i hc
      simp only [Bool.or_eq_true, not_or, decide_eq_true_eq] at hc
      rcases List.mem_cons.1 hr with rfl | hr
      · exact ⟨by omega, List.eq_nil_of_length_eq_zero (by omega)⟩
      · exact fitGo_all l h r hr
theorem fits_facts {kind from0 inc lo hi seq target life epoch base : Int} {recs : List (Int × Int × Int × (Int × Int) × Bool × List (Int × List Int))} (h : fitsL kind from0 inc lo hi seq target life epoch base recs = true) :
    validF kind from0 inc lo hi seq target life epoch base recs = true ∧ ∀ r ∈ recs, r.2.1 ≤ 65535 ∧ r.2.2.2.2.2 = [] := by
  unfold fitsL at h
  split at h
  · cases h
  · rename_i hc
    simp only [Bool.or_eq_true, not_or, Bool.not_eq_true', Bool.not_eq_false] at hc
    exact ⟨hc.1, fitGo_all recs h⟩
theorem fits_byte {v : Int} (h0 : 0 ≤ v) (h1 : v < 256) : fitsF 1 v = true := (fitsF_iff 1 v).2 ⟨by omega, by omega, h0, by simpa using h1⟩
theorem fits_two {v : Int} (h0 : 0 ≤ v) (h1 : v < 65536) : fitsF 2 v = true := (fitsF_iff 2 v).2 ⟨by omega, by omega, h0, by simpa using h1⟩
theorem fits_six {v : Int} (h0 : 0 ≤ v) (h1 : v < 281474976710656) : fitsF 6 v = true := (fitsF_iff 6 v).2 ⟨by omega, by omega, h0, by simpa using h1⟩
theorem code_eq {lo hi : Int} (h : okS lo hi = true) : codeF lo hi = lo * 16 + hi := by
  have := (okS_iff lo hi).1 h
  have h1 : lo = 1 ∨ lo = 2 ∨ lo = 3 := by omega
  have h2 : hi = 1 ∨ hi = 2 ∨ hi = 3 := by omega
  rcases h1 with rfl | rfl | rfl <;> rcases h2 with rfl | rfl | rfl <;> first | omega | rfl | kernel_rfl
theorem state_eq {r : Int × Int × Int × (Int × Int) × Bool × List (Int × List Int)} (h : recOkT r = true) : stateF r.2.2.1 r.2.2.2.1.1 r.2.2.2.1.2 r.2.2.2.2.1 = stateL r ∧ 0 ≤ stateL r ∧ stateL r < 256 := by
  obtain ⟨id, inc, st, ⟨lo, hi⟩, cut, bag⟩ := r
  obtain ⟨_, _, _, _, h5, h6, h7, _, _⟩ := recOk_facts h
  have := (okS_iff lo hi).1 h7
  dsimp only at h5 h6 h7 ⊢
  have h0 : st = 0 ∨ st = 1 ∨ st = 2 ∨ st = 3 := by omega
  have h1 : lo = 1 ∨ lo = 2 ∨ lo = 3 := by omega
  have h2 : hi = 1 ∨ hi = 2 ∨ hi = 3 := by omega
  refine ⟨?_, by unfold stateL; dsimp only; split <;> omega, by unfold stateL; dsimp only; split <;> omega⟩
  rcases h0 with rfl | rfl | rfl | rfl <;> rcases h1 with rfl | rfl | rfl <;> rcases h2 with rfl | rfl | rfl <;> cases cut <;> kernel_rfl
theorem n1 : Int.toNat (1 : Int) = 1 := rfl
theorem n2 : Int.toNat (2 : Int) = 2 := rfl
theorem n6 : Int.toNat (6 : Int) = 6 := rfl
theorem roomy_of {l : List Int} (h : l.length < 1099511600000) : roomy l = true := (roomy_iff l).2 h
theorem recB_length (r : (Int × Int × Int × (Int × Int) × Bool × List (Int × List Int))) : (recB r).length = 5 := by unfold recB; simp [be_length]
theorem Body11.loop (fuel : Nat) (kind from0 inc lo hi seq target life epoch base : Int) (recs : List (Int × Int × Int × (Int × Int) × Bool × List (Int × List Int))) (hr : ∀ r ∈ recs, recOkT r = true ∧ r.2.1 ≤ 65535) (hlen : recs.length ≤ 255) : ∀ (k i : Nat) (acc : List Int), i ≤ recs.length → recs.length - i < k → acc.length + 5 * (recs.length - i) < 2000 →
    Body11.l9 fuel kind from0 inc lo hi seq target life epoch base recs k (i : Int) acc = some (acc ++ (recs.drop i).flatMap recB) := by
  intro k
  induction k with
  | zero => intro i acc h1 h2; omega
  | succ k ih =>
    intro i acc h1 h2 h3
    rw [Body11.l9]
    unfold Body11.b9
    by_cases hi' : i < recs.length
    · rw [if_pos (by simp; omega), idx_at, List.getElem?_eq_getElem hi']
      dsimp only
      rw [List.drop_eq_getElem_cons hi', List.flatMap_cons]
      obtain ⟨hok, hinc⟩ := hr recs[i] (List.getElem_mem hi')
      generalize recs[i] = r at hok hinc ⊢
      obtain ⟨f1, f2, f3, f4, f5, f6, f7, _, _⟩ := recOk_facts hok
      have f8 := (okS_iff _ _).1 f7
      obtain ⟨_, s1, s2⟩ := state_eq hok
      have r1 : roomy acc = true := roomy_of (by omega)
      have r2 : roomy (acc ++ be 2 r.1) = true := roomy_of (by simp [be_length]; omega)
      have r3 : roomy ((acc ++ be 2 r.1) ++ be 2 r.2.1) = true := roomy_of (by simp [be_length]; omega)
      have hnext := ih (i + 1) (((acc ++ be 2 r.1) ++ be 2 r.2.1) ++ be 1 (stateL r)) (by omega) (by omega) (by simp [be_length]; omega)
      have hw : Go.IntKind.wrap .i64 ((i : Int) + 1) = ((i + 1 : Nat) : Int) := by rw [wrap_small _ (by omega) (by omega)]; omega
      have e0 : Go.IntKind.wrap .i64 (Go.IntKind.wrap .i64 (r.2.2.1 + Go.IntKind.wrap .i64 (4 * r.2.2.2.1.1)) + Go.IntKind.wrap .i64 (16 * r.2.2.2.1.2)) = r.2.2.1 + 4 * r.2.2.2.1.1 + 16 * r.2.2.2.1.2 := by
        rw [wrap_small (4 * _) (by omega) (by omega), wrap_small (16 * _) (by omega) (by omega), wrap_small (r.2.2.1 + _) (by omega) (by omega), wrap_small _ (by omega) (by omega)]
      rw [e0, n1, n2]
      cases hc : r.2.2.2.2.1
      · have e : r.2.2.1 + 4 * r.2.2.2.1.1 + 16 * r.2.2.2.1.2 = stateL r := by unfold stateL; rw [hc]; rfl
        rw [if_neg (by simp), e, if_pos ⟨fits_two f1 (by omega), r1⟩, if_pos ⟨fits_two f3 (by omega), r2⟩, if_pos ⟨fits_byte s1 s2, r3⟩, hw, hnext]
        simp [recB, List.append_assoc]
      · have e : Go.IntKind.wrap .i64 (r.2.2.1 + 4 * r.2.2.2.1.1 + 16 * r.2.2.2.1.2 + 64) = stateL r := by rw [wrap_small _ (by omega) (by omega)]; unfold stateL; rw [hc]; rfl
        rw [if_pos rfl, e, if_pos ⟨fits_two f1 (by omega), r1⟩, if_pos ⟨fits_two f3 (by omega), r2⟩, if_pos ⟨fits_byte s1 s2, r3⟩, hw, hnext]
        simp [recB, List.append_assoc]
    · rw [if_neg (by simp; omega), List.drop_of_length_le (by omega)]
      simp
theorem Body11.pure (kind from0 inc lo hi seq target life epoch base : Int) (recs : List (Int × Int × Int × (Int × Int) × Bool × List (Int × List Int))) (hl : (fitsL kind from0 inc lo hi seq target life epoch base recs && smallRecs recs) = true) :
    Body11.f (recs.length + 1) kind from0 inc lo hi seq target life epoch base recs = some (bodyF kind from0 inc lo hi seq target recs) := by
  rw [Bool.and_eq_true] at hl
  obtain ⟨hv, hx⟩ := fits_facts hl.1
  obtain ⟨v1, v2, v3, v4, v5, v6, v7, v8, v9, v10, v11, _, v12, v13⟩ := valid_facts hv
  have v14 := (okS_iff _ _).1 v7
  unfold Body11.f Body11.b bodyF headB
  have e : Go.IntKind.wrap .i64 (Go.IntKind.wrap .i64 (lo * 16) + hi) = lo * 16 + hi := by
    rw [wrap_small (lo * 16) (by omega) (by omega), wrap_small _ (by omega) (by omega)]
  rw [e, n1, n2, n6]
  have hlp := Body11.loop (recs.length + 1) kind from0 inc lo hi seq target life epoch base recs (fun r hr => ⟨v13 r hr, (hx r hr).1⟩) v12 (recs.length + 1) 0 ((((((([] ++ be 1 kind) ++ be 2 from0) ++ be 6 inc) ++ be 1 (lo * 16 + hi)) ++ be 2 seq) ++ be 2 target) ++ be 1 (recs.length : Int)) (by omega) (by omega) (by simp [be_length]; omega)
  rw [if_pos ⟨fits_byte (by omega) (by omega), roomy_of (by simp)⟩, if_pos ⟨fits_two v3 (by omega), roomy_of (by simp [be_length])⟩, if_pos ⟨fits_six v5 (by omega), roomy_of (by simp [be_length])⟩,
    if_pos ⟨fits_byte (by omega) (by omega), roomy_of (by simp [be_length])⟩, if_pos ⟨fits_two v8 (by omega), roomy_of (by simp [be_length])⟩, if_pos ⟨fits_two v10 (by omega), roomy_of (by simp [be_length])⟩, if_pos ⟨fits_byte (by omega) (by omega), roomy_of (by simp [be_length])⟩]
  rw [show ((0 : Nat) : Int) = 0 from rfl] at hlp
  rw [hlp]
  simp [List.append_assoc]
theorem Encode1.loop (fuel : Nat) (kind from0 inc lo hi seq target life epoch base : Int) (recs : List (Int × Int × Int × (Int × Int) × Bool × List (Int × List Int))) (hr : ∀ r ∈ recs, recOkT r = true ∧ r.2.1 ≤ 65535) (hlen : recs.length ≤ 255) : ∀ (k i : Nat) (acc : List Int), i ≤ recs.length → recs.length - i < k → acc.length + 5 * (recs.length - i) < 2000 →
    Encode1.l15 fuel kind from0 inc lo hi seq target life epoch base recs k (recs.length : Int) (i : Int) acc = some (acc ++ (recs.drop i).flatMap recB, 0) := by
  intro k
  induction k with
  | zero => intro i acc h1 h2; omega
  | succ k ih =>
    intro i acc h1 h2 h3
    rw [Encode1.l15]
    unfold Encode1.b15
    by_cases hi' : i < recs.length
    · rw [if_pos (by simp; omega), idx_at, List.getElem?_eq_getElem hi']
      dsimp only
      rw [List.drop_eq_getElem_cons hi', List.flatMap_cons]
      obtain ⟨hok, hinc⟩ := hr recs[i] (List.getElem_mem hi')
      generalize recs[i] = r at hok hinc ⊢
      obtain ⟨f1, f2, f3, f4, f5, f6, f7, _, _⟩ := recOk_facts hok
      obtain ⟨s0, s1, s2⟩ := state_eq hok
      have r1 : roomy acc = true := roomy_of (by omega)
      have r2 : roomy (acc ++ be 2 r.1) = true := roomy_of (by simp [be_length]; omega)
      have r3 : roomy ((acc ++ be 2 r.1) ++ be 2 r.2.1) = true := roomy_of (by simp [be_length]; omega)
      have hnext := ih (i + 1) (((acc ++ be 2 r.1) ++ be 2 r.2.1) ++ be 1 (stateL r)) (by omega) (by omega) (by simp [be_length]; omega)
      have hw : Go.IntKind.wrap .i64 ((i : Int) + 1) = ((i + 1 : Nat) : Int) := by rw [wrap_small _ (by omega) (by omega)]; omega
      rw [n1, n2, s0, if_pos ⟨fits_two f1 (by omega), r1⟩, if_pos ⟨fits_two f3 (by omega), r2⟩, if_pos ⟨fits_byte s1 s2, r3⟩, hw, hnext]
      simp [recB, List.append_assoc]
    · rw [if_neg (by simp; omega), List.drop_of_length_le (by omega), if_pos (roomy_of (by omega))]
      simp
theorem Encode1.pure (kind from0 inc lo hi seq target life epoch base : Int) (recs : List (Int × Int × Int × (Int × Int) × Bool × List (Int × List Int))) (hl : smallRecs recs = true) :
    Encode1.f (recs.length + 1) kind from0 inc lo hi seq target life epoch base recs = some ((encF kind from0 inc lo hi seq target life epoch base recs).1, (encF kind from0 inc lo hi seq target life epoch base recs).2) := by
  unfold Encode1.f Encode1.b encF
  rw [if_pos hl]
  cases hv0 : validF kind from0 inc lo hi seq target life epoch base recs
  · rfl
  rw [if_neg (by simp), if_pos hl]
  cases hf : fits1 kind from0 inc lo hi seq target life epoch base recs
  · rfl
  have hf' := hf
  rw [fits_same] at hf'
  obtain ⟨hv, hx⟩ := fits_facts hf'
  obtain ⟨v1, v2, v3, v4, v5, v6, v7, v8, v9, v10, v11, _, v12, v13⟩ := valid_facts hv
  have v14 := (okS_iff _ _).1 v7
  have hlp := Encode1.loop (recs.length + 1) kind from0 inc lo hi seq target life epoch base recs (fun r hr => ⟨v13 r hr, (hx r hr).1⟩) v12 (recs.length + 1) 0 (((((((be 1 kind) ++ be 2 from0) ++ be 6 inc) ++ be 1 (lo * 16 + hi)) ++ be 2 seq) ++ be 2 target) ++ be 1 (recs.length : Int)) (by omega) (by omega) (by simp [be_length]; omega)
  rw [show ((0 : Nat) : Int) = 0 from rfl] at hlp
  rw [if_neg (by simp), code_eq v7, n1, n2, n6]
  rw [if_pos (fits_byte (by omega) (by omega)), if_pos ⟨fits_two v3 (by omega), roomy_of (by simp [be_length])⟩, if_pos ⟨fits_six v5 (by omega), roomy_of (by simp [be_length])⟩,
    if_pos ⟨fits_byte (by omega) (by omega), roomy_of (by simp [be_length])⟩, if_pos ⟨fits_two v8 (by omega), roomy_of (by simp [be_length])⟩, if_pos ⟨fits_two v10 (by omega), roomy_of (by simp [be_length])⟩, if_pos ⟨fits_byte (by omega) (by omega), roomy_of (by simp [be_length])⟩]
  rw [hlp]
  simp [bodyF, headB, List.append_assoc]
theorem awake11.pure : awake11.f 0 () = some true := by kernel_rfl
theorem few8_len {l : List (Int × Int × Int × (Int × Int) × Bool × List (Int × List Int))} (h : few8 l = true) : l.length ≤ 20 := by
  unfold few8 at h
  split at h
  · cases h
  · rename_i hc; simp at hc; omega
theorem Gen1Writes.pure (kind from0 inc lo hi seq target life epoch base : Int) (recs : List (Int × Int × Int × (Int × Int) × Bool × List (Int × List Int))) (hl : smallRecs recs = true) : Gen1Writes.f 0 kind from0 inc lo hi seq target life epoch base recs = some true := by
  unfold Gen1Writes.f Gen1Writes.b
  rw [hl, fits_same]
  cases few8 recs
  · rfl
  simp only [if_true, Bool.not_true, Bool.false_eq_true, if_false, beq_self_eq_true, Bool.and_true]
  unfold encF
  rw [fits_same]
  cases hv : validF kind from0 inc lo hi seq target life epoch base recs
  · rfl
  · cases hf : fitsL kind from0 inc lo hi seq target life epoch base recs
    · rfl
    · simp
end Go.Proofs.Ytlmljpmohljefaa

set_option linter.unusedVariables false
namespace Go.Proofs.Ytlmljpmohljefaa
open Go.Den
theorem s_body_det : SumDet s_body := fun avs objs R κ => by
  show s_body.run avs objs (two κ) = (s_body.run avs objs (two some)).bind κ
  unfold s_body
  simp only
  split
  · first | rfl | (split <;> rfl)
  · rfl
theorem s_body_ok : SumOk Try.prog 21 s_body := by
  have hE : EnvOk Try.prog Body11_E := env_ok (l := [(53, s_put)]) th_ok any_ok ⟨⟨s_put_ok, s_put_det⟩, trivial⟩ _
  refine sum_ok hE Try.func21 rfl (by kernel_rfl) s_body [.dat (.sl (.int .u8)) false] Body11.k ?_
  intro R avs objs κ r h
  unfold s_body at h
  simp only at h
  split at h
  · rename_i mkind mfrom0 minc mlo mhi mseq mtarget mlife mepoch mbase mrecs
    split at h
    case isFalse => cases h
    rename_i hl
    refine ⟨mrecs.length + 1, _, _, _, (Body11.eq (mrecs.length + 1) mkind mfrom0 minc mlo mhi mseq mtarget mlife mepoch mbase mrecs).trans (Body11.pure mkind mfrom0 minc mlo mhi mseq mtarget mlife mepoch mbase mrecs hl), ?_, h⟩
    intro rs ros hk
    unfold Body11.k at hk
    split at hk
    · first | (cases hk; exact ⟨rfl, rfl⟩) | (have e := Option.some.inj hk; rw [← e]; exact ⟨rfl, rfl⟩)
    · cases hk
  · cases h
theorem s_enc_det : SumDet s_enc := fun avs objs R κ => by
  show s_enc.run avs objs (two κ) = (s_enc.run avs objs (two some)).bind κ
  unfold s_enc
  simp only
  split
  · first | rfl | (split <;> rfl)
  · rfl
theorem s_enc_ok : SumOk Try.prog 17 s_enc := by
  have hE : EnvOk Try.prog Encode1_E := env_ok (l := [(20, s_valid), (18, s_fits1), (42, s_write), (44, s_code), (45, s_state), (43, s_num), (46, s_bytes)]) th_ok any_ok ⟨⟨s_valid_ok, s_valid_det⟩, ⟨s_fits1_ok, s_fits1_det⟩, ⟨s_write_ok, s_write_det⟩, ⟨s_code_ok, s_code_det⟩, ⟨s_state_ok, s_state_det⟩, ⟨s_num_ok, s_num_det⟩, ⟨s_bytes_ok, s_bytes_det⟩, trivial⟩ _
  refine sum_ok hE Try.func17 rfl (by kernel_rfl) s_enc [.dat (.sl (.int .u8)) false, .raw] Encode1.k ?_
  intro R avs objs κ r h
  unfold s_enc at h
  simp only at h
  split at h
  · rename_i mkind mfrom0 minc mlo mhi mseq mtarget mlife mepoch mbase mrecs
    split at h
    case isFalse => cases h
    rename_i hl
    refine ⟨mrecs.length + 1, _, _, _, (Encode1.eq (mrecs.length + 1) mkind mfrom0 minc mlo mhi mseq mtarget mlife mepoch mbase mrecs).trans (Encode1.pure mkind mfrom0 minc mlo mhi mseq mtarget mlife mepoch mbase mrecs hl), ?_, h⟩
    intro rs ros hk
    unfold Encode1.k at hk
    split at hk
    · first | (cases hk; exact ⟨rfl, rfl⟩) | (have e := Option.some.inj hk; rw [← e]; exact ⟨rfl, rfl⟩)
    · cases hk
  · cases h
theorem s_awake11_det : SumDet s_awake11 := fun avs objs R κ => by
  show s_awake11.run avs objs (two κ) = (s_awake11.run avs objs (two some)).bind κ
  unfold s_awake11
  simp only
  split
  · first | rfl | (split <;> rfl)
  · rfl
theorem s_awake11_ok : SumOk Try.prog 16 s_awake11 := by
  have hE : EnvOk Try.prog awake11_E := env_ok (l := [(17, s_enc)]) th_ok any_ok ⟨⟨s_enc_ok, s_enc_det⟩, trivial⟩ _
  refine sum_ok hE Try.func16 rfl (by kernel_rfl) s_awake11 [.raw] awake11.k ?_
  intro R avs objs κ r h
  unfold s_awake11 at h
  simp only at h
  split at h
  · skip
    refine ⟨0, _, _, _, (awake11.eq (0) ()).trans (awake11.pure), ?_, h⟩
    intro rs ros hk
    unfold awake11.k at hk
    split at hk
    · first | (cases hk; exact ⟨rfl, rfl⟩) | (have e := Option.some.inj hk; rw [← e]; exact ⟨rfl, rfl⟩)
    · cases hk
  · cases h
end Go.Proofs.Ytlmljpmohljefaa

