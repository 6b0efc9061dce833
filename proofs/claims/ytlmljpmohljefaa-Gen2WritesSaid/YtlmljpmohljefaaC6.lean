/- printed by denfn.py -/
import Derived.Test.YtlmljpmohljefaaTh
import Derived.Test.YtlmljpmohljefaaS5
set_option linter.unusedVariables false
namespace Go.Proofs.Ytlmljpmohljefaa
open Go.Den
noncomputable def s_rnumb : Den.Sum := ⟨[.raw, .raw], fun args objs κ => match args, objs with
  | [.ptr 0 0, .d (.int .i64) n], [.box [.d (.sl (.int .u8)) l, .d (.int .i64) a, .d .bool bad]] => if atOk l a = true then (match veil (some (readF l n a bad)) with | none => none | some y => κ [.d (.int .i64) y.1] [.box [.d (.sl (.int .u8)) l, .d (.int .i64) y.2.1, .d .bool y.2.2]]) else none
  | _, _ => none⟩
noncomputable def s_oneb : Den.Sum := ⟨[.raw], fun args objs κ => match args, objs with
  | [.fn (.func 55) [.ptr 0 0] []], [.box [.d (.sl (.int .u8)) l, .d (.int .i64) a, .d .bool bad]] => if atOk l a = true then (match veil (some (oneF l a bad)) with | none => none | some y => κ [.agg [.d (.int .i64) y.1.1, .d (.int .i64) y.1.2.1, .d (.int .i64) y.1.2.2.1, .d (.int .i64) y.1.2.2.2.1.1, .d (.int .i64) y.1.2.2.2.1.2, .d .bool y.1.2.2.2.2.1, .d (.sl (.pair (.int .i64) (.sl (.int .u8)))) []]] [.box [.d (.sl (.int .u8)) l, .d (.int .i64) y.2.1, .d .bool y.2.2]]) else none
  | _, _ => none⟩
noncomputable def s_sofb : Den.Sum := ⟨[.raw], fun args objs κ => match args, objs with
  | [.d (.int .i64) c], [] => match veil (some (ofGo allF c)) with | none => none | some y => κ [.agg [.d (.int .i64) y.1, .d (.int .i64) y.2.1], .d .bool y.2.2] []
  | _, _ => none⟩
theorem s_rnumb_det : SumDet s_rnumb := fun avs objs R κ => by
  show s_rnumb.run avs objs (two κ) = (s_rnumb.run avs objs (two some)).bind κ
  unfold s_rnumb
  simp only [veil_eq]
  split
  · first | rfl | (split <;> rfl)
  · rfl
theorem s_rnumb_ok : SumOk Try.prog 55 s_rnumb := ⟨s_rnum_ok.1, fun avs objs κ r hr => s_rnum_ok.2 avs objs κ r (by
  unfold s_rnumb at hr
  simp only [veil_eq] at hr
  split at hr
  · exact hr
  · cases hr)⟩
theorem s_oneb_det : SumDet s_oneb := fun avs objs R κ => by
  show s_oneb.run avs objs (two κ) = (s_oneb.run avs objs (two some)).bind κ
  unfold s_oneb
  simp only [veil_eq]
  split
  · first | rfl | (split <;> rfl)
  · rfl
theorem s_oneb_ok : SumOk Try.prog 58 s_oneb := ⟨s_one_ok.1, fun avs objs κ r hr => s_one_ok.2 avs objs κ r (by
  unfold s_oneb at hr
  simp only [veil_eq] at hr
  split at hr
  · exact hr
  · cases hr)⟩
theorem s_sofb_det : SumDet s_sofb := fun avs objs R κ => by
  show s_sofb.run avs objs (two κ) = (s_sofb.run avs objs (two some)).bind κ
  unfold s_sofb
  simp only [veil_eq]
  split
  · first | rfl | (split <;> rfl)
  · rfl
theorem s_sofb_ok : SumOk Try.prog 56 s_sofb := ⟨s_sof_ok.1, fun avs objs κ r hr => s_sof_ok.2 avs objs κ r (by
  unfold s_sofb at hr
  simp only [veil_eq] at hr
  split at hr
  · exact hr
  · cases hr)⟩
noncomputable def Decode1_E : Env := ⟨th, gam [(54, s_read), (56, s_sofb), (58, s_oneb), (18, s_fits1), (55, s_rnumb), (57, s_bad), (59, s_done)], fun i => if i = 13 then ⟨[2, 4, 5, 6, 8, 9, 10], [(1394, 50, (.pair (.int .i64) (.pair (.int .i64) (.pair (.int .i64) (.pair (.pair (.int .i64) (.int .i64)) (.pair .bool (.sl (.pair (.int .i64) (.sl (.int .u8))))))))))], []⟩ else ⟨[], [], []⟩⟩
noncomputable def Decode1.k (rs : List AV) (os : List Den.Obj) : Option (Int × Int × Int × Int × Int × Int × Int × Int × Int × Int × (List (Int × (Int × (Int × ((Int × Int) × (Bool × (List (Int × (List Int))))))))) × Int) :=
  match rs, os with
  | [.agg [.d (.int .i64) r0, .d (.int .i64) r1, .d (.int .i64) r2, .d (.int .i64) r3, .d (.int .i64) r4, .d (.int .i64) r5, .d (.int .i64) r6, .d (.int .i64) r7, .d (.int .i64) r8, .d (.int .i64) r9, .d (.sl (.pair (.int .i64) (.pair (.int .i64) (.pair (.int .i64) (.pair (.pair (.int .i64) (.int .i64)) (.pair .bool (.sl (.pair (.int .i64) (.sl (.int .u8)))))))))) r10], .d (.int .i64) r11], [] => some (r0, r1, r2, r3, r4, r5, r6, r7, r8, r9, r10, r11)
  | _, _ => none
noncomputable def Decode1.s13 (l : List Int) (x8 : Bool) (x9 : Int) (x10 : Int) (x11 : Int) (x12 : Bool) (x13 : Int) (x14 : Int) (x15 : Int) (x16 : Int) (x17 : Int) (x18 : Int) (x19 : Int) (x20 : (List (Int × (Int × (Int × ((Int × Int) × (Bool × (List (Int × (List Int)))))))))) : St := ⟨[.dead, .dead, .ptr 64 0, .dead, .ptr 65 0, .fn (.func 55) [.ptr 65 0] [], .ptr 66 0, .dead, .d .bool x8, .d (.int .i64) x9, .d (.int .i64) x10, .dead, .dead, .dead, .dead, .dead, .dead, .dead, .dead, .dead, .dead, .dead, .dead, .dead, .dead, .dead, .dead, .dead, .dead, .dead, .dead, .dead, .dead, .dead, .dead, .dead, .dead, .dead, .dead, .dead, .dead, .dead, .dead, .dead, .dead, .dead, .dead, .dead, .dead, .dead, .dead, .dead, .dead, .dead, .dead, .dead, .dead, .dead, .dead, .dead, .dead, .dead, .dead, .dead, .dead, .dead, .dead, .dead, .dead, .dead, .dead], ofL [(64, .box [.d (.int .i64) (0), .d (.int .i64) (0), .d (.int .i64) (0), .d (.int .i64) (0), .d (.int .i64) (0), .d (.int .i64) (0), .d (.int .i64) (0), .d (.int .i64) (0), .d (.int .i64) (0), .d (.int .i64) (0), .nilsl]), (65, .box [.d (.sl (.int .u8)) (l), .d (.int .i64) x11, .d .bool x12]), (66, .box [.d (.int .i64) x13, .d (.int .i64) x14, .d (.int .i64) x15, .d (.int .i64) x16, .d (.int .i64) x17, .d (.int .i64) x18, .d (.int .i64) x19, .d (.int .i64) (0), .d (.int .i64) (0), .d (.int .i64) (0), .row 67]), (67, .row 50 (.pair (.int .i64) (.pair (.int .i64) (.pair (.int .i64) (.pair (.pair (.int .i64) (.int .i64)) (.pair .bool (.sl (.pair (.int .i64) (.sl (.int .u8))))))))) x20 false)], 0⟩
noncomputable def Decode1.b13 (l : List Int) (A13 : Bool → Int → Int → Int → Bool → Int → Int → Int → Int → Int → Int → Int → (List (Int × (Int × (Int × ((Int × Int) × (Bool × (List (Int × (List Int))))))))) → Option (Int × Int × Int × Int × Int × Int × Int × Int × Int × Int × (List (Int × (Int × (Int × ((Int × Int) × (Bool × (List (Int × (List Int))))))))) × Int)) (x8 : Bool) (x9 : Int) (x10 : Int) (x11 : Int) (x12 : Bool) (x13 : Int) (x14 : Int) (x15 : Int) (x16 : Int) (x17 : Int) (x18 : Int) (x19 : Int) (x20 : (List (Int × (Int × (Int × ((Int × Int) × (Bool × (List (Int × (List Int)))))))))) : Option (Int × Int × Int × Int × Int × Int × Int × Int × Int × Int × (List (Int × (Int × (Int × ((Int × Int) × (Bool × (List (Int × (List Int))))))))) × Int) :=
  (if (decide (x10 < x9)) then (if (!x12) then (if (atOk l x11) then (match (veil (Option.some (oneF l x11 x12))) with | none => none | some y21 => (if ((((List.length x20) + (List.length ((y21.1.1, (y21.1.2.1, (y21.1.2.2.1, ((y21.1.2.2.2.1.1, y21.1.2.2.2.1.2), (y21.1.2.2.2.2.1, ([] : List (Int × (List Int)))))))) :: ([] : List (Int × (Int × (Int × ((Int × Int) × (Bool × (List (Int × (List Int)))))))))))) * (72 : Nat)) ≤ lim) then A13 x8 x9 (Go.IntKind.wrap .i64 (x10 + (1 : Int))) y21.2.1 y21.2.2 x13 x14 x15 x16 x17 x18 x19 (x20 ++ ((y21.1.1, (y21.1.2.1, (y21.1.2.2.1, ((y21.1.2.2.2.1.1, y21.1.2.2.2.1.2), (y21.1.2.2.2.2.1, ([] : List (Int × (List Int)))))))) :: ([] : List (Int × (Int × (Int × ((Int × Int) × (Bool × (List (Int × (List Int))))))))))) else none)) else none) else (if (!x8) then some (0, 0, 0, 0, 0, 0, 0, 0, 0, 0, ([] : List (Int × (Int × (Int × ((Int × Int) × (Bool × (List (Int × (List Int))))))))), (4 : Int)) else (if (atOk l x11) then (if (!((!x12) && ((leftF l x11 x12) == (0 : Int)))) then some (0, 0, 0, 0, 0, 0, 0, 0, 0, 0, ([] : List (Int × (Int × (Int × ((Int × Int) × (Bool × (List (Int × (List Int))))))))), (4 : Int)) else (if (smallRecs x20) then (if (!(fits1 x13 x14 x15 x16 x17 x18 x19 0 0 0 x20)) then some (0, 0, 0, 0, 0, 0, 0, 0, 0, 0, ([] : List (Int × (Int × (Int × ((Int × Int) × (Bool × (List (Int × (List Int))))))))), (4 : Int)) else some (x13, x14, x15, x16, x17, x18, x19, 0, 0, 0, x20, (0 : Int))) else none)) else none))) else (if (!x8) then some (0, 0, 0, 0, 0, 0, 0, 0, 0, 0, ([] : List (Int × (Int × (Int × ((Int × Int) × (Bool × (List (Int × (List Int))))))))), (4 : Int)) else (if (atOk l x11) then (if (!((!x12) && ((leftF l x11 x12) == (0 : Int)))) then some (0, 0, 0, 0, 0, 0, 0, 0, 0, 0, ([] : List (Int × (Int × (Int × ((Int × Int) × (Bool × (List (Int × (List Int))))))))), (4 : Int)) else (if (smallRecs x20) then (if (!(fits1 x13 x14 x15 x16 x17 x18 x19 0 0 0 x20)) then some (0, 0, 0, 0, 0, 0, 0, 0, 0, 0, ([] : List (Int × (Int × (Int × ((Int × Int) × (Bool × (List (Int × (List Int))))))))), (4 : Int)) else some (x13, x14, x15, x16, x17, x18, x19, 0, 0, 0, x20, (0 : Int))) else none)) else none)))
noncomputable def Decode1.l13 (fuel : Nat) (l : List Int) : Nat → Bool → Int → Int → Int → Bool → Int → Int → Int → Int → Int → Int → Int → (List (Int × (Int × (Int × ((Int × Int) × (Bool × (List (Int × (List Int))))))))) → Option (Int × Int × Int × Int × Int × Int × Int × Int × Int × Int × (List (Int × (Int × (Int × ((Int × Int) × (Bool × (List (Int × (List Int))))))))) × Int)
  | 0, _, _, _, _, _, _, _, _, _, _, _, _, _ => none
  | k + 1, x8, x9, x10, x11, x12, x13, x14, x15, x16, x17, x18, x19, x20 => Decode1.b13 l (Decode1.l13 fuel l k) x8 x9 x10 x11 x12 x13 x14 x15 x16 x17 x18 x19 x20
noncomputable def Decode1.b (l : List Int) (E13 : Bool → Int → Int → Int → Bool → Int → Int → Int → Int → Int → Int → Int → (List (Int × (Int × (Int × ((Int × Int) × (Bool × (List (Int × (List Int))))))))) → Option (Int × Int × Int × Int × Int × Int × Int × Int × Int × Int × (List (Int × (Int × (Int × ((Int × Int) × (Bool × (List (Int × (List Int))))))))) × Int)) : Option (Int × Int × Int × Int × Int × Int × Int × Int × Int × Int × (List (Int × (Int × (Int × ((Int × Int) × (Bool × (List (Int × (List Int))))))))) × Int) :=
  (if (inB l) then (if (atOk l 0) then (match (veil (Option.some (readF l (1 : Int) 0 false))) with | none => none | some y0 => (if (atOk l y0.2.1) then (match (veil (Option.some (readF l (2 : Int) y0.2.1 y0.2.2))) with | none => none | some y1 => (if (atOk l y1.2.1) then (match (veil (Option.some (readF l (6 : Int) y1.2.1 y1.2.2))) with | none => none | some y2 => (if (atOk l y2.2.1) then (match (veil (Option.some (readF l (1 : Int) y2.2.1 y2.2.2))) with | none => none | some y3 => (match (veil (Option.some (ofGo allF y3.1))) with | none => none | some y4 => (if (atOk l y3.2.1) then (match (veil (Option.some (readF l (2 : Int) y3.2.1 y3.2.2))) with | none => none | some y5 => (if (atOk l y5.2.1) then (match (veil (Option.some (readF l (2 : Int) y5.2.1 y5.2.2))) with | none => none | some y6 => (if (atOk l y6.2.1) then (match (veil (Option.some (readF l (1 : Int) y6.2.1 y6.2.2))) with | none => none | some y7 => E13 y4.2.2 y7.1 (0 : Int) y7.2.1 y7.2.2 y0.1 y1.1 y2.1 y4.1 y4.2.1 y5.1 y6.1 ([] : List (Int × (Int × (Int × ((Int × Int) × (Bool × (List (Int × (List Int)))))))))) else none)) else none)) else none))) else none)) else none)) else none)) else none) else none)
noncomputable def Decode1.f (fuel : Nat) (l : List Int) : Option (Int × Int × Int × Int × Int × Int × Int × Int × Int × Int × (List (Int × (Int × (Int × ((Int × Int) × (Bool × (List (Int × (List Int))))))))) × Int) := Decode1.b l (Decode1.l13 fuel l fuel)
theorem Decode1.l13_eq (fuel : Nat) (l : List Int) : ∀ (k : Nat) (x8 : Bool) (x9 : Int) (x10 : Int) (x11 : Int) (x12 : Bool) (x13 : Int) (x14 : Int) (x15 : Int) (x16 : Int) (x17 : Int) (x18 : Int) (x19 : Int) (x20 : (List (Int × (Int × (Int × ((Int × Int) × (Bool × (List (Int × (List Int)))))))))), lp Decode1_E fuel Try.f22 [.dat (.pair (.int .i64) (.pair (.int .i64) (.pair (.int .i64) (.pair (.pair (.int .i64) (.int .i64)) (.pair (.int .i64) (.pair (.int .i64) (.pair (.int .i64) (.pair (.int .i64) (.pair (.int .i64) (.sl (.pair (.int .i64) (.pair (.int .i64) (.pair (.int .i64) (.pair (.pair (.int .i64) (.int .i64)) (.pair .bool (.sl (.pair (.int .i64) (.sl (.int .u8))))))))))))))))))) true, .raw] 0 Decode1.k 13 [] k (Decode1.s13 l x8 x9 x10 x11 x12 x13 x14 x15 x16 x17 x18 x19 x20) = Decode1.l13 fuel l k x8 x9 x10 x11 x12 x13 x14 x15 x16 x17 x18 x19 x20 := by
  intro k
  induction k with
  | zero => intro x8 x9 x10 x11 x12 x13 x14 x15 x16 x17 x18 x19 x20; rfl
  | succ k ih =>
    intro x8 x9 x10 x11 x12 x13 x14 x15 x16 x17 x18 x19 x20
    have h : lp Decode1_E fuel Try.f22 [.dat (.pair (.int .i64) (.pair (.int .i64) (.pair (.int .i64) (.pair (.pair (.int .i64) (.int .i64)) (.pair (.int .i64) (.pair (.int .i64) (.pair (.int .i64) (.pair (.int .i64) (.pair (.int .i64) (.sl (.pair (.int .i64) (.pair (.int .i64) (.pair (.int .i64) (.pair (.pair (.int .i64) (.int .i64)) (.pair .bool (.sl (.pair (.int .i64) (.sl (.int .u8))))))))))))))))))) true, .raw] 0 Decode1.k 13 [] (k + 1) (Decode1.s13 l x8 x9 x10 x11 x12 x13 x14 x15 x16 x17 x18 x19 x20) = Decode1.b13 l (fun x8 x9 x10 x11 x12 x13 x14 x15 x16 x17 x18 x19 x20 => lp Decode1_E fuel Try.f22 [.dat (.pair (.int .i64) (.pair (.int .i64) (.pair (.int .i64) (.pair (.pair (.int .i64) (.int .i64)) (.pair (.int .i64) (.pair (.int .i64) (.pair (.int .i64) (.pair (.int .i64) (.pair (.int .i64) (.sl (.pair (.int .i64) (.pair (.int .i64) (.pair (.int .i64) (.pair (.pair (.int .i64) (.int .i64)) (.pair .bool (.sl (.pair (.int .i64) (.sl (.int .u8))))))))))))))))))) true, .raw] 0 Decode1.k 13 [] k (Decode1.s13 l x8 x9 x10 x11 x12 x13 x14 x15 x16 x17 x18 x19 x20)) x8 x9 x10 x11 x12 x13 x14 x15 x16 x17 x18 x19 x20 := by kernel_rfl
    rw [h]
    have e13 : (fun x8 x9 x10 x11 x12 x13 x14 x15 x16 x17 x18 x19 x20 => lp Decode1_E fuel Try.f22 [.dat (.pair (.int .i64) (.pair (.int .i64) (.pair (.int .i64) (.pair (.pair (.int .i64) (.int .i64)) (.pair (.int .i64) (.pair (.int .i64) (.pair (.int .i64) (.pair (.int .i64) (.pair (.int .i64) (.sl (.pair (.int .i64) (.pair (.int .i64) (.pair (.int .i64) (.pair (.pair (.int .i64) (.int .i64)) (.pair .bool (.sl (.pair (.int .i64) (.sl (.int .u8))))))))))))))))))) true, .raw] 0 Decode1.k 13 [] k (Decode1.s13 l x8 x9 x10 x11 x12 x13 x14 x15 x16 x17 x18 x19 x20)) = Decode1.l13 fuel l k := (funext fun x8 => (funext fun x9 => (funext fun x10 => (funext fun x11 => (funext fun x12 => (funext fun x13 => (funext fun x14 => (funext fun x15 => (funext fun x16 => (funext fun x17 => (funext fun x18 => (funext fun x19 => (funext fun x20 => ih x8 x9 x10 x11 x12 x13 x14 x15 x16 x17 x18 x19 x20)))))))))))))
    rw [e13]
    rfl
theorem Decode1.eq (fuel : Nat) (l : List Int) : (denF Decode1_E loopN fuel Try.f22 [.dat (.pair (.int .i64) (.pair (.int .i64) (.pair (.int .i64) (.pair (.pair (.int .i64) (.int .i64)) (.pair (.int .i64) (.pair (.int .i64) (.pair (.int .i64) (.pair (.int .i64) (.pair (.int .i64) (.sl (.pair (.int .i64) (.pair (.int .i64) (.pair (.int .i64) (.pair (.pair (.int .i64) (.int .i64)) (.pair .bool (.sl (.pair (.int .i64) (.sl (.int .u8))))))))))))))))))) true, .raw] [.d (.sl (.int .u8)) l] [] Decode1.k) = Decode1.f fuel l := by
  have h : (denF Decode1_E loopN fuel Try.f22 [.dat (.pair (.int .i64) (.pair (.int .i64) (.pair (.int .i64) (.pair (.pair (.int .i64) (.int .i64)) (.pair (.int .i64) (.pair (.int .i64) (.pair (.int .i64) (.pair (.int .i64) (.pair (.int .i64) (.sl (.pair (.int .i64) (.pair (.int .i64) (.pair (.int .i64) (.pair (.pair (.int .i64) (.int .i64)) (.pair .bool (.sl (.pair (.int .i64) (.sl (.int .u8))))))))))))))))))) true, .raw] [.d (.sl (.int .u8)) l] [] Decode1.k) = Decode1.b l (fun x8 x9 x10 x11 x12 x13 x14 x15 x16 x17 x18 x19 x20 => lp Decode1_E fuel Try.f22 [.dat (.pair (.int .i64) (.pair (.int .i64) (.pair (.int .i64) (.pair (.pair (.int .i64) (.int .i64)) (.pair (.int .i64) (.pair (.int .i64) (.pair (.int .i64) (.pair (.int .i64) (.pair (.int .i64) (.sl (.pair (.int .i64) (.pair (.int .i64) (.pair (.int .i64) (.pair (.pair (.int .i64) (.int .i64)) (.pair .bool (.sl (.pair (.int .i64) (.sl (.int .u8))))))))))))))))))) true, .raw] 0 Decode1.k 13 [] fuel (Decode1.s13 l x8 x9 x10 x11 x12 x13 x14 x15 x16 x17 x18 x19 x20)) := by kernel_rfl
  rw [h]
  have e13 : (fun x8 x9 x10 x11 x12 x13 x14 x15 x16 x17 x18 x19 x20 => lp Decode1_E fuel Try.f22 [.dat (.pair (.int .i64) (.pair (.int .i64) (.pair (.int .i64) (.pair (.pair (.int .i64) (.int .i64)) (.pair (.int .i64) (.pair (.int .i64) (.pair (.int .i64) (.pair (.int .i64) (.pair (.int .i64) (.sl (.pair (.int .i64) (.pair (.int .i64) (.pair (.int .i64) (.pair (.pair (.int .i64) (.int .i64)) (.pair .bool (.sl (.pair (.int .i64) (.sl (.int .u8))))))))))))))))))) true, .raw] 0 Decode1.k 13 [] fuel (Decode1.s13 l x8 x9 x10 x11 x12 x13 x14 x15 x16 x17 x18 x19 x20)) = Decode1.l13 fuel l fuel := (funext fun x8 => (funext fun x9 => (funext fun x10 => (funext fun x11 => (funext fun x12 => (funext fun x13 => (funext fun x14 => (funext fun x15 => (funext fun x16 => (funext fun x17 => (funext fun x18 => (funext fun x19 => (funext fun x20 => Decode1.l13_eq fuel l fuel x8 x9 x10 x11 x12 x13 x14 x15 x16 x17 x18 x19 x20)))))))))))))
  rw [e13]
  rfl


end Go.Proofs.Ytlmljpmohljefaa
