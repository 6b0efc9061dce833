/- Gen3Heads: whatever bytes are given, the law returns true, and the input reads as it did. There is no condition. -/
import Derived.Test.YtnlkghcibpopgaaZGen3Heads2
set_option linter.unusedVariables false
set_option linter.unusedSimpArgs false
set_option maxRecDepth 100000
namespace Go.Proofs.Ytnlkghcibpopgaa
open Go.Den
theorem front9 {bs : List Int} (hb : inB bs = true) {n : Nat} (hn : n < bs.length) (k f i : Int) (k1 : 1 ≤ k) (k9 : k ≤ 9) :
    law15_front.l9 BIG bs BIG (n : Int) k f i = law15_front.l13 BIG bs BIG (enc (optS bs (hasF k 0) (some (n + 1)) 65535).2) k f i (bs[n] / 16) (bs[n] % 16) (optS bs (hasF k 0) (some (n + 1)) 65535).1 := by
  obtain ⟨hl, hc⟩ := (inB_iff bs).1 hb
  obtain ⟨c0, c1⟩ := hc _ (List.getElem_mem hn)
  rw [law15_front.l9_at BIG BIG (BIG - 1) big_eq]
  unfold law15_front.b9
  simp only [veil_eq]
  have ht := takeS hb (st := some (n + 1)) (fun m h => by cases h; exact hn) 65535 (by decide) (by decide)
  rw [idx_at, List.getElem?_eq_getElem hn]
  dsimp only
  generalize bs[n] = c at c0 c1 ⊢
  rw [wrap_small c (by omega) (by omega), Int.tdiv_eq_ediv_of_nonneg c0, Int.tmod_eq_emod_of_nonneg c0, wrap_small (c / 16) (by omega) (by omega), show Go.IntKind.wrap .i64 ((n : Int) + 1) = enc (some (n + 1)) from by rw [wrap_small _ (by omega) (by omega)]; rfl, ht, (has_tab k k1 k9).1]
  cases (k == 1) <;> cases (k == 2) <;> cases (decide (k ≥ 4)) <;> cases (decide (k ≤ 6)) <;> rfl
theorem valid_kind {k f i lo hi s t l e b : Int} {r : LR} (h : validF k f i lo hi s t l e b r = true) : 1 ≤ k ∧ k ≤ 9 := by
  have := valid_facts h
  exact ⟨this.1, this.2.1⟩
theorem valid_span {k f i lo hi s t l e b : Int} {r : LR} (h : validF k f i lo hi s t l e b r = true) : okS lo hi = true := by
  cases ho : okS lo hi with
  | true => rfl
  | false =>
    unfold validF at h
    rw [ho] at h
    simp at h
noncomputable def zeroH : Int × Int × Int × Int × Int × Int × Int × Int × Int × Int × LR × Bool := (0, 0, 0, 0, 0, 0, 0, 0, 0, 0, [], false)
theorem front20 {bs : List Int} {st : Option Nat} (k f i lo hi s t l e b : Int) :
    law15_front.l20 BIG bs BIG (enc st) k f i lo hi s t l e b = some (match st with
      | none => zeroH
      | some _ => if validF k f i lo hi s t l e b [] then (k, f, i, lo, hi, s, t, l, e, b, [], true) else zeroH) := by
  rw [law15_front.l20_at BIG BIG (BIG - 1) big_eq]
  unfold law15_front.b20
  cases st with
  | none => rfl
  | some a =>
    rw [if_neg (enc_nn a), law15_front.l22_at BIG BIG (BIG - 1) big_eq]
    unfold law15_front.b22
    dsimp only
    cases validF k f i lo hi s t l e b [] <;> rfl
theorem front.pure {bs : List Int} (hb : inB bs = true) : law15_front.f BIG bs = some (match hdS bs with
    | none => zeroH
    | some (k, f, i, lo, hi, s, t, l, e, b, _) => (k, f, i, lo, hi, s, t, l, e, b, [], true)) := by
  obtain ⟨hl, hc⟩ := (inB_iff bs).1 hb
  unfold law15_front.f law15_front.b
  by_cases h0 : 0 < bs.length
  · have i0 : idx bs (0 : Int) = some bs[0] := by rw [show (0 : Int) = ((0 : Nat) : Int) from rfl, idx_at, List.getElem?_eq_getElem h0]
    rw [if_neg (by simp; omega), i0]
    dsimp only
    have hk : hdK bs = bs[0] := by simp [hdK, List.getD, List.getElem?_eq_getElem h0]
    have hst : hdSt bs = some 1 := by unfold hdSt; rw [if_pos h0]
    obtain ⟨c0, c1⟩ := hc _ (List.getElem_mem h0)
    have bad : ¬ (1 ≤ hdK bs ∧ hdK bs ≤ 9) → hdS bs = none := by
      intro h
      unfold hdS
      dsimp only
      split
      · rfl
      · exact if_neg (fun hv => h (valid_kind hv))
    by_cases k1 : bs[0] < 1
    · rw [if_pos (by simpa using k1), bad (by omega)]
      rfl
    · rw [if_neg (by simpa using k1)]
      by_cases k9 : bs[0] > 9
      · rw [if_pos (by simpa using k9), bad (by omega)]
        rfl
      · rw [if_neg (by simpa using k9), law15_front.l3_at BIG BIG (BIG - 1) big_eq]
        unfold law15_front.b3
        simp only [veil_eq]
        have hin : inR bs (some 1) := fun n h => by cases h; exact h0
        rw [i0]
        dsimp only
        rw [show (1 : Int) = enc (some 1) from rfl, takeS hb hin 4095 (by decide) (by decide)]
        dsimp only
        rw [takeS hb (optS_in hb hin true 4095) 281474976710655 (by decide) (by decide)]
        dsimp only
        unfold hdS
        dsimp only
        rw [hst, hk]
        have hin2 := optS_in hb (optS_in hb hin true 4095) true 281474976710655
        generalize optS bs true (some 1) 4095 = F at hin2 ⊢
        generalize optS bs true F.2 281474976710655 = I at hin2 ⊢
        obtain ⟨i, st⟩ := I
        dsimp only at hin2 ⊢
        have dead : ∀ (c : Bool) (m : Int), optS bs c none m = (0, none) := fun c m => by cases c <;> rfl
        cases st with
        | none =>
          rw [if_pos (c := decide (enc none < 0) = true) (by decide)]
          simp only [spS, dead]
          rfl
        | some n =>
          rw [if_neg (enc_nn n)]
          by_cases hn : n < bs.length
          · rw [if_neg (by simp [enc]; omega), show enc (some n) = (n : Int) from rfl, wrap_small _ (by omega) (by omega), front9 hb hn _ _ _ (by omega) (by omega)]
            have hi3 : inR bs (some (n + 1)) := fun m h => by cases h; exact hn
            rw [front13 hb (optS_in hb hi3 _ _) _ _ _ _ _ _ (by omega) (by omega), front15 hb (optS_in hb (optS_in hb hi3 _ _) _ _) _ _ _ _ _ _ _ (by omega) (by omega), front18 hb (optS_in hb (optS_in hb (optS_in hb (optS_in hb hi3 _ _) _ _) _ _) _ _) _ _ _ _ _ _ _ _ _ (by omega) (by omega), front20]
            have hs : spS bs (some n) = if okS (bs[n] / 16) (bs[n] % 16) then (bs[n] / 16, bs[n] % 16, some (n + 1)) else (0, 0, none) := by
              unfold spS; dsimp only
              rw [List.getElem?_eq_getElem hn]
            rw [hs]
            cases ho : okS (bs[n] / 16) (bs[n] % 16) with
            | true =>
              simp only [if_true]
              generalize optS bs (hasF bs[0] 3) _ 65535 = B
              obtain ⟨b, st⟩ := B
              cases st with
              | none => rfl
              | some a =>
                dsimp only
                split <;> rfl
            | false =>
              simp only [Bool.false_eq_true, if_false, dead]
              split
              · rfl
              · rw [if_neg]
                intro hv
                exact absurd (valid_span hv) (by rw [ho]; simp)
          · rw [if_pos (by simp [enc]; omega)]
            have hs : spS bs (some n) = (0, 0, none) := by
              unfold spS; dsimp only
              rw [List.getElem?_eq_none (by omega)]
            rw [hs]
            simp only [dead]
            rfl
  · rw [if_pos (by simp; omega)]
    have : hdSt bs = none := by unfold hdSt; rw [if_neg h0]
    have dead : ∀ (c : Bool) (m : Int), optS bs c none m = (0, none) := fun c m => by cases c <;> rfl
    unfold hdS
    simp only [this, dead, spS]
    rfl
noncomputable def gen3_Head_E : Env := ⟨th, gam [(71, s_read), (72, s_gen3_reader_head)], fun i => ⟨[], [], []⟩⟩
noncomputable def gen3_Head.k (rs : List AV) (os : List Den.Obj) : Option (Int × Int × Int × Int × Int × Int × Int × Int × Int × Int × (List (Int × (Int × (Int × ((Int × Int) × (Bool × (List (Int × (List Int))))))))) × Int) :=
  match rs, os with
  | [.agg [.d (.int .i64) r0, .d (.int .i64) r1, .d (.int .i64) r2, .d (.int .i64) r3, .d (.int .i64) r4, .d (.int .i64) r5, .d (.int .i64) r6, .d (.int .i64) r7, .d (.int .i64) r8, .d (.int .i64) r9, .d (.sl (.pair (.int .i64) (.pair (.int .i64) (.pair (.int .i64) (.pair (.pair (.int .i64) (.int .i64)) (.pair .bool (.sl (.pair (.int .i64) (.sl (.int .u8)))))))))) r10], .d (.int .i64) r11], [] => some (r0, r1, r2, r3, r4, r5, r6, r7, r8, r9, r10, r11)
  | _, _ => none
noncomputable def gen3_Head.b (b : List Int) : Option (Int × Int × Int × Int × Int × Int × Int × Int × Int × Int × (List (Int × (Int × (Int × ((Int × Int) × (Bool × (List (Int × (List Int))))))))) × Int) :=
  (if (inB b) then (match (veil (gen3_reader_head.f BIG b 0 false false)) with | none => none | some y0 => (if y0.2.2.2.2.2.2.2.2.2.2.2.1 then some (0, 0, 0, 0, 0, 0, 0, 0, 0, 0, ([] : List (Int × (Int × (Int × ((Int × Int) × (Bool × (List (Int × (List Int))))))))), (4 : Int)) else some (y0.1, y0.2.1, y0.2.2.1, y0.2.2.2.1, y0.2.2.2.2.1, y0.2.2.2.2.2.1, y0.2.2.2.2.2.2.1, y0.2.2.2.2.2.2.2.1, y0.2.2.2.2.2.2.2.2.1, y0.2.2.2.2.2.2.2.2.2.1, y0.2.2.2.2.2.2.2.2.2.2.1, (0 : Int)))) else none)
noncomputable def gen3_Head.f (fuel : Nat) (b : List Int) : Option (Int × Int × Int × Int × Int × Int × Int × Int × Int × Int × (List (Int × (Int × (Int × ((Int × Int) × (Bool × (List (Int × (List Int))))))))) × Int) := gen3_Head.b b
theorem gen3_Head.eq (fuel : Nat) (b : List Int) : (denF gen3_Head_E loopN fuel Try.f26 [.dat (.pair (.int .i64) (.pair (.int .i64) (.pair (.int .i64) (.pair (.pair (.int .i64) (.int .i64)) (.pair (.int .i64) (.pair (.int .i64) (.pair (.int .i64) (.pair (.int .i64) (.pair (.int .i64) (.sl (.pair (.int .i64) (.pair (.int .i64) (.pair (.int .i64) (.pair (.pair (.int .i64) (.int .i64)) (.pair .bool (.sl (.pair (.int .i64) (.sl (.int .u8))))))))))))))))))) true, .raw] [.d (.sl (.int .u8)) b] [] gen3_Head.k) = gen3_Head.f fuel b := by
  kernel_rfl
noncomputable def s_gen3_Head : Den.Sum := ⟨[.dat (.sl (.int .u8)) false], fun args objs κ => match args, objs with
  | [.d (.sl (.int .u8)) b], [] => (match veil (gen3_Head.f BIG b) with | none => none | some y => κ [.agg [.d (.int .i64) y.1, .d (.int .i64) y.2.1, .d (.int .i64) y.2.2.1, .d (.int .i64) y.2.2.2.1, .d (.int .i64) y.2.2.2.2.1, .d (.int .i64) y.2.2.2.2.2.1, .d (.int .i64) y.2.2.2.2.2.2.1, .d (.int .i64) y.2.2.2.2.2.2.2.1, .d (.int .i64) y.2.2.2.2.2.2.2.2.1, .d (.int .i64) y.2.2.2.2.2.2.2.2.2.1, .d (.sl (.pair (.int .i64) (.pair (.int .i64) (.pair (.int .i64) (.pair (.pair (.int .i64) (.int .i64)) (.pair .bool (.sl (.pair (.int .i64) (.sl (.int .u8)))))))))) y.2.2.2.2.2.2.2.2.2.2.1], .d (.int .i64) y.2.2.2.2.2.2.2.2.2.2.2] [])
  | _, _ => none⟩
theorem s_gen3_Head_det : SumDet s_gen3_Head := fun avs objs R κ => by
  show s_gen3_Head.run avs objs (two κ) = (s_gen3_Head.run avs objs (two some)).bind κ
  unfold s_gen3_Head
  simp only [veil_eq]
  split
  · split <;> rfl
  · rfl
theorem s_gen3_Head_ok : SumOk Try.prog 26 s_gen3_Head := by
  have hE : EnvOk Try.prog gen3_Head_E := env_ok (l := [(71, s_read), (72, s_gen3_reader_head)]) th_ok any_ok ⟨⟨s_read_ok, s_read_det⟩, ⟨s_gen3_reader_head_ok, s_gen3_reader_head_det⟩, trivial⟩ _
  refine sum_ok hE Try.func26 rfl (by kernel_rfl) s_gen3_Head [.dat (.pair (.int .i64) (.pair (.int .i64) (.pair (.int .i64) (.pair (.pair (.int .i64) (.int .i64)) (.pair (.int .i64) (.pair (.int .i64) (.pair (.int .i64) (.pair (.int .i64) (.pair (.int .i64) (.sl (.pair (.int .i64) (.pair (.int .i64) (.pair (.int .i64) (.pair (.pair (.int .i64) (.int .i64)) (.pair .bool (.sl (.pair (.int .i64) (.sl (.int .u8))))))))))))))))))) true, .raw] gen3_Head.k ?_
  intro R avs objs κ r h
  unfold s_gen3_Head at h
  simp only [veil_eq] at h
  split at h
  · rename_i b
    split at h
    · cases h
    · rename_i y hy
      refine ⟨BIG, _, _, _, (gen3_Head.eq BIG b).trans hy, ?_, h⟩
      intro rs ros hk
      unfold gen3_Head.k at hk
      split at hk
      · first | (cases hk; exact ⟨rfl, rfl⟩) | (have e := Option.some.inj hk; rw [← e]; exact ⟨rfl, rfl⟩)
      · cases hk
  · cases h
noncomputable def law15_Gen3Heads_E : Env := ⟨th, gam [(18, s_law15_awake), (26, s_gen3_Head), (27, s_law15_front), (28, s_alike10)], fun i => ⟨[], [], []⟩⟩
noncomputable def law15_Gen3Heads.k (rs : List AV) (os : List Den.Obj) : Option Bool :=
  match rs, os with
  | [.d .bool r0], [] => some r0
  | _, _ => none
noncomputable def law15_Gen3Heads.b (b : List Int) : Option Bool :=
  (if (decide (((((List.length b)) : Nat) : Int) > (400 : Int))) then (match (veil (law15_awake.f BIG ())) with | none => none | some y0 => some (y0)) else (match (veil (gen3_Head.f BIG b)) with | none => none | some y1 => (match (veil (law15_front.f BIG b)) with | none => none | some y2 => (if (!y2.2.2.2.2.2.2.2.2.2.2.2) then (if (y1.2.2.2.2.2.2.2.2.2.2.2 == (4 : Int)) then (if ((smallRecs y1.2.2.2.2.2.2.2.2.2.2.1) && (smallRecs ([] : List (Int × (Int × (Int × ((Int × Int) × (Bool × (List (Int × (List Int))))))))))) then (if ((y1.1 == 0) && ((y1.2.1 == 0) && ((y1.2.2.1 == 0) && ((y1.2.2.2.1 == 0) && ((y1.2.2.2.2.1 == 0) && ((y1.2.2.2.2.2.1 == 0) && ((y1.2.2.2.2.2.2.1 == 0) && ((y1.2.2.2.2.2.2.2.1 == 0) && ((y1.2.2.2.2.2.2.2.2.1 == 0) && ((y1.2.2.2.2.2.2.2.2.2.1 == 0) && (allGo y1.2.2.2.2.2.2.2.2.2.2.1 ([] : List (Int × (Int × (Int × ((Int × Int) × (Bool × (List (Int × (List Int)))))))))))))))))))) then (match (veil (law15_awake.f BIG ())) with | none => none | some y3 => some (y3)) else some (false)) else none) else some (false)) else (if (y1.2.2.2.2.2.2.2.2.2.2.2 == (0 : Int)) then (if ((smallRecs y1.2.2.2.2.2.2.2.2.2.2.1) && (smallRecs y2.2.2.2.2.2.2.2.2.2.2.1)) then (if ((y1.1 == y2.1) && ((y1.2.1 == y2.2.1) && ((y1.2.2.1 == y2.2.2.1) && ((y1.2.2.2.1 == y2.2.2.2.1) && ((y1.2.2.2.2.1 == y2.2.2.2.2.1) && ((y1.2.2.2.2.2.1 == y2.2.2.2.2.2.1) && ((y1.2.2.2.2.2.2.1 == y2.2.2.2.2.2.2.1) && ((y1.2.2.2.2.2.2.2.1 == y2.2.2.2.2.2.2.2.1) && ((y1.2.2.2.2.2.2.2.2.1 == y2.2.2.2.2.2.2.2.2.1) && ((y1.2.2.2.2.2.2.2.2.2.1 == y2.2.2.2.2.2.2.2.2.2.1) && (allGo y1.2.2.2.2.2.2.2.2.2.2.1 y2.2.2.2.2.2.2.2.2.2.2.1))))))))))) then (match (veil (law15_awake.f BIG ())) with | none => none | some y4 => some (y4)) else some (false)) else none) else some (false))))))
noncomputable def law15_Gen3Heads.f (fuel : Nat) (b : List Int) : Option Bool := law15_Gen3Heads.b b
theorem law15_Gen3Heads.eq (fuel : Nat) (b : List Int) : (denF law15_Gen3Heads_E loopN fuel Try.f5 [.raw] [.d (.sl (.int .u8)) b] [] law15_Gen3Heads.k) = law15_Gen3Heads.f fuel b := by
  kernel_rfl
theorem Head3.pure {bs : List Int} (hb : inB bs = true) : gen3_Head.f BIG bs = some (match hdS bs with
    | none => (0, 0, 0, 0, 0, 0, 0, 0, 0, 0, [], 4)
    | some (k, f, i, lo, hi, s, t, l, e, b, _) => (k, f, i, lo, hi, s, t, l, e, b, [], 0)) := by
  unfold gen3_Head.f gen3_Head.b
  simp only [veil_eq]
  rw [if_pos hb]
  have h := head.pure bs hb
  cases hs : hdS bs with
  | none =>
    rw [hs] at h
    obtain ⟨k, f, i, lo, hi, s, t, l, e, b, a, bad, h⟩ := h
    rw [h]
    rfl
  | some x =>
    obtain ⟨k, f, i, lo, hi, s, t, l, e, b, a⟩ := x
    rw [hs] at h
    dsimp only at h
    rw [h.1]
    rfl
theorem Gen3Heads.pure (b : List Int) (hl : ∀ c ∈ b, 0 ≤ c ∧ c ≤ 255) : law15_Gen3Heads.f 0 b = some true := by
  unfold law15_Gen3Heads.f law15_Gen3Heads.b
  simp only [veil_eq]
  by_cases h4 : (b.length : Int) > 400
  · rw [if_pos (by simpa using h4), Awake15.pure]
  · rw [if_neg (by simpa using h4)]
    have hb : inB b = true := (inB_iff b).2 ⟨by omega, hl⟩
    rw [Head3.pure hb, front.pure hb]
    cases hs : hdS b with
    | none =>
      dsimp only [zeroH]
      rw [Awake15.pure]
      simp [smallRecs, allGo]
    | some x =>
      obtain ⟨k, f, i, lo, hi, s, t, l, e, b, a⟩ := x
      dsimp only
      rw [Awake15.pure]
      simp [smallRecs, allGo]
theorem gen3Heads_envOk : EnvOk Try.prog law15_Gen3Heads_E := env_ok (l := [(18, s_law15_awake), (26, s_gen3_Head), (27, s_law15_front), (28, s_alike10)]) th_ok any_ok ⟨⟨s_law15_awake_ok, s_law15_awake_det⟩, ⟨s_gen3_Head_ok, s_gen3_Head_det⟩, ⟨s_law15_front_ok, s_law15_front_det⟩, ⟨s_alike10_ok, s_alike10_det⟩, trivial⟩ _
theorem gen3Heads_tells (b : List Int) (hl : ∀ c ∈ b, 0 ≤ c ∧ c ≤ 255) : denF law15_Gen3Heads_E loopN 0 Try.f5 [.raw] [.d (.sl (.int .u8)) b] [] isTrue = some () := by
  rw [denF_any gen3Heads_envOk.D ((law15_Gen3Heads.eq 0 b).trans (Gen3Heads.pure b hl)) (out := [.d .bool true]) (os := []) (fun rs ros hk => by
    unfold law15_Gen3Heads.k at hk
    split at hk
    · first | (cases hk; exact ⟨rfl, rfl⟩) | (have e := Option.some.inj hk; rw [← e]; exact ⟨rfl, rfl⟩)
    · cases hk)]
  rfl
set_option maxRecDepth 100000 in
theorem gen3Heads_lifted (os : Os) (started : os.Started) (H : Type) (enc : TypeId × Value → H) :
    ReturnsInHanded {} Try.checked os 5 .any (Rows.gen3HeadsSpec.pre6 enc Try.prog Try.f5 Rows.gen3HeadsRow.domain false) (Rows.gen3HeadsSpec.post enc Try.prog Try.f5 false true false false) := by
  refine returnsInHanded_of_change_sized (C := Try.checked) Try.own started (by kernel_rfl) Try.func5
    (ChangeSpec.witness6 (enc := enc) (C := Try.checked) false ⟨#[], #[.slice none 0 0], []⟩ 8 (by kernel_rfl) (by kernel_rfl) (by kernel_rfl) (by kernel_rfl)) ?_
  intro W base args ds gs before hval hW _ hwt _
  exact law_contract gen3Heads_envOk Try.func5 rfl [(.sl (.int .u8), false)] (tb := 4) (by kernel_rfl) (by kernel_rfl) (by kernel_rfl) rfl
    (fun ds h => by match ds, h with | [_], _ => rfl) Try.laidOut Try.mapsRow Try.slicesSize (fun y hg => ⟨0, gen3Heads_tells y.1 (good_bytes hg.1)⟩) W base args ds gs before hval hW hwt
theorem gen3Heads_holds : Rows.Gen3HeadsSaid :=
  OpenClaim.holds_of_wide 5 Try.f5 rfl rfl rfl rfl rfl rfl rfl ⟨rfl, rfl, rfl, rfl, rfl⟩ rfl rfl rfl rfl rfl (by kernel_rfl) Try.func5 (by kernel_rfl)
    (of_decide_eq_true (by kernel_rfl)) (by unfold Func.isWrapper; first | (rw [if_pos (by decide +kernel)]; kernel_rfl) | (rw [if_neg (by decide +kernel)]; exact ⟨rfl, rfl⟩))
    (fun os started H enc _ => gen3Heads_lifted os started H enc)
end Go.Proofs.Ytnlkghcibpopgaa
