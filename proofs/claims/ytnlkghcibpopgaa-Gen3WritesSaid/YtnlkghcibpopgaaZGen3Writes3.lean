/- Gen3Writes: whatever message and base are given, the law returns true, and the input reads as it did. There is no condition. -/
import Derived.Test.YtnlkghcibpopgaaZGen3Writes2
set_option linter.unusedVariables false
set_option linter.unusedSimpArgs false
set_option maxRecDepth 100000
namespace Go.Proofs.Ytnlkghcibpopgaa
open Go.Den
set_option maxHeartbeats 4000000 in
theorem Body15.pure (kind from0 inc lo hi seq target life epoch base : Int) (recs l : LR) (hv : validF kind from0 inc lo hi seq target life epoch base recs = true) (hl : ∀ r ∈ l, recOkT r = true) (hln : l.length < 1000000000) :
    law15_Body.f BIG kind from0 inc lo hi seq target life epoch base recs l = some (body3 kind from0 inc lo hi seq target life epoch base recs l) := by
  obtain ⟨v1, v2, v3, v4, v5, v6, v7, v8, v9, v10, v11, v12, v13, v14⟩ := valid_facts hv
  obtain ⟨w1, w2, w3, w4, w5, w6, _⟩ := lives_facts v12
  obtain ⟨_, hris⟩ := valid_recs hv
  obtain ⟨H0, H1, H2, H3, H4⟩ := has_tab kind v1 v2
  have hs := (okS_iff _ _).1 v7
  have n1 := vi_len from0
  have n2 := vi_len inc
  have n3 := vi_len seq
  have n4 := vi_len target
  have n5 := vi_len life
  have n6 := vi_len epoch
  have n7 := vi_len base
  have n8 := vi_len (recs.length : Int)
  have h15 : ∀ (b' : LR), (∀ r ∈ b', recOkT r = true) → b'.length < 1000000000 → ∀ (acc : List Int), acc.length ≤ 1000 → law15_Body.l15 BIG kind from0 inc lo hi seq target life epoch base recs l BIG b' acc = some (acc ++ recs3 b' (-1) recs) := by
    intro b' hb hbn acc ha
    rw [law15_Body.l15_at BIG BIG (BIG - 1) big_eq]
    unfold law15_Body.b15
    have := body_recs kind from0 inc lo hi seq target life epoch base recs l v14 b' hb hbn (by omega) BIG 0 (-1) acc (by omega) (by rw [BIG_eq]; omega) (by omega) (by simpa using hris) (by omega)
    simpa using this
  have h13 : ∀ (b' : LR), (∀ r ∈ b', recOkT r = true) → b'.length < 1000000000 → ∀ (acc : List Int), acc.length ≤ 900 → law15_Body.l13 BIG kind from0 inc lo hi seq target life epoch base recs l BIG b' acc = some (acc ++ ((if hasF kind 4 then vi (recs.length : Int) else []) ++ recs3 b' (-1) recs)) := by
    intro b' hb hbn acc ha
    rw [law15_Body.l13_at BIG BIG (BIG - 1) big_eq]
    unfold law15_Body.b13
    simp only [veil_eq]
    rw [H4, F15 acc _ (by omega) (by omega) (by omega)]
    cases decide (kind ≥ 4) <;> cases decide (kind ≤ 8) <;> simp only [Bool.false_eq_true, if_false, if_true, Bool.and_self, Bool.and_true, Bool.and_false] <;> rw [h15 b' hb hbn _ (by first | omega | (simp; omega) | simp)] <;> simp
  have h11 : ∀ (b' : LR), (∀ r ∈ b', recOkT r = true) → b'.length < 1000000000 → ∀ (acc : List Int), acc.length ≤ 800 → law15_Body.l11 BIG kind from0 inc lo hi seq target life epoch base recs l BIG b' acc = some (acc ++ ((if hasF kind 3 then vi base else []) ++ ((if hasF kind 4 then vi (recs.length : Int) else []) ++ recs3 b' (-1) recs))) := by
    intro b' hb hbn acc ha
    rw [law15_Body.l11_at BIG BIG (BIG - 1) big_eq]
    unfold law15_Body.b11
    simp only [veil_eq]
    rw [H3, F15 acc _ (by omega) (by omega) (by omega)]
    cases (kind == 7) <;> simp only [Bool.false_eq_true, if_false, if_true] <;> rw [h13 b' hb hbn _ (by first | omega | (simp; omega) | simp)] <;> simp
  have h9 : ∀ (b' : LR), (∀ r ∈ b', recOkT r = true) → b'.length < 1000000000 → ∀ (acc : List Int), acc.length ≤ 700 → law15_Body.l9 BIG kind from0 inc lo hi seq target life epoch base recs l BIG b' acc = some (acc ++ ((if hasF kind 2 then vi life ++ vi epoch else []) ++ ((if hasF kind 3 then vi base else []) ++ ((if hasF kind 4 then vi (recs.length : Int) else []) ++ recs3 b' (-1) recs)))) := by
    intro b' hb hbn acc ha
    rw [law15_Body.l9_at BIG BIG (BIG - 1) big_eq]
    unfold law15_Body.b9
    simp only [veil_eq]
    rw [H2, F15 acc _ (by omega) (by omega) (by omega)]
    dsimp only
    rw [F15 _ epoch (by omega) (by omega) (by simp; omega)]
    cases decide (kind ≥ 7) <;> simp only [Bool.false_eq_true, if_false, if_true] <;> rw [h11 b' hb hbn _ (by first | omega | (simp; omega) | simp)] <;> simp
  have h7 : ∀ (b' : LR), (∀ r ∈ b', recOkT r = true) → b'.length < 1000000000 → ∀ (acc : List Int), acc.length ≤ 600 → law15_Body.l7 BIG kind from0 inc lo hi seq target life epoch base recs l BIG b' acc = some (acc ++ ((if hasF kind 1 then vi target else []) ++ ((if hasF kind 2 then vi life ++ vi epoch else []) ++ ((if hasF kind 3 then vi base else []) ++ ((if hasF kind 4 then vi (recs.length : Int) else []) ++ recs3 b' (-1) recs))))) := by
    intro b' hb hbn acc ha
    rw [law15_Body.l7_at BIG BIG (BIG - 1) big_eq]
    unfold law15_Body.b7
    simp only [veil_eq]
    rw [H1, F15 acc _ (by omega) (by omega) (by omega)]
    cases (kind == 3) <;> cases (kind == 6) <;> simp only [Bool.false_eq_true, if_false, if_true, Bool.or_self, Bool.or_true, Bool.or_false] <;> rw [h9 b' hb hbn _ (by first | omega | (simp; omega) | simp)] <;> simp
  have a3 : Go.IntKind.wrap .i64 (lo * 16) = lo * 16 := wrap_small _ (by omega) (by omega)
  have a4 : Go.IntKind.wrap .i64 (lo * 16 + hi) = lo * 16 + hi := wrap_small _ (by omega) (by omega)
  have a5 : Go.IntKind.wrap .u8 (lo * 16 + hi) = lo * 16 + hi := byteW _ (by omega) (by omega)
  have a6 : Go.IntKind.wrap .u8 kind = kind := byteW _ (by omega) (by omega)
  have h3 : ∀ (b' : LR), (∀ r ∈ b', recOkT r = true) → b'.length < 1000000000 → law15_Body.l3 BIG kind from0 inc lo hi seq target life epoch base recs l BIG b' = some (head3 kind from0 inc lo hi seq target life epoch base (recs.length : Int) ++ recs3 b' (-1) recs) := by
    intro b' hb hbn
    rw [law15_Body.l3_at BIG BIG (BIG - 1) big_eq]
    unfold law15_Body.b3
    simp only [veil_eq]
    rw [a6, F15 [kind] from0 (by omega) (by omega) (by simp)]
    dsimp only
    rw [F15 _ inc (by omega) (by omega) (by simp; omega)]
    dsimp only
    rw [if_pos (by simp [lim]; omega), a3, a4, a5, F15 _ seq (by omega) (by omega) (by simp; omega)]
    unfold head3
    rw [H0]
    cases (kind == 1) <;> cases (kind == 2) <;> cases decide (kind ≥ 4) <;> cases decide (kind ≤ 6) <;> simp only [Bool.false_eq_true, if_false, if_true, Bool.or_self, Bool.or_true, Bool.or_false, Bool.and_self, Bool.and_true, Bool.and_false, Bool.true_or, Bool.false_or, Bool.true_and, Bool.false_and] <;> rw [h7 b' hb hbn _ (by first | omega | (simp; omega) | simp)] <;> simp
  unfold law15_Body.f law15_Body.b body3 baseF
  cases hq : (base == 0)
  · simp only [Bool.false_eq_true, if_false]
    exact h3 l hl hln
  · simp only [if_true]
    exact h3 [] (by simp) (by simp)
theorem Awake15.pure : law15_awake.f BIG () = some true := by
  unfold law15_awake.f law15_awake.b
  simp only [veil_eq]
  rw [Enc3.pure _ _ _ _ _ _ _ _ _ _ _ [] rfl rfl (by simp), Enc3.pure _ _ _ _ _ _ _ _ _ _ _ [(2, (0, (0, ((1, 3), (false, [])))))] rfl rfl (by simp)]
  rw [show enc3 4 5 300 1 3 7 0 0 0 0 [] [] = ([4, 5, 172, 2, 19, 7, 0], 0) from by kernel_rfl, show enc3 7 0 0 1 3 0 0 0 2 1 [(2, (1, (0, ((1, 3), (false, [])))))] [(2, (0, (0, ((1, 3), (false, [])))))] = ([7, 0, 0, 19, 0, 2, 1, 1, 2, 24, 2], 0) from by kernel_rfl]
  simp
theorem few_len {l : LR} (h : few8 l = true) : l.length < 1000000000 := by
  unfold few8 at h
  split at h
  · cases h
  · rename_i c; simp at c; omega
theorem Gen3Writes.pure (kind from0 inc lo hi seq target life epoch base : Int) (recs l : LR) (hr : smallRecs recs = true ∧ smallRecs l = true) : law15_Gen3Writes.f 0 kind from0 inc lo hi seq target life epoch base recs l = some true := by
  obtain ⟨hr, hl⟩ := hr
  unfold law15_Gen3Writes.f law15_Gen3Writes.b
  simp only [veil_eq]
  rw [hr, hl, Awake15.pure]
  cases h8 : few8 recs
  · rfl
  cases h9 : few8 l
  · rfl
  have hln := few_len h9
  rw [Enc3.pure kind from0 inc lo hi seq target life epoch base recs l hr hl hln, Size3.pure kind from0 inc lo hi seq target life epoch base recs l hr hl hln]
  dsimp only
  unfold enc3 size3
  cases hv : validF kind from0 inc lo hi seq target life epoch base recs
  · rfl
  cases hs : sortedF l
  · rfl
  rw [Body15.pure kind from0 inc lo hi seq target life epoch base recs l hv (sorted_facts hs).1 hln]
  simp only [Bool.and_self, if_true, Bool.not_true, Bool.false_eq_true, if_false, bne_self_eq_false]
  by_cases hc : (body3 kind from0 inc lo hi seq target life epoch base recs l).length > 65499
  · rw [if_pos hc]
    rw [if_pos (show decide ((((body3 kind from0 inc lo hi seq target life epoch base recs l).length : Nat) : Int) > 65499) = true from by simp; omega)]
    rfl
  · rw [if_neg hc]
    rw [if_neg (show ¬ (decide ((((body3 kind from0 inc lo hi seq target life epoch base recs l).length : Nat) : Int) > 65499) = true) from by simp; omega)]
    simp
theorem gen3Writes_envOk : EnvOk Try.prog law15_Gen3Writes_E := env_ok (l := [(16, s_few10), (17, s_few8), (18, s_law15_awake), (19, s_gen3_Encode), (20, s_valid), (21, s_sorted), (22, s_gen3_Size), (23, s_law15_Body)]) th_ok any_ok ⟨⟨s_few10_ok, s_few10_det⟩, ⟨s_few8_ok, s_few8_det⟩, ⟨s_law15_awake_ok, s_law15_awake_det⟩, ⟨s_gen3_Encode_ok, s_gen3_Encode_det⟩, ⟨s_valid_ok, s_valid_det⟩, ⟨s_sorted_ok, s_sorted_det⟩, ⟨s_gen3_Size_ok, s_gen3_Size_det⟩, ⟨s_law15_Body_ok, s_law15_Body_det⟩, trivial⟩ _
theorem gen3Writes_tells (mKind : Int) (mFrom : Int) (mInc : Int) (mSpanLo : Int) (mSpanHi : Int) (mSeq : Int) (mTarget : Int) (mLife : Int) (mEpoch : Int) (mBase : Int) (mRecs : List (Int × Int × Int × (Int × Int) × Bool × List (Int × List Int))) (base : List (Int × Int × Int × (Int × Int) × Bool × List (Int × List Int))) (hl : smallRecs mRecs = true ∧ smallRecs base = true) : denF law15_Gen3Writes_E loopN 0 Try.f3 [.raw] [.agg [.d (.int .i64) mKind, .d (.int .i64) mFrom, .d (.int .i64) mInc, .d (.int .i64) mSpanLo, .d (.int .i64) mSpanHi, .d (.int .i64) mSeq, .d (.int .i64) mTarget, .d (.int .i64) mLife, .d (.int .i64) mEpoch, .d (.int .i64) mBase, .d (.sl (.pair (.int .i64) (.pair (.int .i64) (.pair (.int .i64) (.pair (.pair (.int .i64) (.int .i64)) (.pair .bool (.sl (.pair (.int .i64) (.sl (.int .u8)))))))))) mRecs], .d (.sl (.pair (.int .i64) (.pair (.int .i64) (.pair (.int .i64) (.pair (.pair (.int .i64) (.int .i64)) (.pair .bool (.sl (.pair (.int .i64) (.sl (.int .u8)))))))))) base] [] isTrue = some () := by
  rw [denF_any gen3Writes_envOk.D ((law15_Gen3Writes.eq 0 mKind mFrom mInc mSpanLo mSpanHi mSeq mTarget mLife mEpoch mBase mRecs base).trans (Gen3Writes.pure mKind mFrom mInc mSpanLo mSpanHi mSeq mTarget mLife mEpoch mBase mRecs base hl)) (out := [.d .bool true]) (os := []) (fun rs ros hk => by
    unfold law15_Gen3Writes.k at hk
    split at hk
    · first | (cases hk; exact ⟨rfl, rfl⟩) | (have e := Option.some.inj hk; rw [← e]; exact ⟨rfl, rfl⟩)
    · cases hk)]
  rfl
set_option maxRecDepth 100000 in
theorem gen3Writes_lifted (os : Os) (started : os.Started) (H : Type) (enc : TypeId × Value → H) :
    ReturnsInHanded {} Try.checked os 3 .any (Rows.gen3WritesSpec.pre6 enc Try.prog Try.f3 Rows.gen3WritesRow.domain false) (Rows.gen3WritesSpec.post enc Try.prog Try.f3 false true false false) := by
  refine returnsInHanded_of_change_sized (C := Try.checked) Try.own started (by kernel_rfl) Try.func3
    (ChangeSpec.witness6 (enc := enc) (C := Try.checked) false ⟨#[], #[.agg #[.int .i64 0, .int .i64 0, .int .i64 0, .int .i64 0, .int .i64 0, .int .i64 0, .int .i64 0, .int .i64 0, .int .i64 0, .int .i64 0, .slice none 0 0], .slice none 0 0], []⟩ 8 (by kernel_rfl) (by kernel_rfl) (by kernel_rfl) (by kernel_rfl)) ?_
  intro W base args ds gs before hval hW _ hwt _
  exact law_contract gen3Writes_envOk Try.func3 rfl [((.pair (.int .i64) (.pair (.int .i64) (.pair (.int .i64) (.pair (.pair (.int .i64) (.int .i64)) (.pair (.int .i64) (.pair (.int .i64) (.pair (.int .i64) (.pair (.int .i64) (.pair (.int .i64) (.sl (.pair (.int .i64) (.pair (.int .i64) (.pair (.int .i64) (.pair (.pair (.int .i64) (.int .i64)) (.pair .bool (.sl (.pair (.int .i64) (.sl (.int .u8))))))))))))))))))), true), ((.sl (.pair (.int .i64) (.pair (.int .i64) (.pair (.int .i64) (.pair (.pair (.int .i64) (.int .i64)) (.pair .bool (.sl (.pair (.int .i64) (.sl (.int .u8)))))))))), false)] (tb := 4) (by kernel_rfl) (by kernel_rfl) (by kernel_rfl) rfl
    (fun ds h => by match ds, h with | [_, _], _ => rfl) Try.laidOut Try.mapsRow Try.slicesSize (fun y hg => ⟨0, gen3Writes_tells y.1.1 y.1.2.1 y.1.2.2.1 y.1.2.2.2.1.1 y.1.2.2.2.1.2 y.1.2.2.2.2.1 y.1.2.2.2.2.2.1 y.1.2.2.2.2.2.2.1 y.1.2.2.2.2.2.2.2.1 y.1.2.2.2.2.2.2.2.2.1 y.1.2.2.2.2.2.2.2.2.2 y.2.1 ⟨good_recs (hg.1.2.2.2.2.2.2.2.2.2), good_recs hg.2.1⟩⟩) W base args ds gs before hval hW hwt
theorem gen3Writes_holds : Rows.Gen3WritesSaid :=
  OpenClaim.holds_of_wide 3 Try.f3 rfl rfl rfl rfl rfl rfl rfl ⟨rfl, rfl, rfl, rfl, rfl⟩ rfl rfl rfl rfl rfl (by kernel_rfl) Try.func3 (by kernel_rfl)
    (of_decide_eq_true (by kernel_rfl)) (by unfold Func.isWrapper; first | (rw [if_pos (by decide +kernel)]; kernel_rfl) | (rw [if_neg (by decide +kernel)]; exact ⟨rfl, rfl⟩))
    (fun os started H enc _ => gen3Writes_lifted os started H enc)
end Go.Proofs.Ytnlkghcibpopgaa
