/- FitWrites: whatever message is given, the law returns true, and the input reads as it did. There is no condition. -/
import Derived.Test.YtlmljpmohljefaaZFitWrites2
set_option linter.unusedVariables false
set_option linter.unusedSimpArgs false
set_option maxRecDepth 100000
namespace Go.Proofs.Ytlmljpmohljefaa
open Go.Den
theorem FitWrites.pure (kind from0 inc lo hi seq target life epoch base : Int) (recs : LR) (hr : smallRecs recs = true) : law16_FitWrites.f 0 kind from0 inc lo hi seq target life epoch base recs = some true := by
  unfold law16_FitWrites.f law16_FitWrites.b
  simp only [veil_eq]
  rw [hr, Awake16.pure, Fits.pure kind from0 inc lo hi seq target life epoch base recs 1 hr, Fits.pure kind from0 inc lo hi seq target life epoch base recs 2 hr, Fits.pure kind from0 inc lo hi seq target life epoch base recs 3 hr, Enc3.pure kind from0 inc lo hi seq target life epoch base recs [] hr rfl (by simp)]
  cases h8 : few8 recs
  · rfl
  · have hn : recs.length < 1000000000 := by
      unfold few8 at h8
      split at h8
      · cases h8
      · rename_i c; simp at c; omega
    rw [FitBytes.pure kind from0 inc lo hi seq target life epoch base recs 1 hr hn, FitBytes.pure kind from0 inc lo hi seq target life epoch base recs 2 hr hn, FitBytes.pure kind from0 inc lo hi seq target life epoch base recs 3 hr hn, shaped_valid kind from0 inc lo hi seq target life epoch base recs (by omega) (by omega), shaped_valid kind from0 inc lo hi seq target life epoch base recs (by omega) (by omega), shaped_valid kind from0 inc lo hi seq target life epoch base recs (by omega) (by omega)]
    dsimp only
    have f1 := fit1E kind from0 inc lo hi seq target life epoch base recs
    have f2 := fit2E kind from0 inc lo hi seq target life epoch base recs
    have f3 := fit3 kind from0 inc lo hi seq target life epoch base recs
    have e1 : (encF kind from0 inc lo hi seq target life epoch base recs).2 = (if validF kind from0 inc lo hi seq target life epoch base recs then (if fits1 kind from0 inc lo hi seq target life epoch base recs then 0 else 14) else 1) := by
      unfold encF
      cases validF kind from0 inc lo hi seq target life epoch base recs
      · rfl
      · cases fits1 kind from0 inc lo hi seq target life epoch base recs <;> rfl
    have e1l : fits1 kind from0 inc lo hi seq target life epoch base recs = true → (((encF kind from0 inc lo hi seq target life epoch base recs).1.length : Int)) = 15 + 5 * (recs.length : Int) := by
      intro h
      have hv : validF kind from0 inc lo hi seq target life epoch base recs = true := by
        unfold fits1 at h
        split at h
        · cases h
        · rename_i c; simp at c; exact c.1
      unfold encF
      rw [hv, h]
      simp only [Bool.not_true, Bool.false_eq_true, if_false]
      rw [body_len]
      omega
    have e2 : (enc2 kind from0 inc lo hi seq target life epoch base recs).2 = (if validF kind from0 inc lo hi seq target life epoch base recs then (if fits2 kind from0 inc lo hi seq target life epoch base recs then 0 else 14) else 1) := by
      unfold enc2
      cases validF kind from0 inc lo hi seq target life epoch base recs
      · rfl
      · cases fits2 kind from0 inc lo hi seq target life epoch base recs <;> rfl
    have e2l : fits2 kind from0 inc lo hi seq target life epoch base recs = true → (((enc2 kind from0 inc lo hi seq target life epoch base recs).1.length : Int)) = size2 kind from0 inc lo hi seq target life epoch base recs := by
      intro h
      have hv := (fits2_facts h).1
      unfold enc2
      rw [hv, h, size_body hv]
      rfl
    have s0 : sortedF [] = true := rfl
    have e3 : (enc3 kind from0 inc lo hi seq target life epoch base recs []).2 = (if validF kind from0 inc lo hi seq target life epoch base recs then (if size3 kind from0 inc lo hi seq target life epoch base recs [] ≤ 65499 then 0 else 14) else 1) := by
      unfold enc3 size3
      rw [s0]
      cases validF kind from0 inc lo hi seq target life epoch base recs
      · rfl
      · simp only [Bool.and_self, if_true]
        split
        · rw [if_neg (by omega)]
        · rw [if_pos (by omega)]
    have e3l : validF kind from0 inc lo hi seq target life epoch base recs = true → size3 kind from0 inc lo hi seq target life epoch base recs [] ≤ 65499 → (((enc3 kind from0 inc lo hi seq target life epoch base recs []).1.length : Int)) = size3 kind from0 inc lo hi seq target life epoch base recs [] := by
      intro hv h
      unfold enc3 size3 at *
      rw [s0, hv] at *
      simp only [Bool.and_self, if_true] at h ⊢
      rw [if_neg (by omega)]
    rw [f1, f2, e1, e2, e3]
    have b1 : bytesF kind from0 inc lo hi seq target life epoch base recs 1 = 15 + 5 * (recs.length : Int) := rfl
    have b2 : bytesF kind from0 inc lo hi seq target life epoch base recs 2 = size2 kind from0 inc lo hi seq target life epoch base recs := rfl
    have b3 : bytesF kind from0 inc lo hi seq target life epoch base recs 3 = size3 kind from0 inc lo hi seq target life epoch base recs [] := rfl
    rw [b1, b2, b3]
    cases hv : validF kind from0 inc lo hi seq target life epoch base recs
    · have g1 : fits1 kind from0 inc lo hi seq target life epoch base recs = false := by unfold fits1; rw [hv]; rfl
      have g2 : fits2 kind from0 inc lo hi seq target life epoch base recs = false := by unfold fits2; rw [hv]; rfl
      have g3 : fitF kind from0 inc lo hi seq target life epoch base recs 3 = false := by
        cases h : fitF kind from0 inc lo hi seq target life epoch base recs 3 with
        | false => rfl
        | true => have := (f3.1 h).1; rw [hv] at this; cases this
      rw [g1, g2, g3]
      rfl
    · by_cases h3 : size3 kind from0 inc lo hi seq target life epoch base recs [] ≤ 65499
      · have g3 : fitF kind from0 inc lo hi seq target life epoch base recs 3 = true := f3.2 ⟨hv, h3⟩
        have l3 := e3l hv h3
        rw [g3, if_pos h3]
        cases h1 : fits1 kind from0 inc lo hi seq target life epoch base recs <;> cases h2 : fits2 kind from0 inc lo hi seq target life epoch base recs
        · simp [l3]
        · simp [l3, e2l h2]
        · simp [l3, e1l h1]
        · simp [l3, e1l h1, e2l h2]
      · have g3 : fitF kind from0 inc lo hi seq target life epoch base recs 3 = false := by
          cases h : fitF kind from0 inc lo hi seq target life epoch base recs 3 with
          | false => rfl
          | true => exact absurd (f3.1 h).2 h3
        rw [g3, if_neg h3]
        cases h1 : fits1 kind from0 inc lo hi seq target life epoch base recs <;> cases h2 : fits2 kind from0 inc lo hi seq target life epoch base recs
        · simp
        · simp [e2l h2]
        · simp [e1l h1]
        · simp [e1l h1, e2l h2]
theorem fitWrites_envOk : EnvOk Try.prog law16_FitWrites_E := env_ok (l := [(15, s_few10), (17, s_enc), (26, s_enc2), (33, s_law16_awake), (36, s_fit_Fits), (37, s_fit_Bytes), (40, s_gen3_Encode)]) th_ok any_ok ⟨⟨s_few10_ok, s_few10_det⟩, ⟨s_enc_ok, s_enc_det⟩, ⟨s_enc2_ok, s_enc2_det⟩, ⟨s_law16_awake_ok, s_law16_awake_det⟩, ⟨s_fit_Fits_ok, s_fit_Fits_det⟩, ⟨s_fit_Bytes_ok, s_fit_Bytes_det⟩, ⟨s_gen3_Encode_ok, s_gen3_Encode_det⟩, trivial⟩ _
theorem fitWrites_tells (mKind : Int) (mFrom : Int) (mInc : Int) (mSpanLo : Int) (mSpanHi : Int) (mSeq : Int) (mTarget : Int) (mLife : Int) (mEpoch : Int) (mBase : Int) (mRecs : List (Int × Int × Int × (Int × Int) × Bool × List (Int × List Int))) (hl : smallRecs mRecs = true) : denF law16_FitWrites_E loopN 0 Try.f14 [.raw] [.agg [.d (.int .i64) mKind, .d (.int .i64) mFrom, .d (.int .i64) mInc, .d (.int .i64) mSpanLo, .d (.int .i64) mSpanHi, .d (.int .i64) mSeq, .d (.int .i64) mTarget, .d (.int .i64) mLife, .d (.int .i64) mEpoch, .d (.int .i64) mBase, .d (.sl (.pair (.int .i64) (.pair (.int .i64) (.pair (.int .i64) (.pair (.pair (.int .i64) (.int .i64)) (.pair .bool (.sl (.pair (.int .i64) (.sl (.int .u8)))))))))) mRecs]] [] isTrue = some () := by
  rw [denF_any fitWrites_envOk.D ((law16_FitWrites.eq 0 mKind mFrom mInc mSpanLo mSpanHi mSeq mTarget mLife mEpoch mBase mRecs).trans (FitWrites.pure mKind mFrom mInc mSpanLo mSpanHi mSeq mTarget mLife mEpoch mBase mRecs hl)) (out := [.d .bool true]) (os := []) (fun rs ros hk => by
    unfold law16_FitWrites.k at hk
    split at hk
    · first | (cases hk; exact ⟨rfl, rfl⟩) | (have e := Option.some.inj hk; rw [← e]; exact ⟨rfl, rfl⟩)
    · cases hk)]
  rfl
set_option maxRecDepth 100000 in
theorem fitWrites_lifted (os : Os) (started : os.Started) (H : Type) (enc : TypeId × Value → H) :
    ReturnsInHanded {} Try.checked os 14 .any (Rows.fitWritesSpec.pre6 enc Try.prog Try.f14 Rows.fitWritesRow.domain false) (Rows.fitWritesSpec.post enc Try.prog Try.f14 false true false false) := by
  refine returnsInHanded_of_change_sized (C := Try.checked) Try.own started (by kernel_rfl) Try.func14
    (ChangeSpec.witness6 (enc := enc) (C := Try.checked) false ⟨#[], #[.agg #[.int .i64 0, .int .i64 0, .int .i64 0, .int .i64 0, .int .i64 0, .int .i64 0, .int .i64 0, .int .i64 0, .int .i64 0, .int .i64 0, .slice none 0 0]], []⟩ 8 (by kernel_rfl) (by kernel_rfl) (by kernel_rfl) (by kernel_rfl)) ?_
  intro W base args ds gs before hval hW _ hwt _
  exact law_contract fitWrites_envOk Try.func14 rfl [((.pair (.int .i64) (.pair (.int .i64) (.pair (.int .i64) (.pair (.pair (.int .i64) (.int .i64)) (.pair (.int .i64) (.pair (.int .i64) (.pair (.int .i64) (.pair (.int .i64) (.pair (.int .i64) (.sl (.pair (.int .i64) (.pair (.int .i64) (.pair (.int .i64) (.pair (.pair (.int .i64) (.int .i64)) (.pair .bool (.sl (.pair (.int .i64) (.sl (.int .u8))))))))))))))))))), true)] (tb := 4) (by kernel_rfl) (by kernel_rfl) (by kernel_rfl) rfl
    (fun ds h => by match ds, h with | [_], _ => rfl) Try.laidOut Try.mapsRow Try.slicesSize (fun y hg => ⟨0, fitWrites_tells y.1.1 y.1.2.1 y.1.2.2.1 y.1.2.2.2.1.1 y.1.2.2.2.1.2 y.1.2.2.2.2.1 y.1.2.2.2.2.2.1 y.1.2.2.2.2.2.2.1 y.1.2.2.2.2.2.2.2.1 y.1.2.2.2.2.2.2.2.2.1 y.1.2.2.2.2.2.2.2.2.2 (good_recs (hg.1.2.2.2.2.2.2.2.2.2))⟩) W base args ds gs before hval hW hwt
theorem fitWrites_holds : Rows.FitWritesSaid :=
  OpenClaim.holds_of_wide 14 Try.f14 rfl rfl rfl rfl rfl rfl rfl ⟨rfl, rfl, rfl, rfl, rfl⟩ rfl rfl rfl rfl rfl (by kernel_rfl) Try.func14 (by kernel_rfl)
    (of_decide_eq_true (by kernel_rfl)) (by unfold Func.isWrapper; first | (rw [if_pos (by decide +kernel)]; kernel_rfl) | (rw [if_neg (by decide +kernel)]; exact ⟨rfl, rfl⟩))
    (fun os started H enc _ => fitWrites_lifted os started H enc)
end Go.Proofs.Ytlmljpmohljefaa
