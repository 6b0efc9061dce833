import Derived.Test.YtlmljpmohljefaaC6
set_option linter.unusedVariables false
set_option linter.unusedSimpArgs false
namespace Go.Proofs.Ytlmljpmohljefaa
open Go.Den
/-- the records that come next -/
noncomputable def decGo (l : List Int) : Nat → Int → Bool → List (Int × Int × Int × (Int × Int) × Bool × List (Int × List Int)) × Int × Bool
  | 0, a, bad => ([], a, bad)
  | k + 1, a, bad => if bad then ([], a, bad) else ((oneF l a bad).1 :: (decGo l k (oneF l a bad).2.1 (oneF l a bad).2.2).1, (decGo l k (oneF l a bad).2.1 (oneF l a bad).2.2).2)
noncomputable def endF (ok : Bool) (l : List Int) (a : Int) (bad : Bool) (kind from0 inc lo hi seq target : Int) (recs : List (Int × Int × Int × (Int × Int) × Bool × List (Int × List Int))) : Int × Int × Int × Int × Int × Int × Int × List (Int × Int × Int × (Int × Int) × Bool × List (Int × List Int)) × Int :=
  if ok && ((!bad && (leftF l a bad == 0)) && fits1 kind from0 inc lo hi seq target 0 0 0 recs) then (kind, from0, inc, lo, hi, seq, target, recs, 0) else (0, 0, 0, 0, 0, 0, 0, [], 4)
noncomputable def decF (l : List Int) : Int × Int × Int × Int × Int × Int × Int × List (Int × Int × Int × (Int × Int) × Bool × List (Int × List Int)) × Int :=
  let r1 := readF l 1 0 false
  let r2 := readF l 2 r1.2.1 r1.2.2
  let r3 := readF l 6 r2.2.1 r2.2.2
  let r4 := readF l 1 r3.2.1 r3.2.2
  let s := ofGo allF r4.1
  let r5 := readF l 2 r4.2.1 r4.2.2
  let r6 := readF l 2 r5.2.1 r5.2.2
  let r7 := readF l 1 r6.2.1 r6.2.2
  let d := decGo l r7.1.toNat r7.2.1 r7.2.2
  endF s.2.2 l d.2.1 d.2.2 r1.1 r2.1 r3.1 s.1 s.2.1 r5.1 r6.1 d.1
theorem oneF_at (l : List Int) (a : Int) (bad : Bool) (hl : atOk l a = true) : atOk l (oneF l a bad).2.1 = true := by
  unfold oneF
  exact readF_at l 1 _ _ (readF_at l 2 _ _ (readF_at l 2 a bad hl))
theorem decGo_len (l : List Int) : ∀ (k : Nat) (a : Int) (bad : Bool), (decGo l k a bad).1.length ≤ k
  | 0, a, bad => by simp [decGo]
  | k + 1, a, bad => by
    unfold decGo
    split
    · simp
    · have := decGo_len l k (oneF l a bad).2.1 (oneF l a bad).2.2
      simp; omega
theorem decGo_bare (l : List Int) : ∀ (k : Nat) (a : Int) (bad : Bool), ∀ r ∈ (decGo l k a bad).1, r.2.2.2.2.2 = []
  | 0, a, bad, r, hr => by simp [decGo] at hr
  | k + 1, a, bad, r, hr => by
    unfold decGo at hr
    split at hr
    · simp at hr
    · rcases List.mem_cons.1 hr with rfl | hr
      · rfl
      · exact decGo_bare l k _ _ r hr
theorem Decode1.loop (fuel : Nat) (l : List Int) (ok : Bool) (n : Int) (hn : n ≤ 255) (kind from0 inc lo hi seq target : Int) : ∀ (k j : Nat) (i a : Int) (bad : Bool) (acc : List (Int × Int × Int × (Int × Int) × Bool × List (Int × List Int))), j < k → 0 ≤ i → i + (j : Int) = n → atOk l a = true → (acc.length : Int) ≤ i → (∀ r ∈ acc, r.2.2.2.2.2 = []) →
    Decode1.l13 fuel l k ok n i a bad kind from0 inc lo hi seq target acc = some (let e := endF ok l (decGo l j a bad).2.1 (decGo l j a bad).2.2 kind from0 inc lo hi seq target (acc ++ (decGo l j a bad).1); (e.1, e.2.1, e.2.2.1, e.2.2.2.1, e.2.2.2.2.1, e.2.2.2.2.2.1, e.2.2.2.2.2.2.1, 0, 0, 0, e.2.2.2.2.2.2.2.1, e.2.2.2.2.2.2.2.2)) := by
  have fin : ∀ (a : Int) (bad : Bool) (acc : List (Int × Int × Int × (Int × Int) × Bool × List (Int × List Int))), atOk l a = true → acc.length ≤ 300 → (∀ r ∈ acc, r.2.2.2.2.2 = []) →
      (if (!ok) = true then some ((0 : Int), (0 : Int), (0 : Int), (0 : Int), (0 : Int), (0 : Int), (0 : Int), (0 : Int), (0 : Int), (0 : Int), ([] : List (Int × Int × Int × (Int × Int) × Bool × List (Int × List Int))), (4 : Int)) else (if atOk l a = true then (if (!((!bad) && ((leftF l a bad) == (0 : Int)))) = true then some (0, 0, 0, 0, 0, 0, 0, 0, 0, 0, [], (4 : Int)) else (if smallRecs acc = true then (if (!(fits1 kind from0 inc lo hi seq target 0 0 0 acc)) = true then some (0, 0, 0, 0, 0, 0, 0, 0, 0, 0, [], (4 : Int)) else some (kind, from0, inc, lo, hi, seq, target, 0, 0, 0, acc, (0 : Int))) else none)) else none)) =
      some (let e := endF ok l a bad kind from0 inc lo hi seq target acc; (e.1, e.2.1, e.2.2.1, e.2.2.2.1, e.2.2.2.2.1, e.2.2.2.2.2.1, e.2.2.2.2.2.2.1, 0, 0, 0, e.2.2.2.2.2.2.2.1, e.2.2.2.2.2.2.2.2)) := by
    intro a bad acc hl hlen hb
    have hs : smallRecs acc = true := (smallRecs_iff acc).2 ⟨by omega, fun r hr => by rw [hb r hr]; rfl⟩
    unfold endF
    rw [hl, hs]
    cases ok
    · rfl
    · cases (!bad && (leftF l a bad == 0))
      · rfl
      · cases fits1 kind from0 inc lo hi seq target 0 0 0 acc <;> rfl
  intro k
  induction k with
  | zero => intro j i a bad acc h1; omega
  | succ k ih =>
    intro j i a bad acc h1 h2 h3 h4 h5 h6
    rw [Decode1.l13]
    unfold Decode1.b13
    cases j with
    | zero =>
      rw [if_neg (by simp; omega)]
      have := fin a bad acc h4 (by omega) h6
      unfold decGo
      rw [List.append_nil]
      exact this
    | succ j =>
      rw [if_pos (by simp; omega)]
      cases bad with
      | true =>
        rw [if_neg (by simp)]
        have := fin a true acc h4 (by omega) h6
        unfold decGo
        rw [if_pos rfl, List.append_nil]
        exact this
      | false =>
        rw [if_pos (show (!false) = true from rfl), if_pos h4, veil_eq]
        dsimp only
        rw [if_pos (by simp [lim]; omega), wrap_small (i + 1) (by omega) (by omega)]
        have hr : ((oneF l a false).1.1, ((oneF l a false).1.2.1, ((oneF l a false).1.2.2.1, (((oneF l a false).1.2.2.2.1.1, (oneF l a false).1.2.2.2.1.2), ((oneF l a false).1.2.2.2.2.1, ([] : List (Int × List Int))))))) = (oneF l a false).1 := rfl
        rw [hr, ih j (i + 1) (oneF l a false).2.1 (oneF l a false).2.2 (acc ++ [(oneF l a false).1]) (by omega) (by omega) (by omega) (oneF_at l a false h4) (by simp; omega) (fun r hr => by
          rcases List.mem_append.1 hr with hr | hr
          · exact h6 r hr
          · simp at hr; subst hr; rfl)]
        conv => rhs; rw [decGo]
        rw [if_neg (by simp), List.append_assoc, List.singleton_append]
theorem Decode1.pure (l : List Int) (hl : inB l = true) : Decode1.f 300 l = some (let e := decF l; (e.1, e.2.1, e.2.2.1, e.2.2.2.1, e.2.2.2.2.1, e.2.2.2.2.2.1, e.2.2.2.2.2.2.1, 0, 0, 0, e.2.2.2.2.2.2.2.1, e.2.2.2.2.2.2.2.2)) := by
  have h0 : atOk l 0 = true := (atOk_iff l 0).2 ⟨hl, by omega, by omega⟩
  unfold Decode1.f Decode1.b
  have h1 := readF_at l 1 0 false h0
  have h2 := readF_at l 2 _ (readF l 1 0 false).2.2 h1
  have h3 := readF_at l 6 _ (readF l 2 (readF l 1 0 false).2.1 (readF l 1 0 false).2.2).2.2 h2
  simp only [veil_eq]
  rw [if_pos hl, if_pos h0, if_pos h1, if_pos h2, if_pos h3]
  generalize hr1 : readF l 1 0 false = r1 at *
  generalize hr2 : readF l 2 r1.2.1 r1.2.2 = r2 at *
  generalize hr3 : readF l 6 r2.2.1 r2.2.2 = r3 at *
  have h4 := readF_at l 1 _ r3.2.2 h3
  rw [if_pos h4]
  generalize hr4 : readF l 1 r3.2.1 r3.2.2 = r4 at *
  have h5 := readF_at l 2 _ r4.2.2 h4
  rw [if_pos h5]
  generalize hr5 : readF l 2 r4.2.1 r4.2.2 = r5 at *
  have h6 := readF_at l 2 _ r5.2.2 h5
  rw [if_pos h6]
  generalize hr6 : readF l 2 r5.2.1 r5.2.2 = r6 at *
  have h7 := readF_at l 1 _ r6.2.2 h6
  have hb := readF_byte l _ r6.2.2 h6
  have hd : decF l = endF (ofGo allF r4.1).2.2 l (decGo l (readF l 1 r6.2.1 r6.2.2).1.toNat (readF l 1 r6.2.1 r6.2.2).2.1 (readF l 1 r6.2.1 r6.2.2).2.2).2.1 (decGo l (readF l 1 r6.2.1 r6.2.2).1.toNat (readF l 1 r6.2.1 r6.2.2).2.1 (readF l 1 r6.2.1 r6.2.2).2.2).2.2 r1.1 r2.1 r3.1 (ofGo allF r4.1).1 (ofGo allF r4.1).2.1 r5.1 r6.1 (decGo l (readF l 1 r6.2.1 r6.2.2).1.toNat (readF l 1 r6.2.1 r6.2.2).2.1 (readF l 1 r6.2.1 r6.2.2).2.2).1 := by
    unfold decF
    simp only [hr1, hr2, hr3, hr4, hr5, hr6]
  rw [hd]
  have := Decode1.loop 300 l (ofGo allF r4.1).2.2 (readF l 1 r6.2.1 r6.2.2).1 hb.2 r1.1 r2.1 r3.1 (ofGo allF r4.1).1 (ofGo allF r4.1).2.1 r5.1 r6.1 300 (readF l 1 r6.2.1 r6.2.2).1.toNat 0 (readF l 1 r6.2.1 r6.2.2).2.1 (readF l 1 r6.2.1 r6.2.2).2.2 [] (by omega) (by omega) (by omega) h7 (by simp) (by simp)
  rw [List.nil_append] at this
  exact this
end Go.Proofs.Ytlmljpmohljefaa
