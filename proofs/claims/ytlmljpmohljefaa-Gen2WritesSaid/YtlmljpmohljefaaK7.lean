import Derived.Test.YtlmljpmohljefaaC7
set_option linter.unusedVariables false
set_option linter.unusedSimpArgs false
namespace Go.Proofs.Ytlmljpmohljefaa
open Go.Den
theorem be_fold : ∀ (p : List Int) (n : Nat) (v : Int), (∀ c ∈ p, 0 ≤ c ∧ c ≤ 255) → be (n + p.length) (p.foldl (fun v c => v * 256 + c) v) = be n v ++ p
  | [], n, v, _ => by simp
  | c :: p, n, v, h => by
    have hc := h c (by simp)
    have ih := be_fold p (n + 1) (v * 256 + c) (fun x hx => h x (by simp [hx]))
    rw [List.length_cons, List.foldl_cons, show n + (p.length + 1) = n + 1 + p.length from by omega, ih]
    show (be n ((v * 256 + c) / 256) ++ [(v * 256 + c) % 256]) ++ p = _
    rw [show (v * 256 + c) / 256 = v from by omega, show (v * 256 + c) % 256 = c from by omega]
    simp
theorem be_numB (p : List Int) (h : ∀ c ∈ p, 0 ≤ c ∧ c ≤ 255) : be p.length (numB p) = p := by
  have := be_fold p 0 0 h
  rw [Nat.zero_add] at this
  exact this
theorem read_ok (l : List Int) (n a : Int) (bad : Bool) (hl : atOk l a = true) (h1 : 1 ≤ n) (h7 : n ≤ 7) (h : (readF l n a bad).2.2 = false) :
    bad = false ∧ (readF l n a bad).2.1 = a + n ∧ l.drop a.toNat = be n.toNat (readF l n a bad).1 ++ l.drop (a + n).toNat ∧ atOk l (a + n) = true := by
  obtain ⟨k1, k2, k3⟩ := (atOk_iff l a).1 hl
  obtain ⟨k4, k5⟩ := (inB_iff l).1 k1
  have hn : (if (decide (n < 1) || decide (n > 7)) = true then (-1 : Int) else n) = n := if_neg (by simp; omega)
  unfold readF at h ⊢
  dsimp only at h ⊢
  rw [hn] at h ⊢
  cases bad with
  | true => simp [stepF] at h
  | false =>
    unfold stepF at h ⊢
    rw [if_neg (by simp)] at h ⊢
    by_cases hc : (decide (n < 0) || decide (n > (l.length : Int) - a)) = true
    · rw [if_pos hc] at h
      cases h
    · rw [if_neg hc]
      simp only [Bool.or_eq_true, decide_eq_true_eq, not_or] at hc
      refine ⟨rfl, rfl, ?_, (atOk_iff l _).2 ⟨k1, by omega, by omega⟩⟩
      dsimp only
      rw [if_pos rfl]
      have hb : be n.toNat (numB (seg l a n)) = seg l a n := by
        have := be_numB (seg l a n) (fun c hc => k5 c (seg_mem hc))
        rwa [seg_length l a n k2 (by omega) (by omega)] at this
      rw [hb]
      unfold seg
      rw [List.drop_take, show (a + n).toNat = a.toNat + n.toNat from by omega, Nat.add_sub_cancel_left, ← List.drop_drop, List.take_append_drop]
theorem one_ok (l : List Int) (a : Int) (bad : Bool) (hl : atOk l a = true) (h : (oneF l a bad).2.2 = false) :
    bad = false ∧ (oneF l a bad).2.1 = a + 5 ∧ atOk l (a + 5) = true ∧ (recOkT (oneF l a bad).1 = true → l.drop a.toNat = recB (oneF l a bad).1 ++ l.drop (a + 5).toNat) := by
  have e2 := readF_at l 2 a bad hl
  have f := fun hh => read_ok l 2 a bad hl (by omega) (by omega) hh
  unfold oneF at h ⊢
  dsimp only at h ⊢
  generalize readF l 2 a bad = r1 at *
  have e3 := readF_at l 2 _ r1.2.2 e2
  have d := fun hh => read_ok l 2 r1.2.1 r1.2.2 e2 (by omega) (by omega) hh
  generalize readF l 2 r1.2.1 r1.2.2 = r2 at *
  have hb := readF_byte l _ r2.2.2 e3
  have c := fun hh => read_ok l 1 r2.2.1 r2.2.2 e3 (by omega) (by omega) hh
  generalize readF l 1 r2.2.1 r2.2.2 = r3 at *
  obtain ⟨c1, c2, c3, c4⟩ := c h
  obtain ⟨d1, d2, d3, d4⟩ := d c1
  obtain ⟨f1, f2, f3, f4⟩ := f d1
  have e5 : r2.2.1 + 1 = a + 5 := by omega
  refine ⟨f1, by omega, by rw [← e5]; exact c4, fun hr => ?_⟩
  obtain ⟨q1, _⟩ := recOk_facts hr
  dsimp only at q1
  have hv : ¬ (r3.1 > 127) := by
    intro hc
    rw [if_pos (by simpa using hc)] at q1
    omega
  rw [if_neg (by simpa using hv)]
  rw [f3, ← f2, d3, ← d2, c3, e5]
  have hs : stateL (r1.1, r2.1, r3.1 % 4, (r3.1 / 4 % 4, r3.1 / 16 % 4), r3.1 / 64 % 2 == 1, ([] : List (Int × List Int))) = r3.1 := by
    unfold stateL
    dsimp only
    by_cases h6 : r3.1 / 64 % 2 = 1
    · rw [if_pos (by simpa using h6)]; omega
    · rw [if_neg (by simpa using h6)]; omega
  unfold recB
  rw [hs]
  simp [n1, n2]
theorem dec_ok (l : List Int) : ∀ (k : Nat) (a : Int) (bad : Bool), atOk l a = true → (decGo l k a bad).2.2 = false → (∀ r ∈ (decGo l k a bad).1, recOkT r = true) →
    bad = false ∧ (decGo l k a bad).1.length = k ∧ atOk l (decGo l k a bad).2.1 = true ∧ l.drop a.toNat = (decGo l k a bad).1.flatMap recB ++ l.drop (decGo l k a bad).2.1.toNat
  | 0, a, bad, hl, h, hr => ⟨h, rfl, hl, by simp [decGo]⟩
  | k + 1, a, bad, hl, h, hr => by
    unfold decGo at h hr ⊢
    cases bad with
    | true => simp at h
    | false =>
      rw [if_neg (by simp)] at h hr ⊢
      dsimp only at h hr ⊢
      have hat := oneF_at l a false hl
      obtain ⟨i1, i2, i3, i4⟩ := dec_ok l k _ _ hat h (fun r hr' => hr r (by simp [hr']))
      obtain ⟨j1, j2, j3, j4⟩ := one_ok l a false hl i1
      refine ⟨rfl, by simp [i2], i3, ?_⟩
      rw [j4 (hr _ (by simp)), List.flatMap_cons, List.append_assoc, ← i4, j2]
theorem ofGo_some {c : Int} (h : (ofGo allF c).2.2 = true) : codeF (ofGo allF c).1 (ofGo allF c).2.1 = c := by
  unfold allF ofGo ofGo ofGo ofGo ofGo ofGo ofGo at h ⊢
  split
  · rename_i hc; simpa using hc
  split
  · rename_i hc; simpa using hc
  split
  · rename_i hc; simpa using hc
  split
  · rename_i hc; simpa using hc
  split
  · rename_i hc; simpa using hc
  split
  · rename_i hc; simpa using hc
  rename_i c1 c2 c3 c4 c5 c6
  rw [if_neg c1, if_neg c2, if_neg c3, if_neg c4, if_neg c5, if_neg c6] at h
  cases h
/-- what was read is what is written -/
theorem image (l : List Int) (hl : inB l = true) (h : (decF l).2.2.2.2.2.2.2.2 = 0) :
    fits1 (decF l).1 (decF l).2.1 (decF l).2.2.1 (decF l).2.2.2.1 (decF l).2.2.2.2.1 (decF l).2.2.2.2.2.1 (decF l).2.2.2.2.2.2.1 0 0 0 (decF l).2.2.2.2.2.2.2.1 = true ∧
    bodyF (decF l).1 (decF l).2.1 (decF l).2.2.1 (decF l).2.2.2.1 (decF l).2.2.2.2.1 (decF l).2.2.2.2.2.1 (decF l).2.2.2.2.2.2.1 (decF l).2.2.2.2.2.2.2.1 = l ∧ smallRecs (decF l).2.2.2.2.2.2.2.1 = true := by
  have h0 : atOk l 0 = true := (atOk_iff l 0).2 ⟨hl, by omega, by omega⟩
  have h1 := readF_at l 1 0 false h0
  have h2 := readF_at l 2 _ (readF l 1 0 false).2.2 h1
  have h3 := readF_at l 6 _ (readF l 2 (readF l 1 0 false).2.1 (readF l 1 0 false).2.2).2.2 h2
  unfold decF at h ⊢
  dsimp only at h ⊢
  have q1 := fun hh => read_ok l 1 0 false h0 (by omega) (by omega) hh
  generalize hr1 : readF l 1 0 false = r1 at *
  have q2 := fun hh => read_ok l 2 r1.2.1 r1.2.2 h1 (by omega) (by omega) hh
  generalize hr2 : readF l 2 r1.2.1 r1.2.2 = r2 at *
  have q3 := fun hh => read_ok l 6 r2.2.1 r2.2.2 h2 (by omega) (by omega) hh
  generalize hr3 : readF l 6 r2.2.1 r2.2.2 = r3 at *
  have h4 := readF_at l 1 _ r3.2.2 h3
  have q4 := fun hh => read_ok l 1 r3.2.1 r3.2.2 h3 (by omega) (by omega) hh
  generalize hr4 : readF l 1 r3.2.1 r3.2.2 = r4 at *
  have h5 := readF_at l 2 _ r4.2.2 h4
  have q5 := fun hh => read_ok l 2 r4.2.1 r4.2.2 h4 (by omega) (by omega) hh
  generalize hr5 : readF l 2 r4.2.1 r4.2.2 = r5 at *
  have h6 := readF_at l 2 _ r5.2.2 h5
  have q6 := fun hh => read_ok l 2 r5.2.1 r5.2.2 h5 (by omega) (by omega) hh
  generalize hr6 : readF l 2 r5.2.1 r5.2.2 = r6 at *
  have h7 := readF_at l 1 _ r6.2.2 h6
  have q7 := fun hh => read_ok l 1 r6.2.1 r6.2.2 h6 (by omega) (by omega) hh
  have hby := readF_byte l _ r6.2.2 h6
  generalize hr7 : readF l 1 r6.2.1 r6.2.2 = r7 at *
  have hbare := decGo_bare l r7.1.toNat r7.2.1 r7.2.2
  have hdl := decGo_len l r7.1.toNat r7.2.1 r7.2.2
  have q8 := fun hh1 hh2 => dec_ok l r7.1.toNat r7.2.1 r7.2.2 h7 hh1 hh2
  generalize hd : decGo l r7.1.toNat r7.2.1 r7.2.2 = d at *
  unfold endF at h ⊢
  by_cases hc : ((ofGo allF r4.1).2.2 && ((!d.2.2 && (leftF l d.2.1 d.2.2 == 0)) && fits1 r1.1 r2.1 r3.1 (ofGo allF r4.1).1 (ofGo allF r4.1).2.1 r5.1 r6.1 0 0 0 d.1)) = true
  · rw [if_pos hc]
    dsimp only
    simp only [Bool.and_eq_true, Bool.not_eq_true', beq_iff_eq] at hc
    obtain ⟨c1, ⟨c2, c3⟩, c4⟩ := hc
    have hf := c4
    rw [fits_same] at hf
    obtain ⟨v, hx⟩ := fits_facts hf
    obtain ⟨_, _, _, _, _, _, v7, _, _, _, _, _, v12, v13⟩ := valid_facts v
    obtain ⟨s1, s2, s3, s4⟩ := q8 c2 v13
    obtain ⟨t1, t2, t3, t4⟩ := q7 s1
    obtain ⟨u1, u2, u3, u4⟩ := q6 t1
    obtain ⟨w1, w2, w3, w4⟩ := q5 u1
    obtain ⟨x1, x2, x3, x4⟩ := q4 w1
    obtain ⟨y1, y2, y3, y4⟩ := q3 x1
    obtain ⟨z1, z2, z3, z4⟩ := q2 y1
    obtain ⟨p1, p2, p3, p4⟩ := q1 z1
    refine ⟨c4, ?_, (smallRecs_iff _).2 ⟨by omega, fun r hr => by rw [hbare r hr]; rfl⟩⟩
    have hcode : (ofGo allF r4.1).1 * 16 + (ofGo allF r4.1).2.1 = r4.1 := by
      rw [← code_eq v7]; exact ofGo_some c1
    have hlen : (d.1.length : Int) = r7.1 := by omega
    have hleft : d.2.1.toNat = l.length := by
      rw [c2] at c3
      unfold leftF at c3
      simp at c3
      have := (atOk_iff l _).1 s3
      omega
    unfold bodyF headB
    rw [hcode, hlen]
    rw [hleft, List.drop_length, List.append_nil] at s4
    have e0 : l.drop (0 : Int).toNat = l := rfl
    rw [e0] at p3
    rw [p3, ← p2, z3, ← z2, y3, ← y2, x3, ← x2, w3, ← w2, u3, ← u2, t3, ← t2, s4]
    simp [n1, n2, n6, List.append_assoc]
  · rw [if_neg hc] at h
    cases h
theorem Gen1Image.pure (l : List Int) (hl : ∀ c ∈ l, 0 ≤ c ∧ c ≤ 255) : Gen1Image.f 0 l = some true := by
  unfold Gen1Image.f Gen1Image.b
  by_cases h : ((l.length : Nat) : Int) > 1300
  · rw [if_pos (by simpa using h)]
  · have hb : inB l = true := (inB_iff l).2 ⟨by omega, hl⟩
    rw [if_neg (by simpa using h), if_pos hb, veil_eq]
    dsimp only
    by_cases h0 : (decF l).2.2.2.2.2.2.2.2 = 0
    · obtain ⟨i1, i2, i3⟩ := image l hb h0
      rw [if_neg (by simp [h0]), if_pos i3]
      have hv : validF (decF l).1 (decF l).2.1 (decF l).2.2.1 (decF l).2.2.2.1 (decF l).2.2.2.2.1 (decF l).2.2.2.2.2.1 (decF l).2.2.2.2.2.2.1 0 0 0 (decF l).2.2.2.2.2.2.2.1 = true := by
        have := i1
        rw [fits_same] at this
        exact (fits_facts this).1
      unfold encF
      rw [hv, i1, i2]
      simp
    · rw [if_pos (by simpa using h0)]
end Go.Proofs.Ytlmljpmohljefaa
