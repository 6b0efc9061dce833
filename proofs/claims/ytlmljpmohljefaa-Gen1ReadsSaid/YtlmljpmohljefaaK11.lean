import Derived.Test.YtlmljpmohljefaaK10
set_option linter.unusedVariables false
set_option linter.unusedSimpArgs false
namespace Go.Proofs.Ytlmljpmohljefaa
open Go.Den
theorem be1 (v : Int) (h0 : 0 ≤ v) (h1 : v < 256) : be 1 v = [v] := by
  show be 0 (v / 256) ++ [v % 256] = [v]
  rw [show v % 256 = v from by omega]
  rfl
theorem seg_be (l : List Int) (a n v : Int) (rest : List Int) (h0 : 0 ≤ a) (h1 : 0 ≤ n) (h : l.drop a.toNat = be n.toNat v ++ rest) : seg l a n = be n.toNat v := by
  unfold seg
  rw [List.drop_take, show (a + n).toNat = a.toNat + n.toNat from by omega, Nat.add_sub_cancel_left, h]
  exact List.take_left' (be_length _ _)
theorem getD_drop (l : List Int) (k : Nat) (v : Int) (rest : List Int) (h : l.drop k = v :: rest) : l.getD k 0 = v := by
  have h1 : (l.drop k)[0]? = some v := by rw [h]; rfl
  rw [List.getElem?_drop, Nat.add_zero] at h1
  simp [List.getD, h1]
theorem drop_next (l : List Int) (a n v : Int) (rest : List Int) (h0 : 0 ≤ a) (h1 : 0 ≤ n) (h : l.drop a.toNat = be n.toNat v ++ rest) : l.drop (a + n).toNat = rest := by
  rw [show (a + n).toNat = a.toNat + n.toNat from by omega, ← List.drop_drop, h]
  exact List.drop_left' (be_length _ _)
/-- the law's reading of what was written: a record -/
theorem recAt_be (l : List Int) (i : Int) (r : Int × Int × Int × (Int × Int) × Bool × List (Int × List Int)) (rest : List Int) (hi : 0 ≤ i) (hr : recOkT r = true) (hinc : r.2.1 ≤ 65535) (hb : r.2.2.2.2.2 = []) (h : l.drop i.toNat = recB r ++ rest) :
    recAt l i = r ∧ l.getD (i + 4).toNat 0 ≤ 127 ∧ l.drop (i + 5).toNat = rest := by
  obtain ⟨id, inc, st, ⟨lo, hi'⟩, cut, bag⟩ := r
  obtain ⟨f1, f2, f3, f4, f5, f6, f7, _, _⟩ := recOk_facts hr
  obtain ⟨_, s1, s2⟩ := state_eq hr
  have f8 := (okS_iff _ _).1 f7
  dsimp only at f1 f2 f3 f5 f6 f7 f8 hinc hb
  subst hb
  unfold recB at h
  dsimp only at h
  rw [List.append_assoc, List.append_assoc] at h
  have g1 := seg_be l i 2 id _ hi (by omega) h
  have d1 := drop_next l i 2 id _ hi (by omega) h
  have g2 := seg_be l (i + 2) 2 inc _ (by omega) (by omega) d1
  have d2 := drop_next l (i + 2) 2 inc _ (by omega) (by omega) d1
  have d3 := drop_next l (i + 2 + 2) 1 _ _ (by omega) (by omega) d2
  rw [be1 _ s1 s2] at d2
  have g3 := getD_drop l _ _ _ d2
  have e4 : i + 2 + 2 = i + 4 := by omega
  have e5 : i + 2 + 2 + 1 = i + 5 := by omega
  rw [e4] at g3
  rw [e5] at d3
  have hs : stateL (id, inc, st, (lo, hi'), cut, ([] : List (Int × List Int))) = (if cut then st + 4 * lo + 16 * hi' + 64 else st + 4 * lo + 16 * hi') := rfl
  rw [hs] at g3
  have n1' : numB (seg l i 2) = id := by rw [g1]; exact numB_be 2 id f1 (by simp; omega)
  have n2' : numB (seg l (i + 2) 2) = inc := by rw [g2]; exact numB_be 2 inc f3 (by simp; omega)
  unfold recAt
  rw [g3, n1', n2']
  refine ⟨?_, by cases cut <;> simp <;> omega, d3⟩
  cases cut
  · simp only [Bool.false_eq_true, if_false]
    have e1 : (st + 4 * lo + 16 * hi') % 4 = st := by omega
    have e2 : (st + 4 * lo + 16 * hi') / 4 % 4 = lo := by omega
    have e3 : (st + 4 * lo + 16 * hi') / 16 % 4 = hi' := by omega
    have e4 : decide (st + 4 * lo + 16 * hi' ≥ 64) = false := by simp; omega
    rw [e1, e2, e3, e4]
  · simp only [if_true]
    have e1 : (st + 4 * lo + 16 * hi' + 64) % 4 = st := by omega
    have e2 : (st + 4 * lo + 16 * hi' + 64) / 4 % 4 = lo := by omega
    have e3 : (st + 4 * lo + 16 * hi' + 64) / 16 % 4 = hi' := by omega
    have e4 : decide (st + 4 * lo + 16 * hi' + 64 ≥ 64) = true := by simp; omega
    rw [e1, e2, e3, e4]
theorem recsAt_be (l : List Int) : ∀ (recs : List (Int × Int × Int × (Int × Int) × Bool × List (Int × List Int))) (i : Int), 0 ≤ i → (∀ r ∈ recs, recOkT r = true ∧ r.2.1 ≤ 65535 ∧ r.2.2.2.2.2 = []) → l.drop i.toNat = recs.flatMap recB → recsAt l recs.length i = (recs, true)
  | [], i, h0, _, h => rfl
  | r :: recs, i, h0, hr, h => by
    obtain ⟨r1, r2, r3⟩ := hr r (by simp)
    rw [List.flatMap_cons] at h
    obtain ⟨o1, o2, o3⟩ := recAt_be l i r _ h0 r1 r2 r3 h
    rw [List.length_cons, recsAt, if_neg (by omega), recsAt_be l recs (i + 5) (by omega) (fun x hx => hr x (by simp [hx])) o3, o1]
theorem flat_len : ∀ (l : List (Int × Int × Int × (Int × Int) × Bool × List (Int × List Int))), (l.flatMap recB).length = 5 * l.length
  | [] => rfl
  | x :: l => by rw [List.flatMap_cons, List.length_append, flat_len l, recB_length, List.length_cons]; omega
theorem body_len (kind from0 inc lo hi seq target : Int) (recs : List (Int × Int × Int × (Int × Int) × Bool × List (Int × List Int))) : (bodyF kind from0 inc lo hi seq target recs).length = 15 + 5 * recs.length := by
  unfold bodyF headB
  simp only [List.length_append, be_length, flat_len]
/-- the law reads what was written -/
theorem msg_back (kind from0 inc lo hi seq target : Int) (recs : List (Int × Int × Int × (Int × Int) × Bool × List (Int × List Int))) (h : fits1 kind from0 inc lo hi seq target 0 0 0 recs = true) :
    msgL (bodyF kind from0 inc lo hi seq target recs) = (kind, from0, inc, lo, hi, seq, target, recs, true) := by
  have hf := h
  rw [fits_same] at hf
  obtain ⟨hv, hx⟩ := fits_facts hf
  obtain ⟨v1, v2, v3, v4, v5, v6, v7, v8, v9, v10, v11, _, v12, v13⟩ := valid_facts hv
  have v14 := (okS_iff _ _).1 v7
  have hk9 : kind ≠ 9 := by
    intro e
    subst e
    unfold fitsL at hf
    simp at hf
  have hll := body_len kind from0 inc lo hi seq target recs
  generalize hl : bodyF kind from0 inc lo hi seq target recs = l at *
  have e0 : l.drop (0 : Int).toNat = be (Int.toNat 1) kind ++ (be 2 from0 ++ (be 6 inc ++ (be 1 (lo * 16 + hi) ++ (be 2 seq ++ (be 2 target ++ (be 1 (recs.length : Int) ++ recs.flatMap recB)))))) := by
    rw [← hl]
    simp [bodyF, headB, n1]
  have a2 := drop_next l 0 1 kind _ (by omega) (by omega) e0
  have b2 := drop_next l _ 2 from0 _ (by omega) (by omega) a2
  have c2 := drop_next l _ 6 inc _ (by omega) (by omega) b2
  have d2 := drop_next l _ 1 (lo * 16 + hi) _ (by omega) (by omega) c2
  have f2 := drop_next l _ 2 seq _ (by omega) (by omega) d2
  have g2 := drop_next l _ 2 target _ (by omega) (by omega) f2
  have i2 := drop_next l _ 1 (recs.length : Int) _ (by omega) (by omega) g2
  have p0 : l.getD 0 0 = kind := by
    have := e0
    rw [n1, be1 kind (by omega) (by omega)] at this
    exact getD_drop l 0 _ _ this
  have p1 : numB (seg l 1 2) = from0 := by rw [seg_be l 1 2 from0 _ (by omega) (by omega) a2]; exact numB_be 2 from0 v3 (by simp; omega)
  have p3 : numB (seg l 3 6) = inc := by rw [seg_be l 3 6 inc _ (by omega) (by omega) b2]; exact numB_be 6 inc v5 (by simp; omega)
  have p9 : l.getD 9 0 = lo * 16 + hi := by
    have := c2
    rw [be1 (lo * 16 + hi) (by omega) (by omega)] at this
    exact getD_drop l 9 _ _ this
  have p10 : numB (seg l 10 2) = seq := by rw [seg_be l 10 2 seq _ (by omega) (by omega) d2]; exact numB_be 2 seq v8 (by simp; omega)
  have p12 : numB (seg l 12 2) = target := by rw [seg_be l 12 2 target _ (by omega) (by omega) f2]; exact numB_be 2 target v10 (by simp; omega)
  have p14 : l.getD 14 0 = (recs.length : Int) := by
    have := g2
    rw [be1 (recs.length : Int) (by omega) (by omega)] at this
    exact getD_drop l 14 _ _ this
  have hra := recsAt_be l recs 15 (by omega) (fun r hr => ⟨v13 r hr, hx r hr⟩) i2
  unfold msgL
  rw [p0, p1, p3, p9, p10, p12, p14, Int.toNat_natCast, hra, if_neg (by rintro (h | h) <;> omega)]
  dsimp only
  have q1 : (lo * 16 + hi) / 16 = lo := by omega
  have q2 : (lo * 16 + hi) % 16 = hi := by omega
  rw [if_pos rfl, q1, q2]
  unfold msgEnd
  have h9 : (kind == 9) = false := by simpa using hk9
  rw [hv, h9]
  rfl
theorem be_seg (l : List Int) (hl : inB l = true) (a n : Int) (h0 : 0 ≤ a) (h1 : 0 ≤ n) (h2 : a + n ≤ (l.length : Int)) : be n.toNat (numB (seg l a n)) = seg l a n := by
  have := be_numB (seg l a n) (fun c hc => ((inB_iff l).1 hl).2 c (seg_mem hc))
  rwa [seg_length l a n h0 h1 (by omega)] at this
theorem numB_two (l : List Int) (hl : inB l = true) (a : Int) (h0 : 0 ≤ a) (h2 : a + 2 ≤ (l.length : Int)) : 0 ≤ numB (seg l a 2) ∧ numB (seg l a 2) ≤ 65535 := by
  have hlen := seg_length l a 2 h0 (by omega) (by omega)
  have hb : ∀ c ∈ seg l a 2, 0 ≤ c ∧ c ≤ 255 := fun c hc => ((inB_iff l).1 hl).2 c (seg_mem hc)
  match hs : seg l a 2, hlen with
  | [x, y], _ =>
    have hx := hb x (by rw [hs]; simp)
    have hy := hb y (by rw [hs]; simp)
    simp [numB]
    omega
theorem drop_seg (l : List Int) (a n : Int) (h0 : 0 ≤ a) (h1 : 0 ≤ n) : l.drop a.toNat = seg l a n ++ l.drop (a + n).toNat := by
  unfold seg
  rw [List.drop_take, show (a + n).toNat = a.toNat + n.toNat from by omega, Nat.add_sub_cancel_left, ← List.drop_drop, List.take_append_drop]
theorem drop_one (l : List Int) (k : Nat) (hk : k < l.length) : l.drop k = l.getD k 0 :: l.drop (k + 1) := by
  rw [List.drop_eq_getElem_cons hk]
  simp [List.getD, List.getElem?_eq_getElem hk]
theorem recsAt_ok (l : List Int) (hl : inB l = true) : ∀ (k : Nat) (i : Int), 0 ≤ i → i + 5 * (k : Int) = (l.length : Int) → (recsAt l k i).2 = true →
    (recsAt l k i).1.length = k ∧ l.drop i.toNat = (recsAt l k i).1.flatMap recB ∧ ∀ r ∈ (recsAt l k i).1, r.2.1 ≤ 65535
  | 0, i, h0, h, _ => ⟨rfl, by rw [List.drop_of_length_le (by omega)]; rfl, fun r hr => by simp [recsAt] at hr⟩
  | k + 1, i, h0, h, hr => by
    unfold recsAt at hr ⊢
    split at hr
    · cases hr
    · rename_i hv
      rw [if_neg hv]
      dsimp only at hr ⊢
      obtain ⟨i1, i2, i3⟩ := recsAt_ok l hl k (i + 5) (by omega) (by omega) hr
      obtain ⟨b1, b2⟩ := getD_byte l hl (i + 4).toNat (by omega)
      refine ⟨by simp [i1], ?_, fun r hr' => ?_⟩
      · rw [List.flatMap_cons, ← i2]
        have hs : stateL (recAt l i) = l.getD (i + 4).toNat 0 := by
          unfold recAt stateL
          dsimp only
          generalize l.getD (i + 4).toNat 0 = v at *
          by_cases h6 : v ≥ 64
          · rw [if_pos (by simpa using h6)]; omega
          · rw [if_neg (by simpa using h6)]; omega
        unfold recB
        rw [hs, be1 _ b1 (by omega)]
        unfold recAt
        dsimp only
        have e1 := be_seg l hl i 2 h0 (by omega) (by omega)
        have e2 := be_seg l hl (i + 2) 2 (by omega) (by omega) (by omega)
        rw [n2] at e1 e2
        rw [e1, e2, drop_seg l i 2 h0 (by omega), drop_seg l (i + 2) 2 (by omega) (by omega)]
        have e3 : (i + 2 + 2).toNat = (i + 4).toNat := by congr 1; omega
        have e4 : (i + 5).toNat = (i + 4).toNat + 1 := by omega
        rw [e3, drop_one l (i + 4).toNat (by omega), e4]
        simp
      · rcases List.mem_cons.1 hr' with rfl | hr'
        · exact (numB_two l hl (i + 2) (by omega) (by omega)).2
        · exact i3 r hr'
/-- what the law reads is what is written -/
theorem msg_image (l : List Int) (hl : inB l = true) (h : (msgL l).2.2.2.2.2.2.2.2 = true) :
    fits1 (msgL l).1 (msgL l).2.1 (msgL l).2.2.1 (msgL l).2.2.2.1 (msgL l).2.2.2.2.1 (msgL l).2.2.2.2.2.1 (msgL l).2.2.2.2.2.2.1 0 0 0 (msgL l).2.2.2.2.2.2.2.1 = true ∧
    bodyF (msgL l).1 (msgL l).2.1 (msgL l).2.2.1 (msgL l).2.2.2.1 (msgL l).2.2.2.2.1 (msgL l).2.2.2.2.2.1 (msgL l).2.2.2.2.2.2.1 (msgL l).2.2.2.2.2.2.2.1 = l := by
  unfold msgL at h ⊢
  by_cases hc : l.length < 15 ∨ (l.length : Int) ≠ 15 + 5 * l.getD 14 0
  · rw [if_pos hc] at h; cases h
  · rw [if_neg hc] at h ⊢
    have h15 : 15 ≤ l.length := by
      rcases Nat.lt_or_ge l.length 15 with k | k
      · exact absurd (.inl k) hc
      · exact k
    have hn : (l.length : Int) = 15 + 5 * l.getD 14 0 := by
      by_cases k : (l.length : Int) = 15 + 5 * l.getD 14 0
      · exact k
      · exact absurd (.inr k) hc
    obtain ⟨b1, b2⟩ := getD_byte l hl 14 (by omega)
    obtain ⟨c1, c2⟩ := getD_byte l hl 0 (by omega)
    obtain ⟨d1, d2⟩ := getD_byte l hl 9 (by omega)
    dsimp only at h ⊢
    by_cases hr : (recsAt l (l.getD 14 0).toNat 15).2 = true
    · rw [if_pos hr] at h ⊢
      obtain ⟨r1, r2, r3⟩ := recsAt_ok l hl (l.getD 14 0).toNat 15 (by omega) (by omega) hr
      have rb := (recsAt_bare l (l.getD 14 0).toNat 15).2
      generalize hrs : (recsAt l (l.getD 14 0).toNat 15).1 = recs at *
      unfold msgEnd at h ⊢
      by_cases hv : (validF (l.getD 0 0) (numB (seg l 1 2)) (numB (seg l 3 6)) (l.getD 9 0 / 16) (l.getD 9 0 % 16) (numB (seg l 10 2)) (numB (seg l 12 2)) 0 0 0 recs && !(l.getD 0 0 == 9)) = true
      · rw [if_pos hv]
        dsimp only
        rw [Bool.and_eq_true] at hv
        constructor
        · rw [fits_same]
          unfold fitsL
          have h9 : (l.getD 0 0 == 9) = false := by simpa using hv.2
          rw [hv.1, h9]
          have hfg : ∀ (x : List (Int × Int × Int × (Int × Int) × Bool × List (Int × List Int))), (∀ r ∈ x, r.2.1 ≤ 65535) → (∀ r ∈ x, r.2.2.2.2.2 = []) → fitGo x = true := by
            intro x
            induction x with
            | nil => intro _ _; rfl
            | cons y x ih =>
              intro k1 k2
              unfold fitGo
              have k3 := k1 y (by simp)
              rw [k2 y (by simp), if_neg (by simp; omega)]
              exact ih (fun r hr => k1 r (by simp [hr])) (fun r hr => k2 r (by simp [hr]))
          simp [hfg recs r3 rb]
        · unfold bodyF headB
          have hlen : (recs.length : Int) = l.getD 14 0 := by omega
          rw [hlen, ← r2, show l.getD 9 0 / 16 * 16 + l.getD 9 0 % 16 = l.getD 9 0 from by omega, be1 _ c1 (by omega), be1 _ d1 (by omega), be1 _ b1 (by omega)]
          have e1 := be_seg l hl 1 2 (by omega) (by omega) (by omega)
          have e2 := be_seg l hl 3 6 (by omega) (by omega) (by omega)
          have e3 := be_seg l hl 10 2 (by omega) (by omega) (by omega)
          have e4 := be_seg l hl 12 2 (by omega) (by omega) (by omega)
          rw [n2] at e1 e3 e4
          rw [n6] at e2
          rw [e1, e2, e3, e4]
          have t0 := drop_one l 0 (by omega)
          have t1 := drop_seg l 1 2 (by omega) (by omega)
          have t2 := drop_seg l 3 6 (by omega) (by omega)
          have t3 := drop_one l 9 (by omega)
          have t4 := drop_seg l 10 2 (by omega) (by omega)
          have t5 := drop_seg l 12 2 (by omega) (by omega)
          have t6 := drop_one l 14 (by omega)
          have u0 : l = l.getD 0 0 :: (seg l 1 2 ++ (seg l 3 6 ++ (l.getD 9 0 :: (seg l 10 2 ++ (seg l 12 2 ++ (l.getD 14 0 :: l.drop (15 : Int).toNat)))))) := by
            have k5 : l.drop (12 : Int).toNat = seg l 12 2 ++ (l.getD 14 0 :: l.drop (15 : Int).toNat) := t5.trans (congrArg _ t6)
            have k4 : l.drop (10 : Int).toNat = seg l 10 2 ++ (seg l 12 2 ++ (l.getD 14 0 :: l.drop (15 : Int).toNat)) := t4.trans (congrArg _ k5)
            have k3 : l.drop 9 = l.getD 9 0 :: (seg l 10 2 ++ (seg l 12 2 ++ (l.getD 14 0 :: l.drop (15 : Int).toNat))) := t3.trans (congrArg _ k4)
            have k2 : l.drop (3 : Int).toNat = seg l 3 6 ++ (l.getD 9 0 :: (seg l 10 2 ++ (seg l 12 2 ++ (l.getD 14 0 :: l.drop (15 : Int).toNat)))) := t2.trans (congrArg _ k3)
            have k1 : l.drop (1 : Int).toNat = seg l 1 2 ++ (seg l 3 6 ++ (l.getD 9 0 :: (seg l 10 2 ++ (seg l 12 2 ++ (l.getD 14 0 :: l.drop (15 : Int).toNat))))) := t1.trans (congrArg _ k2)
            exact (t0.trans (congrArg _ k1))
          conv => rhs; rw [u0]
          simp [List.append_assoc]
      · rw [if_neg hv] at h; cases h
    · rw [if_neg hr] at h; cases h
end Go.Proofs.Ytlmljpmohljefaa
