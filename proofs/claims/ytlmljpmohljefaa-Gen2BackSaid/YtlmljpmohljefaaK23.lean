/- Gen2Reads: what the reader tells is what the law's own reading tells. -/
import Derived.Test.YtlmljpmohljefaaK22
set_option linter.unusedVariables false
set_option linter.unusedSimpArgs false
namespace Go.Proofs.Ytlmljpmohljefaa
open Go.Den
theorem matchW_hit (t w : Int) (tw : List (Int × Int)) (l : LF) : matchW ((t, w) :: tw) l = match hit t w l with
    | none => false
    | some (_, m) => matchW tw m := by
  cases l with
  | nil => rfl
  | cons x l =>
    rw [matchW, hit]
    by_cases h1 : x.1 = t
    · by_cases h2 : (x.2.length : Int) = w
      · simp [h1, h2]
      · simp [h1, h2]
    · simp [h1]
theorem numB_four (p : List Int) (hb : ∀ c ∈ p, 0 ≤ c ∧ c ≤ 255) (h : (p.length : Int) = 4) : numB p ≤ 4294967295 := by
  match p, h with
  | [a, b, c, d], _ =>
    have h1 := hb a (by simp)
    have h2 := hb b (by simp)
    have h3 := hb c (by simp)
    have h4 := hb d (by simp)
    simp [numB]
    omega
theorem recOk_span {id inc st lo hi : Int} {cut : Bool} {bag : LF} (h : okS lo hi = false) : recOk id inc st lo hi cut bag = false := by
  unfold recOk
  split
  · rfl
  · split
    · rfl
    · split
      · rfl
      · rw [h]; rfl
theorem recR_eq (b : List Int) : recR b = match (if (splitF b).2 != 0 then none else match hit 1 2 (splitF b).1 with
    | none => none
    | some (a1, m1) => match hit 2 4 m1 with
      | none => none
      | some (a2, m2) => match hit 3 1 m2 with
        | none => none
        | some (a3, m3) => match hit 4 1 m3 with
          | none => none
          | some (a4, m4) => some (a1, a2, a3, a4, m4)) with
    | none => ((0, 0, 0, (0, 0), false, []), false)
    | some (a1, a2, a3, a4, m) => ((a1, a2, a3 % 128, (a4 / 16, a4 % 16), decide (a3 ≥ 128), m), recOk a1 a2 (a3 % 128) (a4 / 16) (a4 % 16) (decide (a3 ≥ 128)) m) := by
  unfold recR rowsF
  cases h0 : ((splitF b).2 != 0)
  · simp only [Bool.false_eq_true, if_false]
    cases h1 : hit 1 2 (splitF b).1 with
    | none =>
      have hm : matchW [(1, 2), (2, 4), (3, 1), (4, 1)] (splitF b).1 = false := by rw [matchW_hit, h1]
      rw [hm]
      rfl
    | some p1 =>
      obtain ⟨a1, m1⟩ := p1
      dsimp only
      cases h2 : hit 2 4 m1 with
      | none =>
        have hm : matchW [(1, 2), (2, 4), (3, 1), (4, 1)] (splitF b).1 = false := by rw [matchW_hit, h1]; dsimp only; rw [matchW_hit, h2]
        rw [hm]
        rfl
      | some p2 =>
        obtain ⟨a2, m2⟩ := p2
        dsimp only
        cases h3 : hit 3 1 m2 with
        | none =>
          have hm : matchW [(1, 2), (2, 4), (3, 1), (4, 1)] (splitF b).1 = false := by rw [matchW_hit, h1]; dsimp only; rw [matchW_hit, h2]; dsimp only; rw [matchW_hit, h3]
          rw [hm]
          rfl
        | some p3 =>
          obtain ⟨a3, m3⟩ := p3
          dsimp only
          cases h4 : hit 4 1 m3 with
          | none =>
            have hm : matchW [(1, 2), (2, 4), (3, 1), (4, 1)] (splitF b).1 = false := by rw [matchW_hit, h1]; dsimp only; rw [matchW_hit, h2]; dsimp only; rw [matchW_hit, h3]; dsimp only; rw [matchW_hit, h4]
            rw [hm]
            rfl
          | some p4 =>
            obtain ⟨a4, m4⟩ := p4
            have hm : matchW [(1, 2), (2, 4), (3, 1), (4, 1)] (splitF b).1 = true := by rw [matchW_hit, h1]; dsimp only; rw [matchW_hit, h2]; dsimp only; rw [matchW_hit, h3]; dsimp only; rw [matchW_hit, h4]; rfl
            rw [hm]
            obtain ⟨x1, e1, rfl, _⟩ := hit_some h1
            obtain ⟨x2, rfl, rfl, _⟩ := hit_some h2
            obtain ⟨x3, rfl, rfl, _⟩ := hit_some h3
            obtain ⟨x4, rfl, rfl, _⟩ := hit_some h4
            rw [e1]
            rfl
  · rfl
theorem rec_rel (b : List Int) (hb : inS b = true) :
    ((recR b).2 = true ∧ recD b = ((recR b).1, true) ∧ recOkT (recR b).1 = true ∧ (recR b).1.2.1 ≤ 4294967295) ∨ ((recR b).2 = false ∧ ((recD b).2 = false ∨ recOkT (recD b).1 = false)) := by
  have e := recD_eq b
  have er := recR_eq b
  have hf := split_flds b hb
  cases h0 : ((splitF b).2 != 0)
  · rw [h0] at e er
    simp only [Bool.false_eq_true, if_false] at e er
    cases h1 : hit 1 2 (splitF b).1 with
    | none => rw [h1] at e er; exact .inr ⟨by rw [er], .inl (by rw [e])⟩
    | some p1 =>
      obtain ⟨a1, m1⟩ := p1
      rw [h1] at e er
      dsimp only at e er
      cases h2 : hit 2 4 m1 with
      | none => rw [h2] at e er; exact .inr ⟨by rw [er], .inl (by rw [e])⟩
      | some p2 =>
        obtain ⟨a2, m2⟩ := p2
        rw [h2] at e er
        dsimp only at e er
        cases h3 : hit 3 1 m2 with
        | none => rw [h3] at e er; exact .inr ⟨by rw [er], .inl (by rw [e])⟩
        | some p3 =>
          obtain ⟨a3, m3⟩ := p3
          rw [h3] at e er
          dsimp only at e er
          cases h4 : hit 4 1 m3 with
          | none => rw [h4] at e er; exact .inr ⟨by rw [er], .inl (by rw [e])⟩
          | some p4 =>
            obtain ⟨a4, m4⟩ := p4
            rw [h4] at e er
            dsimp only at e er
            obtain ⟨x1, e1, rfl, c1, d1⟩ := hit_some h1
            obtain ⟨x2, rfl, rfl, c2, d2⟩ := hit_some h2
            obtain ⟨x3, rfl, rfl, c3, d3⟩ := hit_some h3
            obtain ⟨x4, rfl, rfl, c4, d4⟩ := hit_some h4
            have q4 := byte_of hf (x := x4) (by rw [e1]; simp) d4
            have q2 := numB_four x2.2 (inB_bytes ((inS_iff _).1 (((fldsOk_iff _).1 hf).2 x2 (by rw [e1]; simp))).1) d2
            rw [er]
            obtain ⟨o1, o2⟩ := ofGo_div (numB x4.2) q4.1 q4.2
            cases hs : okS (numB x4.2 / 16) (numB x4.2 % 16)
            · refine .inr ⟨recOk_span hs, .inr ?_⟩
              rw [e]
              exact recOk_span (o2 hs)
            · have o := o1 hs
              rw [o] at e
              dsimp only at e
              cases hr : recOk (numB x1.2) (numB x2.2) (numB x3.2 % 128) (numB x4.2 / 16) (numB x4.2 % 16) (decide (numB x3.2 ≥ 128)) m4
              · exact .inr ⟨rfl, .inr (by rw [e]; exact hr)⟩
              · exact .inl ⟨rfl, e, hr, q2⟩
  · rw [h0] at e er
    refine .inr ⟨by rw [er]; rfl, .inl ?_⟩
    rw [e]
    rfl
theorem flds_tail {x : Int × List Int} {m : LF} (h : fldsOk (x :: m) = true) : fldsOk m = true := by
  obtain ⟨f1, f2⟩ := (fldsOk_iff _).1 h
  exact (fldsOk_iff _).2 ⟨by simp at f1; omega, fun y hy => f2 y (by simp [hy])⟩
theorem recs_rel : ∀ m : LF, fldsOk m = true → (∃ r, recsR m = some r ∧ recsD m = some r ∧ ∀ x ∈ r, recOkT x = true ∧ x.2.1 ≤ 4294967295) ∨ (recsR m = none ∧ (recsD m = none ∨ ∃ r, recsD m = some r ∧ ∃ x ∈ r, recOkT x = false))
  | [], _ => .inl ⟨[], rfl, rfl, by simp⟩
  | x :: m, hf => by
    have hx := ((fldsOk_iff _).1 hf).2 x (by simp)
    rw [recsR, recsD]
    by_cases c1 : x.1 = 7
    · have c1' : (x.1 != 7) = false := by simp [c1]
      rw [c1', Bool.false_or, Bool.or_false]
      rcases rec_rel x.2 hx with ⟨h1, h2, h3, h4⟩ | ⟨h1, h2⟩
      · rw [h1, h2]
        simp only [Bool.not_true, Bool.false_eq_true, if_false]
        rcases recs_rel m (flds_tail hf) with ⟨r, i1, i2, i3⟩ | ⟨i1, i2 | ⟨r, i2, y, hy, i3⟩⟩
        · rw [i1, i2]
          refine .inl ⟨_, rfl, rfl, fun y hy => ?_⟩
          rcases List.mem_cons.1 hy with rfl | hy
          · exact ⟨h3, h4⟩
          · exact i3 y hy
        · rw [i1, i2]
          exact .inr ⟨by trivial, .inl (by trivial)⟩
        · rw [i1, i2]
          exact .inr ⟨by trivial, .inr ⟨_, rfl, y, by simp [hy], i3⟩⟩
      · rw [h1]
        simp only [Bool.not_false, if_true]
        rcases h2 with h2 | h2
        · rw [h2]
          exact .inr ⟨by trivial, .inl (by trivial)⟩
        · cases h5 : (recD x.2).2
          · exact .inr ⟨by trivial, .inl (by trivial)⟩
          · simp only [Bool.not_true, Bool.false_eq_true, if_false]
            cases h6 : recsD m with
            | none => exact .inr ⟨by trivial, .inl (by trivial)⟩
            | some r => exact .inr ⟨by trivial, .inr ⟨_, rfl, (recD x.2).1, by simp, h2⟩⟩
    · have c1' : (x.1 != 7) = true := by simp [c1]
      rw [c1', Bool.true_or, Bool.or_true]
      exact .inr ⟨by trivial, .inl (by trivial)⟩
theorem hit_flat {t n : Int} {l : LF} {v : Int} {m : LF} (hf : fldsOk l = true) (n1 : 1 ≤ n) (n7 : n ≤ 7) (h : hit t n l = some (v, m)) : l.flatMap fieldB = itB t n v ++ m.flatMap fieldB ∧ fldsOk m = true := by
  have e := takeN_of_hit h
  have := take_ok hf false t n n1 n7 (by rw [e])
  rw [e] at this
  obtain ⟨x, rfl, _⟩ := hit_some h
  exact ⟨this.2, flds_tail hf⟩
theorem opt_flat {c : Bool} {t : Int} {l : LF} {v : Int} {m : LF} (hf : fldsOk l = true) (h : optT c t l = some (v, m)) : l.flatMap fieldB = (if c then itB t 2 v else []) ++ m.flatMap fieldB ∧ fldsOk m = true := by
  unfold optT at h
  cases c
  · simp at h ⊢
    obtain ⟨rfl, rfl⟩ := h
    exact ⟨rfl, hf⟩
  · simp only [if_true] at h ⊢
    exact hit_flat hf (by omega) (by omega) h
theorem split_flat (b : List Int) (hb : inS b = true) (h : (splitF b).2 = 0) : (splitF b).1.flatMap fieldB = b := by
  unfold splitF at h ⊢
  cases hs : splitGo b.length b with
  | none => rw [hs] at h; simp at h
  | some r => exact (splitGo_ok b.length b r (inB_bytes ((inS_iff b).1 hb).1) hs).1
theorem msgP_facts {b : List Int} (hb : inS b = true) {K f i c s t : Int} {m : LF} (h : msgP b = some (K, f, i, c, s, t, m)) :
    b.length ≤ 65499 ∧ 0 ≤ c ∧ c ≤ 255 ∧ fldsOk m = true ∧ itB 1 1 K ++ (itB 2 2 f ++ (itB 3 6 i ++ (itB 4 1 c ++ ((if hasF K 0 then itB 5 2 s else []) ++ ((if hasF K 1 then itB 6 2 t else []) ++ m.flatMap fieldB))))) = b := by
  have hf := split_flds b hb
  unfold msgP at h
  split at h
  · cases h
  rename_i hc
  simp at hc
  obtain ⟨hc1, hc2⟩ := hc
  split at h
  · cases h
  rename_i K1 m1 h1
  split at h
  · cases h
  rename_i f1 m2 h2
  split at h
  · cases h
  rename_i i1 m3 h3
  split at h
  · cases h
  rename_i c1 m4 h4
  split at h
  · cases h
  rename_i s1 m5 h5
  split at h
  · cases h
  rename_i t1 m6 h6
  cases h
  obtain ⟨e1, f1⟩ := hit_flat hf (by omega) (by omega) h1
  obtain ⟨e2, f2⟩ := hit_flat f1 (by omega) (by omega) h2
  obtain ⟨e3, f3⟩ := hit_flat f2 (by omega) (by omega) h3
  obtain ⟨e4, f4⟩ := hit_flat f3 (by omega) (by omega) h4
  obtain ⟨e5, f5⟩ := opt_flat f4 h5
  obtain ⟨e6, f6⟩ := opt_flat f5 h6
  obtain ⟨x, rfl, rfl, _, d4⟩ := hit_some h4
  have q := byte_of f3 (x := x) (by simp) d4
  refine ⟨by omega, q.1, q.2, f6, ?_⟩
  rw [← split_flat b hb hc1, e1, e2, e3, e4, e5, e6]
noncomputable def outM (e : Int × Int × Int × Int × Int × Int × Int × LR × Int) : Int × Int × Int × Int × Int × Int × Int × Int × Int × Int × LR × Bool :=
  (e.1, e.2.1, e.2.2.1, e.2.2.2.1, e.2.2.2.2.1, e.2.2.2.2.2.1, e.2.2.2.2.2.2.1, 0, 0, 0, e.2.2.2.2.2.2.2.1, e.2.2.2.2.2.2.2.2 == 0)
theorem fit2_of : ∀ r : LR, (∀ x ∈ r, x.2.1 ≤ 4294967295) → fit2Go r = true
  | [], _ => rfl
  | x :: r, h => by
    have := h x (by simp)
    rw [fit2Go, if_neg (by simp; omega)]
    exact fit2_of r fun y hy => h y (by simp [hy])
theorem fin_rel {b : List Int} (hb : inS b = true) {K f i c s t : Int} {m : LF} (h : msgP b = some (K, f, i, c, s, t, m)) :
    finR K f i (c / 16) (c % 16) s t (recsR m) = outM (end2 false K f i (ofGo allF c).1 (ofGo allF c).2.1 s t (recsD m)) := by
  obtain ⟨hlen, c0, c255, hfm, hbody⟩ := msgP_facts hb h
  obtain ⟨o1, o2⟩ := ofGo_div c c0 c255
  have nospan : ∀ {lo hi : Int} {r : LR}, okS lo hi = false → validF K f i lo hi s t 0 0 0 r = false := by
    intro lo hi r hs
    cases hv : validF K f i lo hi s t 0 0 0 r with
    | false => rfl
    | true => have := (valid_facts hv).2.2.2.2.2.2.1; rw [hs] at this; cases this
  have nofit : ∀ {lo hi : Int} {r : LR}, validF K f i lo hi s t 0 0 0 r = false → fits2 K f i lo hi s t 0 0 0 r = false := by
    intro lo hi r hv
    unfold fits2
    rw [hv]
    rfl
  rcases recs_rel m hfm with ⟨r, i1, i2, i3⟩ | ⟨i1, i2⟩
  · rw [i1, i2]
    unfold finR end2 outM
    dsimp only
    cases hs : okS (c / 16) (c % 16)
    · rw [nospan hs, nofit (nospan (o2 hs))]
      rfl
    · rw [o1 hs]
      dsimp only
      cases hv : validF K f i (c / 16) (c % 16) s t 0 0 0 r
      · rw [nofit hv]
        rfl
      · have hbd : body2 K f i (c / 16) (c % 16) s t r = b := by
          unfold body2
          rw [show c / 16 * 16 + c % 16 = c from by omega, (recsD_ok m r hfm i2 fun x hx => (i3 x hx).1).1]
          exact hbody
        have hz := size_body hv
        rw [hbd] at hz
        have hf2 := fit2_of r fun x hx => (i3 x hx).2
        by_cases h9 : K = 9
        · have : fits2 K f i (c / 16) (c % 16) s t 0 0 0 r = false := by
            unfold fits2
            simp [h9]
          rw [this]
          simp [h9]
        · have : fits2 K f i (c / 16) (c % 16) s t 0 0 0 r = true := by
            unfold fits2
            rw [hv, hz, if_neg, hf2]
            simp [h9]
            omega
          rw [this]
          simp [h9]
  · rw [i1]
    rcases i2 with i2 | ⟨r, i2, x, hx, i3⟩
    · rw [i2]
      rfl
    · rw [i2]
      unfold finR end2 outM
      dsimp only
      have : validF K f i (ofGo allF c).1 (ofGo allF c).2.1 s t 0 0 0 r = false := by
        cases hv : validF K f i (ofGo allF c).1 (ofGo allF c).2.1 s t 0 0 0 r with
        | false => rfl
        | true =>
          have := (valid_facts hv).2.2.2.2.2.2.2.2.2.2.2.2.2 x hx
          rw [i3] at this
          cases this
      rw [nofit this]
      rfl
end Go.Proofs.Ytlmljpmohljefaa
