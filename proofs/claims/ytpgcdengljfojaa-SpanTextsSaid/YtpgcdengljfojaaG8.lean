import Derived.Test.YtpgcdengljfojaaG6
set_option linter.unusedVariables false
set_option linter.unusedSimpArgs false
namespace Go.Proofs.Ytpgcdengljfojaa
open Go.Den

theorem maxI_eq (a b : Int) : maxI a b = max a b := by unfold maxI; split <;> omega
theorem minI_eq (a b : Int) : minI a b = min a b := by unfold minI; split <;> omega
theorem okS_iff (a b : Int) : okS a b = true ↔ 1 ≤ a ∧ a ≤ b ∧ b ≤ 3 := by
  unfold okS
  simp only [Bool.and_eq_true, decide_eq_true_eq]
  omega
theorem inGo_iff : ∀ (l : List (Int × Int)) (m : Int), inGo l m = true ↔ (∀ s ∈ l, okS s.1 s.2 = true ∧ s.1 ≤ m ∧ m ≤ s.2) ∧ 1 ≤ m ∧ m ≤ 3
  | [], m => by simp [inGo]
  | s :: l, m => by
    have ih := inGo_iff l m
    unfold inGo
    cases h : okS s.1 s.2
    · simp [h]
    · by_cases h1 : m < s.1
      · simp only [h, h1, Bool.not_true, decide_true, Bool.true_or, Bool.or_true, if_true, Bool.false_eq_true, List.mem_cons, forall_eq_or_imp, false_iff]
        rintro ⟨⟨⟨_, h2, _⟩, _⟩, _⟩
        omega
      · by_cases h2 : m > s.2
        · simp only [h, h2, Bool.not_true, decide_true, Bool.or_true, if_true, Bool.false_eq_true, List.mem_cons, forall_eq_or_imp, false_iff]
          rintro ⟨⟨⟨_, _, h3⟩, _⟩, _⟩
          omega
        · simp only [h, h1, h2, Bool.not_true, decide_false, Bool.or_self, if_false, Bool.false_eq_true, List.mem_cons, forall_eq_or_imp]
          rw [ih]
          constructor
          · rintro ⟨a, b⟩; exact ⟨⟨⟨trivial, by omega, by omega⟩, a⟩, b⟩
          · rintro ⟨⟨_, a⟩, b⟩; exact ⟨a, b⟩

/-- what is in a span and in all of a list -/
theorem commonGo_spec : ∀ (l : List (Int × Int)) (a b : Int), 1 ≤ a → a ≤ 3 → 1 ≤ b → b ≤ 3 →
    (commonGo l a b = (0, 0, false) ∧ (∀ m, a ≤ m → m ≤ b → inGo l m = false) ∧ ¬ ((∀ s ∈ l, okS s.1 s.2 = true ∧ a ≤ s.2 ∧ s.1 ≤ b) ∧ a ≤ b ∧ ∀ s ∈ l, ∀ t ∈ l, s.1 ≤ t.2)) ∨
    ∃ A B, 1 ≤ A ∧ A ≤ B ∧ B ≤ 3 ∧ commonGo l a b = (A, B, true) ∧ (∀ m, (a ≤ m ∧ m ≤ b ∧ inGo l m = true) ↔ (A ≤ m ∧ m ≤ B)) ∧ (∀ s ∈ l, okS s.1 s.2 = true ∧ a ≤ s.2 ∧ s.1 ≤ b) ∧ a ≤ b ∧ ∀ s ∈ l, ∀ t ∈ l, s.1 ≤ t.2
  | [], a, b, h1, h2, h3, h4 => by
    unfold commonGo
    by_cases h : a ≤ b
    · right
      have : okS a b = true := (okS_iff a b).2 ⟨h1, h, h4⟩
      refine ⟨a, b, h1, h, h4, by simp [this], fun m => ?_, by simp, h, by simp⟩
      rw [inGo_iff]
      simp
      omega
    · left
      have : okS a b = false := by
        cases hh : okS a b
        · rfl
        · exact absurd ((okS_iff a b).1 hh).2.1 h
      exact ⟨by simp [this], fun m _ _ => by omega, fun hh => h hh.2.1⟩
  | s :: l, a, b, h1, h2, h3, h4 => by
    unfold commonGo
    cases h : okS s.1 s.2
    · left
      refine ⟨by simp, fun m _ _ => ?_, fun hh => ?_⟩
      · cases hh : inGo (s :: l) m
        · rfl
        · have := ((inGo_iff _ _).1 hh).1 s (by simp)
          rw [h] at this
          cases this.1
      · have := (hh.1 s (by simp)).1
        rw [h] at this
        cases this
    · have hs := (okS_iff _ _).1 h
      simp only [Bool.not_true, Bool.false_eq_true, if_false]
      rw [maxI_eq, minI_eq]
      rcases commonGo_spec l (max a s.1) (min b s.2) (by omega) (by omega) (by omega) (by omega) with ⟨e, hm, hn⟩ | ⟨A, B, hA, hAB, hB, e, hm, hv, hab, hp⟩
      · left
        refine ⟨e, fun m ha hb => ?_, fun hh => hn ?_⟩
        · cases hh : inGo (s :: l) m
          · rfl
          · obtain ⟨h5, h6⟩ := (inGo_iff _ _).1 hh
            have h7 := h5 s (by simp)
            have h8 : inGo l m = true := (inGo_iff _ _).2 ⟨fun t ht => h5 t (by simp [ht]), h6⟩
            rw [hm m (by omega) (by omega)] at h8
            cases h8
        · obtain ⟨k1, k2, k3⟩ := hh
          have k4 := k1 s (by simp)
          have k6 := k3 s (by simp) s (by simp)
          refine ⟨fun t ht => ?_, by omega, fun t ht u hu => k3 t (by simp [ht]) u (by simp [hu])⟩
          have k5 := k1 t (by simp [ht])
          have k7 := k3 s (by simp) t (by simp [ht])
          have k8 := k3 t (by simp [ht]) s (by simp)
          exact ⟨k5.1, by omega, by omega⟩
      · right
        refine ⟨A, B, hA, hAB, hB, e, fun m => ?_, ?_, by omega, ?_⟩
        · rw [← hm m]
          constructor
          · rintro ⟨k1, k2, k3⟩
            obtain ⟨h5, h6⟩ := (inGo_iff _ _).1 k3
            have h7 := h5 s (by simp)
            exact ⟨by omega, by omega, (inGo_iff _ _).2 ⟨fun t ht => h5 t (by simp [ht]), h6⟩⟩
          · rintro ⟨k1, k2, k3⟩
            obtain ⟨h5, h6⟩ := (inGo_iff _ _).1 k3
            refine ⟨by omega, by omega, (inGo_iff _ _).2 ⟨fun t ht => ?_, h6⟩⟩
            rcases List.mem_cons.1 ht with rfl | ht
            · exact ⟨h, by omega, by omega⟩
            · exact h5 t ht
        · intro t ht
          rcases List.mem_cons.1 ht with rfl | ht
          · exact ⟨h, by omega, by omega⟩
          · have := hv t ht
            exact ⟨this.1, by omega, by omega⟩
        · intro t ht u hu
          rcases List.mem_cons.1 ht with e1 | ht' <;> rcases List.mem_cons.1 hu with e2 | hu'
          · rw [e1, e2]; omega
          · rw [e1]; have := hv u hu'; omega
          · rw [e2]; have := hv t ht'; omega
          · exact hp t ht' u hu'

theorem common_spec (l : List (Int × Int)) :
    (commonF l = (0, 0, false) ∧ (∀ m, inGo l m = false) ∧ ¬ ((∀ s ∈ l, okS s.1 s.2 = true) ∧ ∀ s ∈ l, ∀ t ∈ l, s.1 ≤ t.2)) ∨
    ∃ A B, 1 ≤ A ∧ A ≤ B ∧ B ≤ 3 ∧ commonF l = (A, B, true) ∧ (∀ m, inGo l m = true ↔ (A ≤ m ∧ m ≤ B)) ∧ (∀ s ∈ l, okS s.1 s.2 = true) ∧ ∀ s ∈ l, ∀ t ∈ l, s.1 ≤ t.2 := by
  have hb : ∀ m, inGo l m = true → 1 ≤ m ∧ m ≤ 3 := fun m h => ((inGo_iff l m).1 h).2
  rcases commonGo_spec l 1 3 (by omega) (by omega) (by omega) (by omega) with ⟨e, hm, hn⟩ | ⟨A, B, hA, hAB, hB, e, hm, hv, hab, hp⟩
  · left
    refine ⟨e, fun m => ?_, fun hh => hn ⟨fun s hs => ?_, by omega, hh.2⟩⟩
    · cases h : inGo l m
      · rfl
      · rw [hm m (hb m h).1 (hb m h).2] at h; cases h
    · have := (okS_iff _ _).1 (hh.1 s hs)
      exact ⟨hh.1 s hs, by omega, by omega⟩
  · right
    refine ⟨A, B, hA, hAB, hB, e, fun m => ?_, fun s hs => (hv s hs).1, hp⟩
    rw [← hm m]
    exact ⟨fun h => ⟨(hb m h).1, (hb m h).2, h⟩, fun h => h.2.2⟩

theorem common_ok (l : List (Int × Int)) : (commonF l).2.2 = true ↔ ((∀ s ∈ l, okS s.1 s.2 = true) ∧ ∀ s ∈ l, ∀ t ∈ l, s.1 ≤ t.2) := by
  rcases common_spec l with ⟨e, _, hn⟩ | ⟨A, B, _, _, _, e, _, hv, hp⟩
  · rw [e]; simp only [Bool.false_eq_true, false_iff]; exact hn
  · rw [e]; exact ⟨fun _ => ⟨hv, hp⟩, fun _ => rfl⟩

theorem best_zero (l : List (Int × Int)) : ((commonF l).2.1 == 0) = !(commonF l).2.2 := by
  rcases common_spec l with ⟨e, _, hn⟩ | ⟨A, B, h1, h2, h3, e, _, hv, hp⟩
  · rw [e]; rfl
  · rw [e]
    simp only [Bool.not_true]
    simp
    omega

/-- the greatest and the least -/
theorem rnd_common (l : List (Int × Int)) : let r1 := rnd l 3 0 0; let r2 := rnd l 2 r1.1 r1.2; let r3 := rnd l 1 r2.1 r2.2; (commonF l).1 = r3.2 ∧ (commonF l).2.1 = r3.1 ∧ (commonF l).2.2 = decide (r3.1 > 0) := by
  rcases common_spec l with ⟨e, hm, hn⟩ | ⟨A, B, h1, h2, h3, e, hm, hv, hp⟩
  · simp [rnd, hm, e]
  · have hA : A = 1 ∨ A = 2 ∨ A = 3 := by omega
    have hB : B = 1 ∨ B = 2 ∨ B = 3 := by omega
    rcases hA with rfl | rfl | rfl <;> rcases hB with rfl | rfl | rfl <;> first | omega | (simp [rnd, hm, e])

/-- each two meet -/
noncomputable def pm (l : List (Int × Int)) (i k : Nat) : Bool := (commonF [l.getD i (0, 0), l.getD k (0, 0)]).2.2
noncomputable def rowB (l : List (Int × Int)) (i : Nat) : Bool := (List.range (i + 1)).all (pm l i)
theorem pairs_ok (l : List (Int × Int)) : (List.range l.length).all (rowB l) = (commonF l).2.2 := by
  rw [Bool.eq_iff_iff, common_ok]
  have hpm : ∀ i k, pm l i k = true ↔ (okS (l.getD i (0, 0)).1 (l.getD i (0, 0)).2 = true ∧ okS (l.getD k (0, 0)).1 (l.getD k (0, 0)).2 = true ∧ (l.getD i (0, 0)).1 ≤ (l.getD k (0, 0)).2 ∧ (l.getD k (0, 0)).1 ≤ (l.getD i (0, 0)).2) := by
    intro i k
    unfold pm
    rw [common_ok]
    constructor
    · rintro ⟨a, b⟩
      exact ⟨a _ (by simp), a _ (by simp), b _ (by simp) _ (by simp), b _ (by simp) _ (by simp)⟩
    · rintro ⟨a, b, c, d⟩
      have a1 := (okS_iff _ _).1 a
      have b1 := (okS_iff _ _).1 b
      refine ⟨fun s hs => ?_, fun s hs t ht => ?_⟩
      · simp only [List.mem_cons, List.not_mem_nil, or_false] at hs
        rcases hs with rfl | rfl <;> assumption
      · simp only [List.mem_cons, List.not_mem_nil, or_false] at hs ht
        rcases hs with rfl | rfl <;> rcases ht with rfl | rfl <;> omega
  have hget : ∀ s ∈ l, ∃ i, i < l.length ∧ l.getD i (0, 0) = s := fun s hs => by
    obtain ⟨i, hi, e⟩ := List.mem_iff_getElem.1 hs
    exact ⟨i, hi, by simp [List.getD, List.getElem?_eq_getElem hi, e]⟩
  have hmem : ∀ i, i < l.length → l.getD i (0, 0) ∈ l := fun i hi => by
    simp [List.getD, List.getElem?_eq_getElem hi]
  simp only [List.all_eq_true, List.mem_range, rowB]
  constructor
  · intro h
    refine ⟨fun s hs => ?_, fun s hs t ht => ?_⟩
    · obtain ⟨i, hi, rfl⟩ := hget s hs
      exact ((hpm i i).1 (h i hi i (by omega))).1
    · obtain ⟨i, hi, rfl⟩ := hget s hs
      obtain ⟨k, hk, rfl⟩ := hget t ht
      by_cases hik : k ≤ i
      · exact ((hpm i k).1 (h i hi k (by omega))).2.2.1
      · exact ((hpm k i).1 (h k hk i (by omega))).2.2.2
  · rintro ⟨h1, h2⟩ i hi k hk
    exact (hpm i k).2 ⟨h1 _ (hmem i hi), h1 _ (hmem k (by omega)), h2 _ (hmem i hi) _ (hmem k (by omega)), h2 _ (hmem k (by omega)) _ (hmem i hi)⟩
end Go.Proofs.Ytpgcdengljfojaa
