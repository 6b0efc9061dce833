/- Generation 2 as the law reads it: items, numbers, records. -/
import Derived.Test.YtlmljpmohljefaaA2
set_option linter.unusedVariables false
set_option linter.unusedSimpArgs false
namespace Go.Proofs.Ytlmljpmohljefaa
open Go.Den
/-- the first items have these tags, and so many bytes -/
noncomputable def matchW : List (Int × Int) → LF → Bool
  | [], _ => true
  | _ :: _, [] => false
  | (t, w) :: tw, x :: l => x.1 == t && ((x.2.length : Int) == w && matchW tw l)
noncomputable def rowsF (b : List Int) (tw : List (Int × Int)) : LF × Bool :=
  if (splitF b).2 != 0 then ([], false) else if matchW tw (splitF b).1 then ((splitF b).1, true) else ([], false)
theorem law13_num.loop (fuel : Nat) (p : List Int) (hp : p.length ≤ 7) (hb : ∀ c ∈ p, 0 ≤ c ∧ c ≤ 255) : ∀ (k i : Nat) (v : Int), i ≤ p.length → p.length - i < k → 0 ≤ v → v < 256 ^ i →
    law13_num.l3 fuel p k v (i : Int) = some ((p.drop i).foldl (fun v c => v * 256 + c) v) := by
  intro k
  induction k with
  | zero => intro i v h1 h2; omega
  | succ k ih =>
    intro i v h1 h2 h3 h4
    rw [law13_num.l3]
    unfold law13_num.b3
    by_cases hi : i < p.length
    · rw [if_pos (by simp; omega), idx_at, List.getElem?_eq_getElem hi]
      dsimp only
      obtain ⟨b1, b2⟩ := hb p[i] (List.getElem_mem hi)
      have hv : v < 281474976710656 := by
        have : i = 0 ∨ i = 1 ∨ i = 2 ∨ i = 3 ∨ i = 4 ∨ i = 5 ∨ i = 6 := by omega
        rcases this with rfl | rfl | rfl | rfl | rfl | rfl | rfl <;> simp at h4 <;> omega
      rw [wrap_small (v * 256) (by omega) (by omega), wrap_small p[i] (by omega) (by omega), wrap_small (v * 256 + _) (by omega) (by omega), wrap_small _ (by omega) (by omega), List.drop_eq_getElem_cons hi]
      rw [show ((i : Int) + 1) = ((i + 1 : Nat) : Int) from by omega]
      exact ih (i + 1) _ (by omega) (by omega) (by omega) (by rw [Int.pow_succ]; generalize (256 : Int) ^ i = M at h4 ⊢; omega)
    · rw [if_neg (by simp; omega), List.drop_of_length_le (by omega)]
      rfl
theorem law13_num.pure (p : List Int) (hl : seven p = true) : law13_num.f BIG p = some (numB p) := by
  obtain ⟨h1, h2⟩ := (seven_iff p).1 hl
  unfold law13_num.f law13_num.b
  exact law13_num.loop BIG p h2 ((inB_iff p).1 h1).2 BIG 0 0 (by omega) (by rw [BIG_eq]; omega) (by omega) (by simp)
theorem law13_rows.loop (fuel : Nat) (b tags widths : List Int) (l : LF) (hw : widths.length = tags.length) (hl : tags.length ≤ l.length) (ht : tags.length < 1000) : ∀ (k i : Nat), i ≤ tags.length → tags.length - i < k →
    law13_rows.l5 fuel b tags widths k l (i : Int) = some (if matchW ((tags.drop i).zip (widths.drop i)) (l.drop i) then (l, true) else ([], false)) := by
  intro k
  induction k with
  | zero => intro i h1 h2; omega
  | succ k ih =>
    intro i h1 h2
    rw [law13_rows.l5]
    unfold law13_rows.b5
    by_cases hi : i < tags.length
    · have h3 : i < l.length := by omega
      have h4 : i < widths.length := by omega
      rw [if_pos (by simp; omega), idx_at, idx_at, idx_at, List.getElem?_eq_getElem hi, List.getElem?_eq_getElem h3, List.getElem?_eq_getElem h4]
      dsimp only
      rw [List.drop_eq_getElem_cons hi, List.drop_eq_getElem_cons h3, List.drop_eq_getElem_cons h4, List.zip_cons_cons, matchW]
      by_cases c1 : l[i].1 = tags[i]
      · rw [if_neg (by simp [c1])]
        by_cases c2 : (l[i].2.length : Int) = widths[i]
        · rw [if_neg (by simp [c2]), wrap_small _ (by omega) (by omega), show ((i : Int) + 1) = ((i + 1 : Nat) : Int) from by omega, ih (i + 1) (by omega) (by omega)]
          simp [c1, c2]
        · rw [if_pos (by simpa using c2)]
          simp [c1, c2]
      · rw [if_pos (by simpa using c1)]
        simp [c1]
    · rw [if_neg (by simp; omega)]
      have : i = tags.length := by omega
      subst this
      simp [matchW]
theorem matchW_len : ∀ (tw : List (Int × Int)) (l : LF), matchW tw l = true → tw.length ≤ l.length
  | [], l, _ => by simp
  | _ :: _, [], h => by simp [matchW] at h
  | (t, w) :: tw, x :: l, h => by
    simp [matchW] at h
    have := matchW_len tw l h.2.2
    simp; omega
theorem law13_rows.pure (b tags widths : List Int) (hb : inS b = true) (hw : widths.length = tags.length) (ht : tags.length < 1000) :
    law13_rows.f BIG b tags widths = some (rowsF b (tags.zip widths)) := by
  unfold law13_rows.f law13_rows.b
  rw [if_pos hb, veil_eq]
  dsimp only
  unfold rowsF
  cases h0 : ((splitF b).2 != 0)
  · simp only [Bool.false_eq_true, if_false]
    by_cases h1 : (splitF b).1.length < tags.length
    · rw [if_pos (by simp; omega), if_neg]
      intro h2
      have := matchW_len _ _ h2
      rw [List.length_zip, hw, Nat.min_self] at this
      omega
    · rw [if_neg (by simp; omega)]
      exact law13_rows.loop BIG b tags widths _ hw (by omega) ht BIG 0 (by omega) (by rw [BIG_eq]; omega)
  · rfl
/-- a record as the law reads it; the last one: may it be? -/
noncomputable def recR (b : List Int) : (Int × Int × Int × (Int × Int) × Bool × LF) × Bool :=
  match rowsF b [(1, 2), (2, 4), (3, 1), (4, 1)] with
  | (x1 :: x2 :: x3 :: x4 :: m, true) => ((numB x1.2, numB x2.2, numB x3.2 % 128, (numB x4.2 / 16, numB x4.2 % 16), decide (numB x3.2 ≥ 128), m), recOk (numB x1.2) (numB x2.2) (numB x3.2 % 128) (numB x4.2 / 16) (numB x4.2 % 16) (decide (numB x3.2 ≥ 128)) m)
  | _ => ((0, 0, 0, (0, 0), false, []), false)
theorem law13_record.loop (fuel : Nat) (b : List Int) (l : LF) (hf : fldsOk l = true) (hl : l.length < 1000000000) (a1 a2 a3 a4 a5 : Int) (a6 : Bool) : ∀ (k i : Nat) (acc : LF), i ≤ l.length → l.length - i < k → acc.length ≤ i → (∀ x ∈ acc, inS x.2 = true) →
    law13_record.l8 fuel b k l (i : Int) a1 a2 a3 a4 a5 a6 acc = some (a1, a2, a3, a4, a5, a6, acc ++ l.drop i, recOk a1 a2 a3 a4 a5 a6 (acc ++ l.drop i)) := by
  obtain ⟨hf1, hf2⟩ := (fldsOk_iff l).1 hf
  intro k
  induction k with
  | zero => intro i acc h1 h2; omega
  | succ k ih =>
    intro i acc h1 h2 h3 h4
    rw [law13_record.l8]
    unfold law13_record.b8
    by_cases hi : i < l.length
    · rw [if_pos (by simp; omega), idx_at, List.getElem?_eq_getElem hi]
      dsimp only
      rw [if_pos (by simp [lim]; omega), wrap_small _ (by omega) (by omega), show ((i : Int) + 1) = ((i + 1 : Nat) : Int) from by omega]
      have hx := hf2 l[i] (List.getElem_mem hi)
      rw [ih (i + 1) (acc ++ [(l[i].1, l[i].2)]) (by omega) (by omega) (by simp; omega) (by
        intro x hx'
        rcases List.mem_append.1 hx' with h | h
        · exact h4 x h
        · simp at h; subst h; exact hx), List.drop_eq_getElem_cons hi]
      simp only [List.append_assoc, List.singleton_append]
    · rw [if_neg (by simp; omega), List.drop_of_length_le (by omega), List.append_nil]
      have hs : smallBag acc = true := (smallBag_iff acc).2 ⟨by omega, fun x hx => by have := ((inS_iff _).1 (h4 x hx)).2; omega⟩
      rw [hs, if_pos rfl]
theorem matchW4 {l : LF} {t1 w1 t2 w2 t3 w3 t4 w4 : Int} (h : matchW [(t1, w1), (t2, w2), (t3, w3), (t4, w4)] l = true) :
    ∃ x1 x2 x3 x4 m, l = x1 :: x2 :: x3 :: x4 :: m ∧ (x1.1 = t1 ∧ (x1.2.length : Int) = w1) ∧ (x2.1 = t2 ∧ (x2.2.length : Int) = w2) ∧ (x3.1 = t3 ∧ (x3.2.length : Int) = w3) ∧ (x4.1 = t4 ∧ (x4.2.length : Int) = w4) := by
  match l, h with
  | [], h => simp [matchW] at h
  | [_], h => simp [matchW] at h
  | [_, _], h => simp [matchW] at h
  | [_, _, _], h => simp [matchW] at h
  | x1 :: x2 :: x3 :: x4 :: m, h =>
    simp [matchW] at h
    exact ⟨x1, x2, x3, x4, m, rfl, ⟨h.1, h.2.1⟩, ⟨h.2.2.1, h.2.2.2.1⟩, ⟨h.2.2.2.2.1, h.2.2.2.2.2.1⟩, ⟨h.2.2.2.2.2.2.1, h.2.2.2.2.2.2.2⟩⟩
theorem seven_of {l : LF} (hf : fldsOk l = true) {x : Int × List Int} (hx : x ∈ l) (h : (x.2.length : Int) ≤ 7) : seven x.2 = true :=
  (seven_iff _).2 ⟨((inS_iff _).1 (((fldsOk_iff l).1 hf).2 x hx)).1, by omega⟩
theorem byte_of {l : LF} (hf : fldsOk l = true) {x : Int × List Int} (hx : x ∈ l) (h : (x.2.length : Int) = 1) : 0 ≤ numB x.2 ∧ numB x.2 ≤ 255 := by
  have hb := inB_bytes ((inS_iff _).1 (((fldsOk_iff l).1 hf).2 x hx)).1
  match hx2 : x.2, h with
  | [c], _ =>
    have := hb c (by rw [hx2]; simp)
    simpa [numB] using this
theorem law13_record.pure (b : List Int) (hb : inS b = true) :
    law13_record.f BIG b = some ((recR b).1.1, (recR b).1.2.1, (recR b).1.2.2.1, (recR b).1.2.2.2.1.1, (recR b).1.2.2.2.1.2, (recR b).1.2.2.2.2.1, (recR b).1.2.2.2.2.2, (recR b).2) := by
  have hf := split_flds b hb
  have hl := split_len b hb
  have hbl := ((inS_iff b).1 hb).2
  unfold law13_record.f law13_record.b
  simp only [veil_eq]
  have hr : law13_rows.f BIG b [1, 2, 3, 4] [2, 4, 1, 1] = some (rowsF b [(1, 2), (2, 4), (3, 1), (4, 1)]) := law13_rows.pure b [1, 2, 3, 4] [2, 4, 1, 1] hb rfl (by simp)
  rw [hr]
  dsimp only
  unfold recR rowsF
  cases h0 : ((splitF b).2 != 0)
  · simp only [Bool.false_eq_true, if_false]
    cases hm : matchW [(1, 2), (2, 4), (3, 1), (4, 1)] (splitF b).1
    · rfl
    · rw [if_pos rfl]
      obtain ⟨x1, x2, x3, x4, m, e, ⟨c1, d1⟩, ⟨c2, d2⟩, ⟨c3, d3⟩, ⟨c4, d4⟩⟩ := matchW4 hm
      have s1 := seven_of hf (x := x1) (by rw [e]; simp) (by omega)
      have s2 := seven_of hf (x := x2) (by rw [e]; simp) (by omega)
      have s3 := seven_of hf (x := x3) (by rw [e]; simp) (by omega)
      have s4 := seven_of hf (x := x4) (by rw [e]; simp) (by omega)
      obtain ⟨p3, q3⟩ := byte_of hf (x := x3) (by rw [e]; simp) d3
      obtain ⟨p4, q4⟩ := byte_of hf (x := x4) (by rw [e]; simp) d4
      have hlp := fun a1 a2 a3 a4 a5 a6 => law13_record.loop BIG b (splitF b).1 hf (by omega) a1 a2 a3 a4 a5 a6 BIG 4 [] (by rw [e]; simp) (by rw [BIG_eq]; omega) (by simp) (by simp)
      rw [e] at hlp ⊢
      simp only [Bool.not_true, Bool.false_eq_true, if_false]
      rw [show idx (x1 :: x2 :: x3 :: x4 :: m) (2 : Int) = some x3 from rfl, show idx (x1 :: x2 :: x3 :: x4 :: m) (3 : Int) = some x4 from rfl, show idx (x1 :: x2 :: x3 :: x4 :: m) (0 : Int) = some x1 from rfl, show idx (x1 :: x2 :: x3 :: x4 :: m) (1 : Int) = some x2 from rfl]
      dsimp only
      rw [law13_num.pure _ s1, law13_num.pure _ s2, law13_num.pure _ s3, law13_num.pure _ s4]
      dsimp only
      rw [show ((4 : Nat) : Int) = 4 from rfl] at hlp
      rw [hlp, Int.tdiv_eq_ediv_of_nonneg p4, wrap_small (numB x4.2 / 16) (by omega) (by omega), Int.tmod_eq_emod_of_nonneg p4, Int.tmod_eq_emod_of_nonneg p3]
      simp
  · rfl
end Go.Proofs.Ytlmljpmohljefaa
