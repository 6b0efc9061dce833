import Derived.Test.YtlmljpmohljefaaC9
import Derived.Test.YtlmljpmohljefaaK9
set_option linter.unusedVariables false
set_option linter.unusedSimpArgs false
namespace Go.Proofs.Ytlmljpmohljefaa
open Go.Den
theorem seven_iff (p : List Int) : seven p = true ↔ inB p = true ∧ p.length ≤ 7 := by unfold seven; simp
theorem Num60.loop (fuel : Nat) (p : List Int) (hp : p.length ≤ 7) (hb : ∀ c ∈ p, 0 ≤ c ∧ c ≤ 255) : ∀ (k i : Nat) (v : Int), i ≤ p.length → p.length - i < k → 0 ≤ v → v < 256 ^ i →
    Num60.l3 fuel p k v (i : Int) = some ((p.drop i).foldl (fun v c => v * 256 + c) v) := by
  intro k
  induction k with
  | zero => intro i v h1 h2; omega
  | succ k ih =>
    intro i v h1 h2 h3 h4
    rw [Num60.l3]
    unfold Num60.b3
    by_cases hi : i < p.length
    · rw [if_pos (by simp; omega), idx_at, List.getElem?_eq_getElem hi]
      dsimp only
      obtain ⟨b1, b2⟩ := hb p[i] (List.getElem_mem hi)
      have hv : v < 281474976710656 := by
        have : i = 0 ∨ i = 1 ∨ i = 2 ∨ i = 3 ∨ i = 4 ∨ i = 5 ∨ i = 6 := by omega
        rcases this with rfl | rfl | rfl | rfl | rfl | rfl | rfl <;> simp at h4 <;> omega
      rw [wrap_small (v * 256) (by omega) (by omega), wrap_small p[i] (by omega) (by omega), wrap_small (v * 256 + _) (by omega) (by omega), wrap_small _ (by omega) (by omega), List.drop_eq_getElem_cons hi]
      rw [show ((i : Int) + 1) = ((i + 1 : Nat) : Int) from by omega]
      exact ih (i + 1) _ (by omega) (by omega) (by omega) (by rw [Int.pow_succ]; generalize (256 : Int) ^ i = M at h4 ⊢; omega)
    · rw [if_neg (by simp; omega), List.drop_of_length_le (by omega)]
      rfl
theorem Num60.pure (p : List Int) (hl : seven p = true) : Num60.f 9 p = some (numB p) := by
  obtain ⟨h1, h2⟩ := (seven_iff p).1 hl
  unfold Num60.f Num60.b
  exact Num60.loop 9 p h2 ((inB_iff p).1 h1).2 9 0 0 (by omega) (by omega) (by omega) (by simp)
/-- the record at a place, as the law reads it -/
noncomputable def recAt (l : List Int) (i : Int) : Int × Int × Int × (Int × Int) × Bool × List (Int × List Int) :=
  let v := l.getD (i + 4).toNat 0
  (numB (seg l i 2), numB (seg l (i + 2) 2), v % 4, (v / 4 % 4, v / 16 % 4), decide (v ≥ 64), [])
/-- the records from a place on; false: one of them is none -/
noncomputable def recsAt (l : List Int) : Nat → Int → List (Int × Int × Int × (Int × Int) × Bool × List (Int × List Int)) × Bool
  | 0, _ => ([], true)
  | k + 1, i => if l.getD (i + 4).toNat 0 > 127 then ([], false) else (recAt l i :: (recsAt l k (i + 5)).1, (recsAt l k (i + 5)).2)
noncomputable def msgEnd (kind from0 inc lo hi seq target : Int) (recs : List (Int × Int × Int × (Int × Int) × Bool × List (Int × List Int))) : Int × Int × Int × Int × Int × Int × Int × List (Int × Int × Int × (Int × Int) × Bool × List (Int × List Int)) × Bool :=
  if validF kind from0 inc lo hi seq target 0 0 0 recs && !(kind == 9) then (kind, from0, inc, lo, hi, seq, target, recs, true) else (0, 0, 0, 0, 0, 0, 0, [], false)
noncomputable def msgL (l : List Int) : Int × Int × Int × Int × Int × Int × Int × List (Int × Int × Int × (Int × Int) × Bool × List (Int × List Int)) × Bool :=
  if l.length < 15 ∨ (l.length : Int) ≠ 15 + 5 * l.getD 14 0 then (0, 0, 0, 0, 0, 0, 0, [], false) else
  let r := recsAt l (l.getD 14 0).toNat 15
  if r.2 then msgEnd (l.getD 0 0) (numB (seg l 1 2)) (numB (seg l 3 6)) (l.getD 9 0 / 16) (l.getD 9 0 % 16) (numB (seg l 10 2)) (numB (seg l 12 2)) r.1 else (0, 0, 0, 0, 0, 0, 0, [], false)
theorem seg_seven (l : List Int) (hl : inB l = true) (a n : Int) (h0 : 0 ≤ a) (h1 : 0 ≤ n) (h7 : n ≤ 7) (h2 : a + n ≤ (l.length : Int)) : seven (seg l a n) = true := by
  obtain ⟨k1, k2⟩ := (inB_iff l).1 hl
  refine (seven_iff _).2 ⟨(inB_iff _).2 ⟨?_, fun c hc => k2 c (seg_mem hc)⟩, ?_⟩ <;> (rw [seg_length l a n h0 h1 (by omega)]; omega)
theorem getD_byte (l : List Int) (hl : inB l = true) (i : Nat) (hi : i < l.length) : 0 ≤ l.getD i 0 ∧ l.getD i 0 ≤ 255 := by
  have := ((inB_iff l).1 hl).2 (l.getD i 0) (by simp [List.getD, List.getElem?_eq_getElem hi])
  exact this
theorem recsAt_bare (l : List Int) : ∀ (k : Nat) (i : Int), (recsAt l k i).1.length ≤ k ∧ ∀ r ∈ (recsAt l k i).1, r.2.2.2.2.2 = []
  | 0, i => by simp [recsAt]
  | k + 1, i => by
    have ih := recsAt_bare l k (i + 5)
    unfold recsAt
    split
    · simp
    · refine ⟨by simp; omega, fun r hr => ?_⟩
      rcases List.mem_cons.1 hr with rfl | hr
      · rfl
      · exact ih.2 r hr
theorem Message1.loop (fuel : Nat) (l : List Int) (hl : inB l = true) (kind from0 inc lo hi seq target : Int) : ∀ (k j : Nat) (i : Int) (acc : List (Int × Int × Int × (Int × Int) × Bool × List (Int × List Int))), j < k → 0 ≤ i → i + 5 * (j : Int) = (l.length : Int) → acc.length + j ≤ 300 → (∀ r ∈ acc, r.2.2.2.2.2 = []) →
    Message1.l5 fuel l k i kind from0 inc lo hi seq target acc = some (let e := if (recsAt l j i).2 then msgEnd kind from0 inc lo hi seq target (acc ++ (recsAt l j i).1) else (0, 0, 0, 0, 0, 0, 0, [], false); (e.1, e.2.1, e.2.2.1, e.2.2.2.1, e.2.2.2.2.1, e.2.2.2.2.2.1, e.2.2.2.2.2.2.1, 0, 0, 0, e.2.2.2.2.2.2.2.1, e.2.2.2.2.2.2.2.2)) := by
  have hlen := ((inB_iff l).1 hl).1
  intro k
  induction k with
  | zero => intro j i acc h1; omega
  | succ k ih =>
    intro j i acc h1 h2 h3 h4 h5
    rw [Message1.l5]
    unfold Message1.b5
    cases j with
    | zero =>
      rw [if_neg (by simp; omega)]
      have hs : smallRecs acc = true := (smallRecs_iff acc).2 ⟨by omega, fun r hr => by rw [h5 r hr]; rfl⟩
      rw [hs, if_pos rfl]
      unfold recsAt msgEnd
      rw [if_pos rfl, List.append_nil]
      cases validF kind from0 inc lo hi seq target 0 0 0 acc
      · rfl
      · by_cases h9 : kind = 9
        · simp [h9]
        · have h9' : (kind == 9) = false := by simpa using h9
          simp [h9']
    | succ j =>
      have hw4 : Go.IntKind.wrap .i64 (i + 4) = i + 4 := wrap_small _ (by omega) (by omega)
      have hw2 : Go.IntKind.wrap .i64 (i + 2) = i + 2 := wrap_small _ (by omega) (by omega)
      have hw5 : Go.IntKind.wrap .i64 (i + 5) = i + 5 := wrap_small _ (by omega) (by omega)
      have hg : idx l (i + 4) = some (l.getD (i + 4).toNat 0) := by
        have := getD_at l 0 (i + 4).toNat (by omega)
        rwa [Int.toNat_of_nonneg (by omega)] at this
      obtain ⟨b1, b2⟩ := getD_byte l hl (i + 4).toNat (by omega)
      rw [if_pos (by simp; omega), hw4, hg]
      dsimp only
      have hwv : Go.IntKind.wrap .i64 (l.getD (i + 4).toNat 0) = l.getD (i + 4).toNat 0 := wrap_small _ (by omega) (by omega)
      rw [hwv]
      by_cases hv : l.getD (i + 4).toNat 0 > 127
      · rw [if_pos (by simpa using hv)]
        unfold recsAt
        rw [if_pos hv]
        rfl
      · rw [if_neg (by simpa using hv), hw2, if_pos ⟨h2, by omega, by omega⟩]
        have s1 := seg_seven l hl i 2 h2 (by omega) (by omega) (by omega)
        have s2 := seg_seven l hl (i + 2) 2 (by omega) (by omega) (by omega) (by omega)
        have e2 : i + 2 + 2 = i + 4 := by omega
        unfold seg at s1 s2
        rw [e2] at s2
        rw [if_pos s1, if_pos ⟨by omega, by omega, by omega⟩, if_pos s2, if_pos (by simp [lim]; omega), hw5]
        generalize hV : l.getD (i + 4).toNat 0 = v at *
        have t1 : Int.tmod v 4 = v % 4 := Int.tmod_eq_emod_of_nonneg b1
        have t2 : Int.tdiv v 4 = v / 4 := Int.tdiv_eq_ediv_of_nonneg b1
        have t3 : Int.tdiv v 16 = v / 16 := Int.tdiv_eq_ediv_of_nonneg b1
        have t4 : Int.tmod (v / 4) 4 = v / 4 % 4 := Int.tmod_eq_emod_of_nonneg (by omega)
        have t5 : Int.tmod (v / 16) 4 = v / 16 % 4 := Int.tmod_eq_emod_of_nonneg (by omega)
        rw [t1, t2, t3, wrap_small (v / 4) (by omega) (by omega), wrap_small (v / 16) (by omega) (by omega), t4, t5]
        have hrec : recAt l i = (numB (List.drop i.toNat (List.take (i + 2).toNat l)), numB (List.drop (i + 2).toNat (List.take (i + 4).toNat l)), v % 4, (v / 4 % 4, v / 16 % 4), decide (v ≥ 64), []) := by
          unfold recAt seg
          rw [hV, e2]
        rw [← hrec, ih j (i + 5) (acc ++ [recAt l i]) (by omega) (by omega) (by omega) (by simp; omega) (fun r hr => by
          rcases List.mem_append.1 hr with hr | hr
          · exact h5 r hr
          · simp at hr; subst hr; rfl)]
        conv => rhs; rw [recsAt]
        rw [hV, if_neg hv, List.append_assoc, List.singleton_append]
theorem getD_idx (l : List Int) (i : Nat) (hi : i < l.length) : idx l (i : Int) = some (l.getD i 0) := getD_at l 0 i hi
theorem Message1.pure (l : List Int) (hl : inB l = true) : Message1.f 300 l = some (let e := msgL l; (e.1, e.2.1, e.2.2.1, e.2.2.2.1, e.2.2.2.2.1, e.2.2.2.2.2.1, e.2.2.2.2.2.2.1, 0, 0, 0, e.2.2.2.2.2.2.2.1, e.2.2.2.2.2.2.2.2)) := by
  unfold Message1.f Message1.b msgL
  have hlen := ((inB_iff l).1 hl).1
  by_cases h15 : l.length < 15
  · rw [if_pos (by simp; omega), if_pos (.inl h15)]
  · have g14 := getD_idx l 14 (by omega)
    have g0 := getD_idx l 0 (by omega)
    have g9 := getD_idx l 9 (by omega)
    obtain ⟨b1, b2⟩ := getD_byte l hl 14 (by omega)
    obtain ⟨c1, c2⟩ := getD_byte l hl 0 (by omega)
    obtain ⟨d1, d2⟩ := getD_byte l hl 9 (by omega)
    rw [if_neg (by simp; omega)]
    have g14' : idx l (14 : Int) = some (l.getD 14 0) := g14
    have g0' : idx l (0 : Int) = some (l.getD 0 0) := g0
    have g9' : idx l (9 : Int) = some (l.getD 9 0) := g9
    rw [g14', g0', g9']
    dsimp only
    rw [wrap_small (l.getD 14 0) (by omega) (by omega), wrap_small (5 * _) (by omega) (by omega), wrap_small (15 + _) (by omega) (by omega)]
    by_cases hn : (l.length : Int) = 15 + 5 * l.getD 14 0
    · have hno : ¬ (l.length < 15 ∨ (l.length : Int) ≠ 15 + 5 * l.getD 14 0) := by
        intro h
        rcases h with h | h
        · exact h15 h
        · exact h hn
      rw [if_neg (by simpa using hn), if_neg hno]
      have s1 := seg_seven l hl 1 2 (by omega) (by omega) (by omega) (by omega)
      have s2 := seg_seven l hl 3 6 (by omega) (by omega) (by omega) (by omega)
      have s3 := seg_seven l hl 10 2 (by omega) (by omega) (by omega) (by omega)
      have s4 := seg_seven l hl 12 2 (by omega) (by omega) (by omega) (by omega)
      have e1 : List.drop (Int.toNat (1 : Int)) (List.take (Int.toNat (3 : Int)) l) = seg l 1 2 := rfl
      have e2 : List.drop (Int.toNat (3 : Int)) (List.take (Int.toNat (9 : Int)) l) = seg l 3 6 := rfl
      have e3 : List.drop (Int.toNat (10 : Int)) (List.take (Int.toNat (12 : Int)) l) = seg l 10 2 := rfl
      have e4 : List.drop (Int.toNat (12 : Int)) (List.take (Int.toNat (14 : Int)) l) = seg l 12 2 := rfl
      rw [e1, e2, e3, e4, if_pos ⟨by omega, by omega, by omega⟩, if_pos s1, if_pos ⟨by omega, by omega, by omega⟩, if_pos s2, if_pos ⟨by omega, by omega, by omega⟩, if_pos s3, if_pos ⟨by omega, by omega, by omega⟩, if_pos s4]
      have t1 : Int.tdiv (l.getD 9 0) 16 = l.getD 9 0 / 16 := Int.tdiv_eq_ediv_of_nonneg d1
      have t2 : Int.tmod (l.getD 9 0) 16 = l.getD 9 0 % 16 := Int.tmod_eq_emod_of_nonneg d1
      rw [wrap_small (l.getD 0 0) (by omega) (by omega), wrap_small (l.getD 9 0) (by omega) (by omega), t1, t2, wrap_small (_ / 16) (by omega) (by omega)]
      have := Message1.loop 300 l hl (l.getD 0 0) (numB (seg l 1 2)) (numB (seg l 3 6)) (l.getD 9 0 / 16) (l.getD 9 0 % 16) (numB (seg l 10 2)) (numB (seg l 12 2)) 300 (l.getD 14 0).toNat 15 [] (by omega) (by omega) (by omega) (by show 0 + _ ≤ 300; omega) (by simp)
      rw [List.nil_append] at this
      exact this
    · rw [if_pos (by simpa using hn), if_pos (.inr hn)]
end Go.Proofs.Ytlmljpmohljefaa
