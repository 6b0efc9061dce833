/- Generation 2's reader and the law's read the same. -/
import Derived.Test.YtlmljpmohljefaaA4
import Derived.Test.YtlmljpmohljefaaK21
set_option linter.unusedVariables false
set_option linter.unusedSimpArgs false
namespace Go.Proofs.Ytlmljpmohljefaa
open Go.Den
theorem takeN_hit {x : Int × List Int} {m : LF} {t n : Int} (h1 : x.1 = t) (h2 : (x.2.length : Int) = n) : takeN (x :: m) false t n = (numB x.2, m, false) := by
  unfold takeN valF
  simp [h1, h2]
theorem takeN_inv {l : LF} {bad : Bool} {t n : Int} (h : (takeN l bad t n).2.2 = false) : bad = false ∧ ∃ x m, l = x :: m ∧ x.1 = t ∧ (x.2.length : Int) = n ∧ takeN l bad t n = (numB x.2, m, false) := by
  cases l with
  | nil => simp [takeN] at h
  | cons x m =>
    unfold takeN at h
    dsimp only at h
    split at h
    · cases h
    · rename_i c
      simp at c
      unfold valF at h
      split at h
      · rename_i c2
        simp at c2
        exact ⟨c.1, x, m, rfl, c.2, by omega, by rw [c.1]; exact takeN_hit c.2 (by omega)⟩
      · cases h
noncomputable def recsR : LF → Option LR
  | [] => some []
  | x :: m => if x.1 != 7 || !(recR x.2).2 then none else (recsR m).map fun r => (recR x.2).1 :: r
noncomputable def finR (kind from0 inc lo hi seq target : Int) (recs : Option LR) : Int × Int × Int × Int × Int × Int × Int × Int × Int × Int × LR × Bool :=
  match recs with
  | none => (0, 0, 0, 0, 0, 0, 0, 0, 0, 0, [], false)
  | some r => if validF kind from0 inc lo hi seq target 0 0 0 r && kind != 9 then (kind, from0, inc, lo, hi, seq, target, 0, 0, 0, r, true) else (0, 0, 0, 0, 0, 0, 0, 0, 0, 0, [], false)
theorem recR_small (b : List Int) (hb : inS b = true) : smallBag (recR b).1.2.2.2.2.2 = true := by
  have hf := split_flds b hb
  unfold recR rowsF
  cases h0 : ((splitF b).2 != 0)
  · simp only [Bool.false_eq_true, if_false]
    cases hm : matchW [(1, 2), (2, 4), (3, 1), (4, 1)] (splitF b).1
    · rfl
    · rw [if_pos rfl]
      obtain ⟨x1, x2, x3, x4, m, e, _⟩ := matchW4 hm
      rw [e] at hf ⊢
      obtain ⟨f1, f2⟩ := (fldsOk_iff _).1 hf
      exact flds_small ((fldsOk_iff _).2 ⟨by simp at f1 ⊢; omega, fun y hy => f2 y (by simp [hy])⟩)
  · rfl
theorem law13_Message.loop (fuel : Nat) (b : List Int) (l : LF) (tags : List Int) (hf : fldsOk l = true) (hl : l.length < 1000000000) (kind from0 inc lo hi seq target : Int) : ∀ (k i : Nat) (acc : LR), tags.length ≤ i → i ≤ l.length → l.length - i < k → acc.length ≤ i → (∀ r ∈ acc, smallBag r.2.2.2.2.2 = true) →
    law13_Message.l18 fuel b k l (i : Int) tags kind from0 inc lo hi seq target acc = some (finR kind from0 inc lo hi seq target ((recsR (l.drop i)).map fun r => acc ++ r)) := by
  obtain ⟨hf1, hf2⟩ := (fldsOk_iff l).1 hf
  intro k
  induction k with
  | zero => intro i acc h0 h1 h2; omega
  | succ k ih =>
    intro i acc h0 h1 h2 h3 h4
    rw [law13_Message.l18]
    unfold law13_Message.b18
    simp only [veil_eq]
    have ht : ¬ (decide ((i : Int) < ((tags.length : Nat) : Int)) = true) := by simp; omega
    by_cases hi' : i < l.length
    · rw [if_pos (by simp; omega), if_neg ht, if_neg ht, idx_at, List.getElem?_eq_getElem hi']
      dsimp only
      have hx := hf2 l[i] (List.getElem_mem hi')
      rw [List.drop_eq_getElem_cons hi', recsR]
      generalize l[i] = x at hx ⊢
      rw [law13_record.pure x.2 hx]
      dsimp only
      by_cases c1 : x.1 = 7
      · rw [if_neg (by simpa using c1)]
        cases c2 : (recR x.2).2
        · rw [if_pos (by simp), if_pos (by simp)]
          rfl
        · rw [if_neg (by simp), if_pos (by simp [lim]; omega), if_neg (by simp [c1]), wrap_small ((i : Int) + 1) (by omega) (by omega)]
          have := ih (i + 1) (acc ++ [(recR x.2).1]) (by omega) (by omega) (by omega) (by simp; omega) (by
            intro r hr
            rcases List.mem_append.1 hr with hr | hr
            · exact h4 r hr
            · simp at hr; subst hr; exact recR_small x.2 hx)
          rw [show ((i + 1 : Nat) : Int) = (i : Int) + 1 from by omega] at this
          rw [this]
          cases recsR (l.drop (i + 1)) <;> simp
      · rw [if_pos (by simpa using c1), if_pos (by simp [c1])]
        rfl
    · rw [if_neg (by simp; omega), List.drop_of_length_le (by omega)]
      have hs : smallRecs acc = true := (smallRecs_iff acc).2 ⟨by omega, h4⟩
      rw [hs, if_pos rfl]
      simp only [recsR, Option.map_some, List.append_nil, finR]
      cases validF kind from0 inc lo hi seq target 0 0 0 acc
      · rfl
      · by_cases c9 : kind = 9
        · simp [c9]
        · simp [c9]
noncomputable def hit (t n : Int) : LF → Option (Int × LF)
  | [] => none
  | x :: m => if x.1 == t && ((x.2.length : Int) == n) then some (numB x.2, m) else none
noncomputable def optT (c : Bool) (t : Int) (m : LF) : Option (Int × LF) := if c then hit t 2 m else some (0, m)
theorem hit_some {t n : Int} {l : LF} {v : Int} {m : LF} (h : hit t n l = some (v, m)) : ∃ x, l = x :: m ∧ v = numB x.2 ∧ x.1 = t ∧ (x.2.length : Int) = n := by
  cases l with
  | nil => simp [hit] at h
  | cons x l =>
    have h' : (if (x.1 == t && ((x.2.length : Int) == n)) = true then some (numB x.2, l) else none) = some (v, m) := h
    by_cases c : (x.1 == t && ((x.2.length : Int) == n)) = true
    · rw [if_pos c] at h'
      simp at c
      cases h'
      exact ⟨x, rfl, rfl, c.1, c.2⟩
    · rw [if_neg c] at h'
      cases h'
theorem takeN_of_hit {t n : Int} {l : LF} {v : Int} {m : LF} (h : hit t n l = some (v, m)) : takeN l false t n = (v, m, false) := by
  obtain ⟨x, rfl, rfl, h1, h2⟩ := hit_some h
  exact takeN_hit h1 h2
theorem takeN_bad (l : LF) (t n : Int) : (takeN l true t n).2.2 = true := by
  unfold takeN
  cases l <;> simp
theorem takeN_miss {t n : Int} {l : LF} (h : hit t n l = none) : (takeN l false t n).2.2 = true := by
  cases hb : (takeN l false t n).2.2 with
  | true => rfl
  | false =>
    obtain ⟨_, x, m, rfl, h1, h2, _⟩ := takeN_inv hb
    simp [hit, h1, h2] at h
theorem takeIf_bad (k p : Int) (l : LF) (t : Int) : (takeIf k p l true t).2.2 = true := by
  unfold takeIf
  split
  · exact takeN_bad l t 2
  · rfl
theorem takeIf_of_opt {k p t : Int} {l : LF} {v : Int} {m : LF} (h : optT (hasF k p) t l = some (v, m)) : takeIf k p l false t = (v, m, false) := by
  unfold takeIf
  unfold optT at h
  split
  · rename_i c; rw [if_pos c] at h; exact takeN_of_hit h
  · rename_i c; rw [if_neg c] at h; cases h; rfl
theorem takeIf_miss {k p t : Int} {l : LF} (h : optT (hasF k p) t l = none) : (takeIf k p l false t).2.2 = true := by
  unfold takeIf
  unfold optT at h
  split
  · rename_i c; rw [if_pos c] at h; exact takeN_miss h
  · rename_i c; rw [if_neg c] at h; cases h
noncomputable def msgP (b : List Int) : Option (Int × Int × Int × Int × Int × Int × LF) :=
  if (splitF b).2 != 0 || decide ((b.length : Int) > 65499) then none else
  match hit 1 1 (splitF b).1 with
  | none => none
  | some (K, m1) => match hit 2 2 m1 with
    | none => none
    | some (f, m2) => match hit 3 6 m2 with
      | none => none
      | some (i, m3) => match hit 4 1 m3 with
        | none => none
        | some (c, m4) => match optT (hasF K 0) 5 m4 with
          | none => none
          | some (s, m5) => match optT (hasF K 1) 6 m5 with
            | none => none
            | some (t, m6) => some (K, f, i, c, s, t, m6)
theorem end2_bad (k f i lo hi s t : Int) (r : Option LR) : end2 true k f i lo hi s t r = (0, 0, 0, 0, 0, 0, 0, [], 4) := by
  cases r <;> rfl
theorem dec2_eq (b : List Int) : decF2 b = match msgP b with
    | none => (0, 0, 0, 0, 0, 0, 0, [], 4)
    | some (K, f, i, c, s, t, m) => end2 false K f i (ofGo allF c).1 (ofGo allF c).2.1 s t (recsD m) := by
  unfold decF2 msgP
  dsimp only
  unfold spanN
  dsimp only
  cases hb : ((splitF b).2 != 0 || decide ((b.length : Int) > 65499))
  · simp only [Bool.false_eq_true, if_false]
    cases h1 : hit 1 1 (splitF b).1 with
    | none =>
      dsimp only
      rw [takeN_miss h1]
      simp only [takeN_bad, takeIf_bad, end2_bad]
    | some p1 =>
      obtain ⟨K, m1⟩ := p1
      dsimp only
      rw [takeN_of_hit h1]
      dsimp only
      cases h2 : hit 2 2 m1 with
      | none =>
        dsimp only
        rw [takeN_miss h2]
        simp only [takeN_bad, takeIf_bad, end2_bad]
      | some p2 =>
        obtain ⟨f, m2⟩ := p2
        dsimp only
        rw [takeN_of_hit h2]
        dsimp only
        cases h3 : hit 3 6 m2 with
        | none =>
          dsimp only
          rw [takeN_miss h3]
          simp only [takeN_bad, takeIf_bad, end2_bad]
        | some p3 =>
          obtain ⟨i, m3⟩ := p3
          dsimp only
          rw [takeN_of_hit h3]
          dsimp only
          cases h4 : hit 4 1 m3 with
          | none =>
            dsimp only
            rw [takeN_miss h4]
            simp only [takeIf_bad, end2_bad]
          | some p4 =>
            obtain ⟨c, m4⟩ := p4
            dsimp only
            rw [takeN_of_hit h4]
            dsimp only
            cases h5 : optT (hasF K 0) 5 m4 with
            | none =>
              dsimp only
              rw [takeIf_miss h5]
              simp only [takeIf_bad, end2_bad]
            | some p5 =>
              obtain ⟨s, m5⟩ := p5
              dsimp only
              rw [takeIf_of_opt h5]
              dsimp only
              cases h6 : optT (hasF K 1) 6 m5 with
              | none =>
                dsimp only
                rw [takeIf_miss h6]
                simp only [end2_bad]
              | some p6 =>
                obtain ⟨t, m6⟩ := p6
                dsimp only
                rw [takeIf_of_opt h6]
  · simp only [takeN_bad, takeIf_bad, end2_bad]
    rfl
/-- the code of a span -/
theorem ofGo_div (c : Int) (h0 : 0 ≤ c) (h1 : c ≤ 255) : (okS (c / 16) (c % 16) = true → ofGo allF c = (c / 16, c % 16, true)) ∧ (okS (c / 16) (c % 16) = false → okS (ofGo allF c).1 (ofGo allF c).2.1 = false) := by
  constructor
  · intro h
    simp [okS] at h
    have : c = 17 ∨ c = 18 ∨ c = 19 ∨ c = 34 ∨ c = 35 ∨ c = 51 := by omega
    rcases this with rfl | rfl | rfl | rfl | rfl | rfl <;> decide +kernel
  · intro h
    cases hk : okS (ofGo allF c).1 (ofGo allF c).2.1 with
    | false => rfl
    | true =>
      have he := ofGo_ok hk
      have hk2 := hk
      simp [okS] at hk2
      rw [show c / 16 = (ofGo allF c).1 from by omega, show c % 16 = (ofGo allF c).2.1 from by omega, hk] at h
      cases h
theorem recD_eq (b : List Int) : recD b = match (if (splitF b).2 != 0 then none else match hit 1 2 (splitF b).1 with
    | none => none
    | some (a1, m1) => match hit 2 4 m1 with
      | none => none
      | some (a2, m2) => match hit 3 1 m2 with
        | none => none
        | some (a3, m3) => match hit 4 1 m3 with
          | none => none
          | some (a4, m4) => some (a1, a2, a3, a4, m4)) with
    | none => ((recD b).1, false)
    | some (a1, a2, a3, a4, m) => ((a1, a2, a3 % 128, ((ofGo allF a4).1, (ofGo allF a4).2.1), decide (a3 ≥ 128), m), true) := by
  have key : ∀ r, (recD b).2 = false → r = ((recD b).1, false) → recD b = r := fun r h1 h2 => by rw [h2, ← h1]
  cases hb : ((splitF b).2 != 0)
  · simp only [Bool.false_eq_true, if_false]
    cases h1 : hit 1 2 (splitF b).1 with
    | none =>
      refine key _ ?_ rfl
      unfold recD spanN
      dsimp only
      rw [hb, takeN_miss h1]
      simp only [takeN_bad, Bool.not_true]
    | some p1 =>
      obtain ⟨a1, m1⟩ := p1
      dsimp only
      cases h2 : hit 2 4 m1 with
      | none =>
        refine key _ ?_ rfl
        unfold recD spanN
        dsimp only
        rw [hb, takeN_of_hit h1]
        dsimp only
        rw [takeN_miss h2]
        simp only [takeN_bad, Bool.not_true]
      | some p2 =>
        obtain ⟨a2, m2⟩ := p2
        dsimp only
        cases h3 : hit 3 1 m2 with
        | none =>
          refine key _ ?_ rfl
          unfold recD spanN
          dsimp only
          rw [hb, takeN_of_hit h1]
          dsimp only
          rw [takeN_of_hit h2]
          dsimp only
          rw [takeN_miss h3]
          simp only [takeN_bad, Bool.not_true]
        | some p3 =>
          obtain ⟨a3, m3⟩ := p3
          dsimp only
          cases h4 : hit 4 1 m3 with
          | none =>
            refine key _ ?_ rfl
            unfold recD spanN
            dsimp only
            rw [hb, takeN_of_hit h1]
            dsimp only
            rw [takeN_of_hit h2]
            dsimp only
            rw [takeN_of_hit h3]
            dsimp only
            rw [takeN_miss h4, Bool.not_true]
          | some p4 =>
            obtain ⟨a4, m4⟩ := p4
            dsimp only
            unfold recD spanN
            dsimp only
            rw [hb, takeN_of_hit h1]
            dsimp only
            rw [takeN_of_hit h2]
            dsimp only
            rw [takeN_of_hit h3]
            dsimp only
            rw [takeN_of_hit h4]
            rfl
  · refine key _ ?_ rfl
    unfold recD spanN
    dsimp only
    rw [hb]
    simp only [takeN_bad, Bool.not_true]
end Go.Proofs.Ytlmljpmohljefaa
