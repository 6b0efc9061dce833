import Derived.Test.YtlmljpmohljefaaC4
set_option linter.unusedVariables false
set_option linter.unusedSimpArgs false
namespace Go.Proofs.Ytlmljpmohljefaa
open Go.Den
theorem of_name {k : Int} (h : ((ofF k).1.toList == (⟨#[]⟩ : ByteArray).toList) = false) : 1 ≤ k ∧ k ≤ 9 := by
  unfold ofF at h
  split at h
  · simp at h
  · rename_i hc
    simp only [Bool.or_eq_true, decide_eq_true_eq, not_or] at hc
    omega
theorem whGo_ge : ∀ (l : List (Int × Int × Int × (Int × Int) × Bool × List (Int × List Int))) (i last : Int), i ≤ (whGo l i last).1 ∧ (whGo l i last).1 ≤ i + (l.length : Int)
  | [], i, last => by simp [whGo]
  | r :: l, i, last => by
    unfold whGo
    split
    · simp; omega
    · have := whGo_ge l (i + 1) r.1
      simp only [List.length_cons]
      omega
theorem whGo_all : ∀ (l : List (Int × Int × Int × (Int × Int) × Bool × List (Int × List Int))) (i last : Int), (whGo l i last).1 = i + (l.length : Int) → ∀ r ∈ l, recOkT r = true
  | [], _, _, _, r, hr => by simp at hr
  | x :: l, i, last, h, r, hr => by
    unfold whGo at h
    split at h
    · simp at h; omega
    · rename_i hc
      simp only [Bool.or_eq_true, not_or, Bool.not_eq_true', Bool.not_eq_false] at hc
      rcases List.mem_cons.1 hr with rfl | hr
      · exact hc.1
      · exact whGo_all l (i + 1) x.1 (by simp only [List.length_cons] at h; omega) r hr
theorem recOk_facts {r : Int × Int × Int × (Int × Int) × Bool × List (Int × List Int)} (h : recOkT r = true) : 0 ≤ r.1 ∧ r.1 ≤ 4095 ∧ 0 ≤ r.2.1 ∧ r.2.1 ≤ 281474976710655 ∧ 0 ≤ r.2.2.1 ∧ r.2.2.1 ≤ 3 ∧ okS r.2.2.2.1.1 r.2.2.2.1.2 = true ∧ bagOk r.2.2.2.2.2 = true ∧ (r.2.2.2.2.1 = true → r.2.2.2.2.2 = []) := by
  unfold recOkT recOk at h
  split at h
  · cases h
  split at h
  · cases h
  split at h
  · cases h
  split at h
  · cases h
  split at h
  · cases h
  rename_i h1 h2 h3 h4 h5
  simp only [Bool.or_eq_true, decide_eq_true_eq, not_or, Bool.not_eq_true', Bool.not_eq_false] at h1 h2 h3 h4
  simp only [Bool.and_eq_true, decide_eq_true_eq, not_and] at h5
  refine ⟨by omega, by omega, by omega, by omega, by omega, by omega, h4.1, h4.2, fun hc => ?_⟩
  have := h5 hc
  exact List.eq_nil_of_length_eq_zero (by omega)
theorem within_facts {had : Bool} {v hi : Int} (h : withinF had v 0 hi = true) (h0 : 0 ≤ hi) : 0 ≤ v ∧ v ≤ hi := by
  unfold withinF at h
  cases had
  · simp at h; omega
  · simp at h; exact h
/-- what a valid message's numbers are -/
theorem valid_facts {kind from0 inc lo hi seq target life epoch base : Int} {recs : List (Int × Int × Int × (Int × Int) × Bool × List (Int × List Int))} (h : validF kind from0 inc lo hi seq target life epoch base recs = true) :
    1 ≤ kind ∧ kind ≤ 9 ∧ 0 ≤ from0 ∧ from0 ≤ 4095 ∧ 0 ≤ inc ∧ inc ≤ 281474976710655 ∧ okS lo hi = true ∧ 0 ≤ seq ∧ seq ≤ 65535 ∧ 0 ≤ target ∧ target ≤ 4095 ∧ livesF kind life epoch base = true ∧ recs.length ≤ 255 ∧ ∀ r ∈ recs, recOkT r = true := by
  unfold validF at h
  have h1 : ((ofF kind).1.toList == (⟨#[]⟩ : ByteArray).toList || (decide (from0 < 0) || (decide (from0 > 4095) || (decide (inc < 0) || (decide (inc > 281474976710655) || !okS lo hi))))) = false := by
    cases hc : ((ofF kind).1.toList == (⟨#[]⟩ : ByteArray).toList || (decide (from0 < 0) || (decide (from0 > 4095) || (decide (inc < 0) || (decide (inc > 281474976710655) || !okS lo hi))))) with
    | false => rfl
    | true => rw [hc] at h; cases h
  rw [h1] at h
  have h2 : (!withinF (hasF kind 0) seq 0 65535 || (!withinF (hasF kind 1) target (if kind == 3 then 1 else 0) (if kind == 3 then 3 else 4095) || !livesF kind life epoch base)) = false := by
    cases hc : (!withinF (hasF kind 0) seq 0 65535 || (!withinF (hasF kind 1) target (if kind == 3 then 1 else 0) (if kind == 3 then 3 else 4095) || !livesF kind life epoch base)) with
    | false => rfl
    | true => rw [hc] at h; cases h
  rw [h2] at h
  simp only [Bool.false_eq_true, if_false] at h
  simp only [Bool.or_eq_false_iff, decide_eq_false_iff_not, Bool.not_eq_false'] at h1 h2
  obtain ⟨k1, k2, k3, k4, k5, k6⟩ := h1
  obtain ⟨m1, m2, m3⟩ := h2
  have hk := of_name k1
  have hs := within_facts m1 (by omega)
  have ht : 0 ≤ target ∧ target ≤ 4095 := by
    unfold withinF at m2
    cases hh : hasF kind 1
    · rw [hh] at m2
      simp at m2; omega
    · rw [hh] at m2
      by_cases h3 : kind = 3
      · simp [h3] at m2; omega
      · simp [h3] at m2; exact m2
  refine ⟨hk.1, hk.2, by omega, by omega, by omega, by omega, k6, hs.1, hs.2, ht.1, ht.2, m3, ?_⟩
  split at h
  · have : recs = [] := List.eq_nil_of_length_eq_zero (by simpa using h)
    subst this
    simp
  · simp only [Bool.and_eq_true, decide_eq_true_eq] at h
    refine ⟨by omega, ?_⟩
    have hs := h.2
    unfold sortedF at hs
    exact whGo_all recs 0 (-1) (by simpa using hs)
theorem lives_zero {kind life base : Int} (h : livesF kind life 0 base = true) : life = 0 ∧ base = 0 := by
  unfold livesF at h
  split at h
  · cases h
  split at h
  · cases h
  rename_i h1 h2
  simp only [beq_self_eq_true, Bool.true_and, Bool.or_eq_true, not_or, bne_iff_ne, ne_eq, Decidable.not_not] at h2
  refine ⟨h2.1, ?_⟩
  simp only [Bool.or_eq_true, Bool.and_eq_true, beq_iff_eq, decide_eq_true_eq] at h
  rcases h with h | h
  · exact h
  · omega
/-- both say which messages fit -/
theorem fits_same (kind from0 inc lo hi seq target life epoch base : Int) (recs : List (Int × Int × Int × (Int × Int) × Bool × List (Int × List Int))) : fits1 kind from0 inc lo hi seq target life epoch base recs = fitsL kind from0 inc lo hi seq target life epoch base recs := by
  unfold fits1 fitsL
  cases hv : validF kind from0 inc lo hi seq target life epoch base recs
  · rfl
  · by_cases he : epoch = 0
    · subst he
      obtain ⟨_, _, _, _, _, _, _, _, _, _, _, hl, _⟩ := valid_facts hv
      obtain ⟨rfl, rfl⟩ := lives_zero hl
      simp
    · by_cases h9 : kind = 9
      · simp [h9]
      · simp [he, h9]
theorem fitGo_all : ∀ (l : List (Int × Int × Int × (Int × Int) × Bool × List (Int × List Int))), fitGo l = true → ∀ r ∈ l, r.2.1 ≤ 65535 ∧ r.2.2.2.2.2 = []
  | [], _, r, hr => by simp at hr
  | x :: l, h, r, hr => by
    unfold fitGo at h
    split at h
    · cases h
    · rename_i hc
      simp only [Bool.or_eq_true, not_or, decide_eq_true_eq] at hc
      rcases List.mem_cons.1 hr with rfl | hr
      · exact ⟨by omega, List.eq_nil_of_length_eq_zero (by omega)⟩
      · exact fitGo_all l h r hr
theorem fits_facts {kind from0 inc lo hi seq target life epoch base : Int} {recs : List (Int × Int × Int × (Int × Int) × Bool × List (Int × List Int))} (h : fitsL kind from0 inc lo hi seq target life epoch base recs = true) :
    validF kind from0 inc lo hi seq target life epoch base recs = true ∧ ∀ r ∈ recs, r.2.1 ≤ 65535 ∧ r.2.2.2.2.2 = [] := by
  unfold fitsL at h
  split at h
  · cases h
  · rename_i hc
    simp only [Bool.or_eq_true, not_or, Bool.not_eq_true', Bool.not_eq_false] at hc
    exact ⟨hc.1, fitGo_all recs h⟩
theorem fits_byte {v : Int} (h0 : 0 ≤ v) (h1 : v < 256) : fitsF 1 v = true := (fitsF_iff 1 v).2 ⟨by omega, by omega, h0, by simpa using h1⟩
theorem fits_two {v : Int} (h0 : 0 ≤ v) (h1 : v < 65536) : fitsF 2 v = true := (fitsF_iff 2 v).2 ⟨by omega, by omega, h0, by simpa using h1⟩
theorem fits_six {v : Int} (h0 : 0 ≤ v) (h1 : v < 281474976710656) : fitsF 6 v = true := (fitsF_iff 6 v).2 ⟨by omega, by omega, h0, by simpa using h1⟩
theorem code_eq {lo hi : Int} (h : okS lo hi = true) : codeF lo hi = lo * 16 + hi := by
  have := (okS_iff lo hi).1 h
  have h1 : lo = 1 ∨ lo = 2 ∨ lo = 3 := by omega
  have h2 : hi = 1 ∨ hi = 2 ∨ hi = 3 := by omega
  rcases h1 with rfl | rfl | rfl <;> rcases h2 with rfl | rfl | rfl <;> first | omega | rfl | kernel_rfl
theorem state_eq {r : Int × Int × Int × (Int × Int) × Bool × List (Int × List Int)} (h : recOkT r = true) : stateF r.2.2.1 r.2.2.2.1.1 r.2.2.2.1.2 r.2.2.2.2.1 = stateL r ∧ 0 ≤ stateL r ∧ stateL r < 256 := by
  obtain ⟨id, inc, st, ⟨lo, hi⟩, cut, bag⟩ := r
  obtain ⟨_, _, _, _, h5, h6, h7, _, _⟩ := recOk_facts h
  have := (okS_iff lo hi).1 h7
  dsimp only at h5 h6 h7 ⊢
  have h0 : st = 0 ∨ st = 1 ∨ st = 2 ∨ st = 3 := by omega
  have h1 : lo = 1 ∨ lo = 2 ∨ lo = 3 := by omega
  have h2 : hi = 1 ∨ hi = 2 ∨ hi = 3 := by omega
  refine ⟨?_, by unfold stateL; dsimp only; split <;> omega, by unfold stateL; dsimp only; split <;> omega⟩
  rcases h0 with rfl | rfl | rfl | rfl <;> rcases h1 with rfl | rfl | rfl <;> rcases h2 with rfl | rfl | rfl <;> cases cut <;> kernel_rfl
theorem n1 : Int.toNat (1 : Int) = 1 := rfl
theorem n2 : Int.toNat (2 : Int) = 2 := rfl
theorem n6 : Int.toNat (6 : Int) = 6 := rfl
theorem roomy_of {l : List Int} (h : l.length < 1099511600000) : roomy l = true := (roomy_iff l).2 h
theorem recB_length (r : (Int × Int × Int × (Int × Int) × Bool × List (Int × List Int))) : (recB r).length = 5 := by unfold recB; simp [be_length]
theorem Body11.loop (fuel : Nat) (kind from0 inc lo hi seq target life epoch base : Int) (recs : List (Int × Int × Int × (Int × Int) × Bool × List (Int × List Int))) (hr : ∀ r ∈ recs, recOkT r = true ∧ r.2.1 ≤ 65535) (hlen : recs.length ≤ 255) : ∀ (k i : Nat) (acc : List Int), i ≤ recs.length → recs.length - i < k → acc.length + 5 * (recs.length - i) < 2000 →
    Body11.l9 fuel kind from0 inc lo hi seq target life epoch base recs k (i : Int) acc = some (acc ++ (recs.drop i).flatMap recB) := by
  intro k
  induction k with
  | zero => intro i acc h1 h2; omega
  | succ k ih =>
    intro i acc h1 h2 h3
    rw [Body11.l9]
    unfold Body11.b9
    by_cases hi' : i < recs.length
    · rw [if_pos (by simp; omega), idx_at, List.getElem?_eq_getElem hi']
      dsimp only
      rw [List.drop_eq_getElem_cons hi', List.flatMap_cons]
      obtain ⟨hok, hinc⟩ := hr recs[i] (List.getElem_mem hi')
      generalize recs[i] = r at hok hinc ⊢
      obtain ⟨f1, f2, f3, f4, f5, f6, f7, _, _⟩ := recOk_facts hok
      have f8 := (okS_iff _ _).1 f7
      obtain ⟨_, s1, s2⟩ := state_eq hok
      have r1 : roomy acc = true := roomy_of (by omega)
      have r2 : roomy (acc ++ be 2 r.1) = true := roomy_of (by simp [be_length]; omega)
      have r3 : roomy ((acc ++ be 2 r.1) ++ be 2 r.2.1) = true := roomy_of (by simp [be_length]; omega)
      have hnext := ih (i + 1) (((acc ++ be 2 r.1) ++ be 2 r.2.1) ++ be 1 (stateL r)) (by omega) (by omega) (by simp [be_length]; omega)
      have hw : Go.IntKind.wrap .i64 ((i : Int) + 1) = ((i + 1 : Nat) : Int) := by rw [wrap_small _ (by omega) (by omega)]; omega
      have e0 : Go.IntKind.wrap .i64 (Go.IntKind.wrap .i64 (r.2.2.1 + Go.IntKind.wrap .i64 (4 * r.2.2.2.1.1)) + Go.IntKind.wrap .i64 (16 * r.2.2.2.1.2)) = r.2.2.1 + 4 * r.2.2.2.1.1 + 16 * r.2.2.2.1.2 := by
        rw [wrap_small (4 * _) (by omega) (by omega), wrap_small (16 * _) (by omega) (by omega), wrap_small (r.2.2.1 + _) (by omega) (by omega), wrap_small _ (by omega) (by omega)]
      rw [e0, n1, n2]
      cases hc : r.2.2.2.2.1
      · have e : r.2.2.1 + 4 * r.2.2.2.1.1 + 16 * r.2.2.2.1.2 = stateL r := by unfold stateL; rw [hc]; rfl
        rw [if_neg (by simp), e, if_pos ⟨fits_two f1 (by omega), r1⟩, if_pos ⟨fits_two f3 (by omega), r2⟩, if_pos ⟨fits_byte s1 s2, r3⟩, hw, hnext]
        simp [recB, List.append_assoc]
      · have e : Go.IntKind.wrap .i64 (r.2.2.1 + 4 * r.2.2.2.1.1 + 16 * r.2.2.2.1.2 + 64) = stateL r := by rw [wrap_small _ (by omega) (by omega)]; unfold stateL; rw [hc]; rfl
        rw [if_pos rfl, e, if_pos ⟨fits_two f1 (by omega), r1⟩, if_pos ⟨fits_two f3 (by omega), r2⟩, if_pos ⟨fits_byte s1 s2, r3⟩, hw, hnext]
        simp [recB, List.append_assoc]
    · rw [if_neg (by simp; omega), List.drop_of_length_le (by omega)]
      simp
theorem Body11.pure (kind from0 inc lo hi seq target life epoch base : Int) (recs : List (Int × Int × Int × (Int × Int) × Bool × List (Int × List Int))) (hl : (fitsL kind from0 inc lo hi seq target life epoch base recs && smallRecs recs) = true) :
    Body11.f (recs.length + 1) kind from0 inc lo hi seq target life epoch base recs = some (bodyF kind from0 inc lo hi seq target recs) := by
  rw [Bool.and_eq_true] at hl
  obtain ⟨hv, hx⟩ := fits_facts hl.1
  obtain ⟨v1, v2, v3, v4, v5, v6, v7, v8, v9, v10, v11, _, v12, v13⟩ := valid_facts hv
  have v14 := (okS_iff _ _).1 v7
  unfold Body11.f Body11.b bodyF headB
  have e : Go.IntKind.wrap .i64 (Go.IntKind.wrap .i64 (lo * 16) + hi) = lo * 16 + hi := by
    rw [wrap_small (lo * 16) (by omega) (by omega), wrap_small _ (by omega) (by omega)]
  rw [e, n1, n2, n6]
  have hlp := Body11.loop (recs.length + 1) kind from0 inc lo hi seq target life epoch base recs (fun r hr => ⟨v13 r hr, (hx r hr).1⟩) v12 (recs.length + 1) 0 ((((((([] ++ be 1 kind) ++ be 2 from0) ++ be 6 inc) ++ be 1 (lo * 16 + hi)) ++ be 2 seq) ++ be 2 target) ++ be 1 (recs.length : Int)) (by omega) (by omega) (by simp [be_length]; omega)
  rw [if_pos ⟨fits_byte (by omega) (by omega), roomy_of (by simp)⟩, if_pos ⟨fits_two v3 (by omega), roomy_of (by simp [be_length])⟩, if_pos ⟨fits_six v5 (by omega), roomy_of (by simp [be_length])⟩,
    if_pos ⟨fits_byte (by omega) (by omega), roomy_of (by simp [be_length])⟩, if_pos ⟨fits_two v8 (by omega), roomy_of (by simp [be_length])⟩, if_pos ⟨fits_two v10 (by omega), roomy_of (by simp [be_length])⟩, if_pos ⟨fits_byte (by omega) (by omega), roomy_of (by simp [be_length])⟩]
  rw [show ((0 : Nat) : Int) = 0 from rfl] at hlp
  rw [hlp]
  simp [List.append_assoc]
theorem Encode1.loop (fuel : Nat) (kind from0 inc lo hi seq target life epoch base : Int) (recs : List (Int × Int × Int × (Int × Int) × Bool × List (Int × List Int))) (hr : ∀ r ∈ recs, recOkT r = true ∧ r.2.1 ≤ 65535) (hlen : recs.length ≤ 255) : ∀ (k i : Nat) (acc : List Int), i ≤ recs.length → recs.length - i < k → acc.length + 5 * (recs.length - i) < 2000 →
    Encode1.l15 fuel kind from0 inc lo hi seq target life epoch base recs k (recs.length : Int) (i : Int) acc = some (acc ++ (recs.drop i).flatMap recB, 0) := by
  intro k
  induction k with
  | zero => intro i acc h1 h2; omega
  | succ k ih =>
    intro i acc h1 h2 h3
    rw [Encode1.l15]
    unfold Encode1.b15
    by_cases hi' : i < recs.length
    · rw [if_pos (by simp; omega), idx_at, List.getElem?_eq_getElem hi']
      dsimp only
      rw [List.drop_eq_getElem_cons hi', List.flatMap_cons]
      obtain ⟨hok, hinc⟩ := hr recs[i] (List.getElem_mem hi')
      generalize recs[i] = r at hok hinc ⊢
      obtain ⟨f1, f2, f3, f4, f5, f6, f7, _, _⟩ := recOk_facts hok
      obtain ⟨s0, s1, s2⟩ := state_eq hok
      have r1 : roomy acc = true := roomy_of (by omega)
      have r2 : roomy (acc ++ be 2 r.1) = true := roomy_of (by simp [be_length]; omega)
      have r3 : roomy ((acc ++ be 2 r.1) ++ be 2 r.2.1) = true := roomy_of (by simp [be_length]; omega)
      have hnext := ih (i + 1) (((acc ++ be 2 r.1) ++ be 2 r.2.1) ++ be 1 (stateL r)) (by omega) (by omega) (by simp [be_length]; omega)
      have hw : Go.IntKind.wrap .i64 ((i : Int) + 1) = ((i + 1 : Nat) : Int) := by rw [wrap_small _ (by omega) (by omega)]; omega
      rw [n1, n2, s0, if_pos ⟨fits_two f1 (by omega), r1⟩, if_pos ⟨fits_two f3 (by omega), r2⟩, if_pos ⟨fits_byte s1 s2, r3⟩, hw, hnext]
      simp [recB, List.append_assoc]
    · rw [if_neg (by simp; omega), List.drop_of_length_le (by omega), if_pos (roomy_of (by omega))]
      simp
theorem Encode1.pure (kind from0 inc lo hi seq target life epoch base : Int) (recs : List (Int × Int × Int × (Int × Int) × Bool × List (Int × List Int))) (hl : smallRecs recs = true) :
    Encode1.f (recs.length + 1) kind from0 inc lo hi seq target life epoch base recs = some ((encF kind from0 inc lo hi seq target life epoch base recs).1, (encF kind from0 inc lo hi seq target life epoch base recs).2) := by
  unfold Encode1.f Encode1.b encF
  rw [if_pos hl]
  cases hv0 : validF kind from0 inc lo hi seq target life epoch base recs
  · rfl
  rw [if_neg (by simp), if_pos hl]
  cases hf : fits1 kind from0 inc lo hi seq target life epoch base recs
  · rfl
  have hf' := hf
  rw [fits_same] at hf'
  obtain ⟨hv, hx⟩ := fits_facts hf'
  obtain ⟨v1, v2, v3, v4, v5, v6, v7, v8, v9, v10, v11, _, v12, v13⟩ := valid_facts hv
  have v14 := (okS_iff _ _).1 v7
  have hlp := Encode1.loop (recs.length + 1) kind from0 inc lo hi seq target life epoch base recs (fun r hr => ⟨v13 r hr, (hx r hr).1⟩) v12 (recs.length + 1) 0 (((((((be 1 kind) ++ be 2 from0) ++ be 6 inc) ++ be 1 (lo * 16 + hi)) ++ be 2 seq) ++ be 2 target) ++ be 1 (recs.length : Int)) (by omega) (by omega) (by simp [be_length]; omega)
  rw [show ((0 : Nat) : Int) = 0 from rfl] at hlp
  rw [if_neg (by simp), code_eq v7, n1, n2, n6]
  rw [if_pos (fits_byte (by omega) (by omega)), if_pos ⟨fits_two v3 (by omega), roomy_of (by simp [be_length])⟩, if_pos ⟨fits_six v5 (by omega), roomy_of (by simp [be_length])⟩,
    if_pos ⟨fits_byte (by omega) (by omega), roomy_of (by simp [be_length])⟩, if_pos ⟨fits_two v8 (by omega), roomy_of (by simp [be_length])⟩, if_pos ⟨fits_two v10 (by omega), roomy_of (by simp [be_length])⟩, if_pos ⟨fits_byte (by omega) (by omega), roomy_of (by simp [be_length])⟩]
  rw [hlp]
  simp [bodyF, headB, List.append_assoc]
theorem awake11.pure : awake11.f 0 () = some true := by kernel_rfl
theorem few8_len {l : List (Int × Int × Int × (Int × Int) × Bool × List (Int × List Int))} (h : few8 l = true) : l.length ≤ 20 := by
  unfold few8 at h
  split at h
  · cases h
  · rename_i hc; simp at hc; omega
theorem Gen1Writes.pure (kind from0 inc lo hi seq target life epoch base : Int) (recs : List (Int × Int × Int × (Int × Int) × Bool × List (Int × List Int))) (hl : smallRecs recs = true) : Gen1Writes.f 0 kind from0 inc lo hi seq target life epoch base recs = some true := by
  unfold Gen1Writes.f Gen1Writes.b
  rw [hl, fits_same]
  cases few8 recs
  · rfl
  simp only [if_true, Bool.not_true, Bool.false_eq_true, if_false, beq_self_eq_true, Bool.and_true]
  unfold encF
  rw [fits_same]
  cases hv : validF kind from0 inc lo hi seq target life epoch base recs
  · rfl
  · cases hf : fitsL kind from0 inc lo hi seq target life epoch base recs
    · rfl
    · simp
end Go.Proofs.Ytlmljpmohljefaa
