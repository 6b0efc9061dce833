import Derived.Test.YtlmljpmohljefaaK14
set_option linter.unusedVariables false
set_option linter.unusedSimpArgs false
namespace Go.Proofs.Ytlmljpmohljefaa
open Go.Den
theorem fits_four {v : Int} (h0 : 0 ≤ v) (h1 : v ≤ 4294967295) : fitsF 4 v = true := (fitsF_iff 4 v).2 ⟨by omega, by omega, h0, by simp; omega⟩
theorem recFit2_iff (r : Int × Int × Int × (Int × Int) × Bool × List (Int × List Int)) : recFit2 r = true ↔ recFit r = true ∧ r.2.1 ≤ 4294967295 := by unfold recFit2; simp
theorem Within2.pure (id inc st lo hi : Int) (cut : Bool) (bag : List (Int × List Int)) (hl : recFit2 (id, inc, st, (lo, hi), cut, bag) = true) :
    Within2.f 0 id inc st lo hi cut bag = some (withinL (id, inc, st, (lo, hi), cut, bag)) := by
  obtain ⟨hf, hi4⟩ := (recFit2_iff _).1 hl
  obtain ⟨hok, hs⟩ := (recFit_iff _).1 hf
  obtain ⟨f1, f2, f3, f4, f5, f6, f7, f8, _⟩ := recOk_facts hok
  have f9 := (okS_iff _ _).1 f7
  dsimp only at f1 f2 f3 f4 f5 f6 f7 f8 f9 hi4
  obtain ⟨b1, b2, b3⟩ := bagOk_len f8
  unfold Within2.f Within2.b
  rw [code_eq f7]
  cases cut
  · rw [if_neg (by simp), if_pos (fits_two f1 (by omega)), if_pos (fits_four f3 hi4), if_pos (fits_byte f5 (by omega)), if_pos (fits_byte (by omega) (by omega)), if_pos (by simp [lim]; omega)]
    rfl
  · have e' : Go.IntKind.wrap .i64 (st + 128) = st + 128 := wrap_small _ (by omega) (by omega)
    rw [if_pos rfl, e', if_pos (fits_two f1 (by omega)), if_pos (fits_four f3 hi4), if_pos (fits_byte (by omega) (by omega)), if_pos (fits_byte (by omega) (by omega)), if_pos (by simp [lim]; omega)]
    rfl
theorem joinOk_iff (l : List (Int × List Int)) : joinOk l = true ↔ l.length ≤ 300 ∧ ∀ x ∈ l, (0 ≤ x.1 ∧ x.1 ≤ 255) ∧ x.2.length ≤ 65535 := by
  unfold joinOk
  simp only [Bool.and_eq_true, decide_eq_true_eq, List.all_eq_true, tagOk_iff]
theorem sh8 : Min.min (Int.toNat (Go.IntKind.wrap .i64 ((8 : Int) - Go.IntKind.wrap .i64 ((8 : Int) * 0)))) (Go.IntKind.bits .i64) = 8 := rfl
theorem sh0 : Min.min (Int.toNat (Go.IntKind.wrap .i64 ((8 : Int) - Go.IntKind.wrap .i64 ((8 : Int) * 1)))) (Go.IntKind.bits .i64) = 0 := rfl
theorem sw8 : Go.IntKind.wrap .i64 ((8 : Int) - Go.IntKind.wrap .i64 ((8 : Int) * 0)) = 8 := rfl
theorem sw0 : Go.IntKind.wrap .i64 ((8 : Int) - Go.IntKind.wrap .i64 ((8 : Int) * 1)) = 0 := rfl
theorem wi1 : Go.IntKind.wrap .i64 ((0 : Int) + 1) = 1 := rfl
theorem wi2 : Go.IntKind.wrap .i64 ((1 : Int) + 1) = 2 := rfl
theorem sb8 (n : Nat) (h : n ≤ 65535) : Go.IntKind.wrap .u8 (Int.fdiv (n : Int) ((2 : Int) ^ 8)) = ((n / 256 : Nat) : Int) := by
  rw [wrap8, Int.fdiv_eq_ediv_of_nonneg _ (by decide), show (2 : Int) ^ 8 = 256 from rfl]; omega
theorem sb0 (n : Nat) : Go.IntKind.wrap .u8 (Int.fdiv (n : Int) ((2 : Int) ^ 0)) = ((n % 256 : Nat) : Int) := by
  rw [wrap8, Int.fdiv_eq_ediv_of_nonneg _ (by decide), show (2 : Int) ^ 0 = 1 from rfl]; omega
theorem Join.step (fuel : Nat) (l : List (Int × List Int)) (A3 : Int → Int → List Int → Option (List Int × Int)) (m : Nat) (x4 x5 : Int) (acc : List Int) (t : Int) (d : List Int) (hd : d.length ≤ 65535) (ha : acc.length < 100000000) :
    Join.l11 fuel l A3 (m + 3) x4 x5 0 acc t d = A3 x4 (Go.IntKind.wrap .i64 (x5 + 1)) (((acc ++ [((d.length / 256 : Nat) : Int)]) ++ [((d.length % 256 : Nat) : Int)]) ++ d) := by
  rw [Join.l11]; unfold Join.b11
  rw [if_pos (by decide), sw8, if_neg (by decide), show Min.min (Int.toNat 8) (Go.IntKind.bits .i64) = 8 from rfl, sb8 d.length hd, if_pos (by simp [lim]; omega), wi1]
  rw [Join.l11]; unfold Join.b11
  rw [if_pos (by decide), sw0, if_neg (by decide), show Min.min (Int.toNat 0) (Go.IntKind.bits .i64) = 0 from rfl, sb0 d.length, if_pos (by simp [lim]; omega), wi2]
  rw [Join.l11]; unfold Join.b11
  rw [if_neg (by decide), if_pos (by simp [lim]; omega)]
theorem Join.loop (m : Nat) (l : List (Int × List Int)) (hb : l.length ≤ 300) (ht : ∀ x ∈ l, (0 ≤ x.1 ∧ x.1 ≤ 255) ∧ x.2.length ≤ 65535) : ∀ (k i : Nat) (acc : List Int), i ≤ l.length → l.length - i < k → acc.length + 70000 * (l.length - i) < 50000000 →
    Join.l3 (m + 3) l k (l.length : Int) (i : Int) acc = some (acc ++ (l.drop i).flatMap fieldB, 0) := by
  intro k
  induction k with
  | zero => intro i acc h1 h2; omega
  | succ k ih =>
    intro i acc h1 h2 h3
    rw [Join.l3]
    unfold Join.b3
    by_cases hi' : i < l.length
    · rw [if_pos (by simp; omega), idx_at, List.getElem?_eq_getElem hi']
      dsimp only
      have hx := ht l[i] (List.getElem_mem hi')
      rw [List.drop_eq_getElem_cons hi', List.flatMap_cons]
      generalize l[i] = x at hx ⊢
      rw [if_neg (by simp; omega), if_neg (by simp; omega), if_neg (by simp; omega), if_pos (by simp [lim]; omega), tag8 hx.1, Join.step (m + 3) l _ m _ _ _ _ _ hx.2 (by simp; omega), wrap_small ((i : Int) + 1) (by omega) (by omega)]
      have := ih (i + 1) ((((acc ++ [x.1]) ++ [((x.2.length / 256 : Nat) : Int)]) ++ [((x.2.length % 256 : Nat) : Int)]) ++ x.2) (by omega) (by omega) (by simp; omega)
      rw [show ((i + 1 : Nat) : Int) = (i : Int) + 1 from by omega] at this
      rw [this]
      simp [fieldB]
    · rw [if_neg (by simp; omega), List.drop_of_length_le (by omega)]
      simp
theorem Join.pure (l : List (Int × List Int)) (hl : joinOk l = true) : Join.f (l.length + 3) l = some (l.flatMap fieldB, 0) := by
  obtain ⟨h1, h2⟩ := (joinOk_iff l).1 hl
  unfold Join.f Join.b
  have := Join.loop l.length l h1 h2 (l.length + 3) 0 [] (by omega) (by omega) (by simp; omega)
  rw [show ((0 : Nat) : Int) = 0 from rfl] at this
  rw [this]
  simp
theorem within_join {r : Int × Int × Int × (Int × Int) × Bool × List (Int × List Int)} (h : recOkT r = true) : joinOk (withinL r) = true := by
  have f8 := (recOk_facts h).2.2.2.2.2.2.2.1
  have b1 := (bagOk_len f8).1
  refine (joinOk_iff _).2 ⟨by unfold withinL; simp; omega, ?_⟩
  intro x hx
  unfold withinL at hx
  rcases List.mem_append.1 hx with hx | hx
  · simp at hx
    rcases hx with rfl | rfl | rfl | rfl <;> simp [be_length]
  · have := bag_tags f8 x hx
    omega
theorem within_flat (r : Int × Int × Int × (Int × Int) × Bool × List (Int × List Int)) : (withinL r).flatMap fieldB = innerL r := by
  unfold withinL innerL
  simp [fieldB, itB, be_length]
theorem map_flat : ∀ (l : LR), (l.map fun r => ((7 : Int), innerL r)).flatMap fieldB = l.flatMap recB2
  | [] => rfl
  | r :: l => by rw [List.map_cons, List.flatMap_cons, List.flatMap_cons, map_flat l]; rfl
theorem fit2_all : ∀ (l : LR), fit2Go l = true → ∀ r ∈ l, r.2.1 ≤ 4294967295
  | [], h, r, hr => by simp at hr
  | x :: l, h, r, hr => by
    unfold fit2Go at h
    split at h
    · cases h
    · rename_i hc
      rcases List.mem_cons.1 hr with rfl | hr
      · simpa using hc
      · exact fit2_all l h r hr
theorem fits2_facts {kind from0 inc lo hi seq target life epoch base : Int} {recs : LR} (h : fits2 kind from0 inc lo hi seq target life epoch base recs = true) :
    validF kind from0 inc lo hi seq target life epoch base recs = true ∧ kind ≠ 9 ∧ epoch = 0 ∧ size2 kind from0 inc lo hi seq target life epoch base recs ≤ 65499 ∧ fit2Go recs = true := by
  unfold fits2 at h
  split at h
  · cases h
  · rename_i hc
    simp at hc
    exact ⟨hc.1, hc.2.1, hc.2.2.1, hc.2.2.2, h⟩
theorem Encode2.loop (fuel : Nat) (kind from0 inc lo hi seq target life epoch base : Int) (recs : LR) (hr : ∀ r ∈ recs, recFit2 r = true) (hlen : recs.length ≤ 255) : ∀ (k i : Nat) (acc : List (Int × List Int)), i ≤ recs.length → recs.length - i < k → acc.length + (recs.length - i) ≤ 300 → (∀ x ∈ acc, (0 ≤ x.1 ∧ x.1 ≤ 255) ∧ x.2.length ≤ 65535) →
    Encode2.l11 fuel kind from0 inc lo hi seq target life epoch base recs k (recs.length : Int) (i : Int) acc = some (acc.flatMap fieldB ++ (recs.drop i).flatMap recB2, 0) := by
  intro k
  induction k with
  | zero => intro i acc h1 h2; omega
  | succ k ih =>
    intro i acc h1 h2 h3 h4
    rw [Encode2.l11]
    unfold Encode2.b11
    by_cases hi' : i < recs.length
    · rw [if_pos (by simp; omega), idx_at, List.getElem?_eq_getElem hi']
      dsimp only
      have hf := hr recs[i] (List.getElem_mem hi')
      rw [List.drop_eq_getElem_cons hi', List.flatMap_cons]
      generalize recs[i] = r at hf ⊢
      have hok := ((recFit_iff r).1 ((recFit2_iff r).1 hf).1).1
      simp only [rec_eta]
      rw [if_pos hf, if_pos (within_join hok), within_flat, if_pos (by simp [lim]; omega), wrap_small ((i : Int) + 1) (by omega) (by omega)]
      have := ih (i + 1) (acc ++ [(7, innerL r)]) (by omega) (by omega) (by simp; omega) (by
        intro x hx
        rcases List.mem_append.1 hx with hx | hx
        · exact h4 x hx
        · have hq := inner_le hok
          simp at hx
          subst hx
          exact ⟨by simp, by simp; omega⟩)
      rw [show ((i + 1 : Nat) : Int) = (i : Int) + 1 from by omega] at this
      rw [this]
      simp [recB2]
    · rw [if_neg (by simp; omega), List.drop_of_length_le (by omega), if_pos ((joinOk_iff acc).2 ⟨by omega, h4⟩)]
      simp
theorem Encode2.pure (kind from0 inc lo hi seq target life epoch base : Int) (recs : LR) (hl : smallRecs recs = true) :
    Encode2.f (recs.length + 1) kind from0 inc lo hi seq target life epoch base recs = some ((enc2 kind from0 inc lo hi seq target life epoch base recs).1, (enc2 kind from0 inc lo hi seq target life epoch base recs).2) := by
  unfold Encode2.f Encode2.b enc2
  rw [if_pos hl]
  cases hv0 : validF kind from0 inc lo hi seq target life epoch base recs
  · rfl
  rw [if_neg (by simp), if_pos hl]
  cases hf : fits2 kind from0 inc lo hi seq target life epoch base recs
  · rfl
  obtain ⟨hv, w1, w2, w3, w4⟩ := fits2_facts hf
  obtain ⟨v1, v2, v3, v4, v5, v6, v7, v8, v9, v10, v11, _, v12, v13⟩ := valid_facts hv
  have v14 := (okS_iff _ _).1 v7
  have hs := ((smallRecs_iff recs).1 hl).2
  have h4 := fit2_all recs w4
  have hlp := fun acc ha hb => Encode2.loop (recs.length + 1) kind from0 inc lo hi seq target life epoch base recs (fun r hr => (recFit2_iff r).2 ⟨(recFit_iff r).2 ⟨v13 r hr, hs r hr⟩, h4 r hr⟩) v12 (recs.length + 1) 0 acc (by omega) (by omega) ha hb
  rw [show ((0 : Nat) : Int) = 0 from rfl] at hlp
  simp only [List.drop_zero] at hlp
  have n5 : fitsF 2 seq = true := fits_two v8 (by omega)
  have n6 : fitsF 2 target = true := fits_two v10 (by omega)
  rw [if_neg (by simp), code_eq v7, if_pos (fits_byte (by omega) (by omega)), if_pos (fits_two v3 (by omega)), if_pos (fits_six v5 (by omega)), if_pos (fits_byte (by omega) (by omega))]
  cases h5 : hasF kind 0 <;> cases h6 : hasF kind 1
  · rw [if_neg (by simp), if_neg (by simp), hlp _ (by simp; omega) (by simp [be_length])]
    simp [body2, itB, fieldB, be_length, h5, h6, List.append_assoc]
  · rw [if_neg (by simp), if_pos rfl, if_pos n6, hlp _ (by simp; omega) (by simp [be_length])]
    simp [body2, itB, fieldB, be_length, h5, h6, List.append_assoc]
  · rw [if_pos rfl, if_pos n5, if_neg (by simp), hlp _ (by simp; omega) (by simp [be_length])]
    simp [body2, itB, fieldB, be_length, h5, h6, List.append_assoc]
  · rw [if_pos rfl, if_pos n5, if_pos rfl, if_pos n6, hlp _ (by simp; omega) (by simp [be_length])]
    simp [body2, itB, fieldB, be_length, h5, h6, List.append_assoc]
end Go.Proofs.Ytlmljpmohljefaa
