import Derived.Test.YtlmljpmohljefaaC12
set_option linter.unusedVariables false
set_option linter.unusedSimpArgs false
namespace Go.Proofs.Ytlmljpmohljefaa
open Go.Den
theorem hi8 (n : Nat) (h : n ≤ 65535) : Go.IntKind.wrap .u8 (Go.IntKind.wrap .i64 (Int.tdiv (n : Int) 256)) = ((n / 256 : Nat) : Int) := by
  rw [wrap8, Int.tdiv_eq_ediv_of_nonneg (by omega), wrap_small _ (by omega) (by omega)]; omega
theorem lo8 (n : Nat) : Go.IntKind.wrap .u8 (Int.tmod (n : Int) 256) = ((n % 256 : Nat) : Int) := by
  rw [wrap8, Int.tmod_eq_emod_of_nonneg (by omega)]; omega
theorem tag8 {t : Int} (h : 0 ≤ t ∧ t ≤ 255) : Go.IntKind.wrap .u8 t = t := by rw [wrap8]; omega
theorem fieldB_len (x : Int × List Int) : (fieldB x).length = 3 + x.2.length := by unfold fieldB; simp; omega
theorem flatF_len : ∀ (l : List (Int × List Int)), (((l.flatMap fieldB).length : Nat) : Int) = bagLen l
  | [] => by simp [bagLen]
  | x :: l => by
    rw [List.flatMap_cons, List.length_append, bagLen_cons, ← flatF_len l, fieldB_len]
    omega
theorem itB_len (t n v : Int) : (itB t n v).length = 3 + n.toNat := by unfold itB; simp [be_length]; omega
theorem inner_len (r : Int × Int × Int × (Int × Int) × Bool × List (Int × List Int)) : ((innerL r).length : Int) = 20 + bagLen r.2.2.2.2.2 := by
  unfold innerL
  simp only [List.length_append, itB_len]
  have := flatF_len r.2.2.2.2.2
  omega
theorem bagGo_tag : ∀ (l : List (Int × List Int)) (last size : Int), bagGo l last size = true → 0 ≤ size → ∀ x ∈ l, last ≤ x.1 ∧ x.1 ≤ 255 ∧ x.2.length ≤ 4096
  | [], _, _, _, _, x, hx => by simp at hx
  | y :: l, last, size, h, h0, x, hx => by
    unfold bagGo at h
    split at h
    · cases h
    · split at h
      · cases h
      · rename_i h1 h2
        simp at h1 h2
        rcases List.mem_cons.1 hx with rfl | hx
        · omega
        · have := bagGo_tag l y.1 _ h (by omega) x hx
          omega
theorem bag_tags {b : List (Int × List Int)} (h : bagOk b = true) : ∀ x ∈ b, 32 ≤ x.1 ∧ x.1 ≤ 255 ∧ x.2.length ≤ 4096 := by
  unfold bagOk at h
  split at h
  · cases h
  · exact bagGo_tag b 32 0 h (by omega)
theorem numOk_of {n v : Int} (h1 : 1 ≤ n) (h7 : n ≤ 7) (h0 : 0 ≤ v) (hv : v < 9223372036854775808) : numOk n v = true := (numOk_iff n v).2 ⟨h1, h7, h0, hv⟩
theorem tagOk_of {t : Int} (h0 : 0 ≤ t) (h : t ≤ 255) : tagOk t = true := (tagOk_iff t).2 ⟨h0, h⟩
theorem Inner13.loop (fuel : Nat) (id inc st lo hi : Int) (cut : Bool) (bag : List (Int × List Int)) (hb : bag.length ≤ 32) (ht : ∀ x ∈ bag, 32 ≤ x.1 ∧ x.1 ≤ 255 ∧ x.2.length ≤ 4096) : ∀ (k i : Nat) (acc : List Int), i ≤ bag.length → bag.length - i < k → acc.length + 5000 * (bag.length - i) < 1000000 →
    Inner13.l8 fuel id inc st lo hi cut bag k (i : Int) acc = some (acc ++ (bag.drop i).flatMap fieldB) := by
  intro k
  induction k with
  | zero => intro i acc h1 h2; omega
  | succ k ih =>
    intro i acc h1 h2 h3
    rw [Inner13.l8]
    unfold Inner13.b8
    by_cases hi' : i < bag.length
    · rw [if_pos (by simp; omega), idx_at, List.getElem?_eq_getElem hi']
      dsimp only
      have hx := ht bag[i] (List.getElem_mem hi')
      rw [List.drop_eq_getElem_cons hi', List.flatMap_cons]
      generalize bag[i] = x at hx ⊢
      have e1 := hi8 x.2.length (by omega)
      have e2 := lo8 x.2.length
      rw [e1, e2, tag8 (by omega), if_pos (by simp [lim]; omega), if_pos (by simp [lim]; omega), wrap_small ((i : Int) + 1) (by omega) (by omega)]
      have := ih (i + 1) ((acc ++ [x.1, ((x.2.length / 256 : Nat) : Int), ((x.2.length % 256 : Nat) : Int)]) ++ x.2) (by omega) (by omega) (by simp; omega)
      rw [show ((i + 1 : Nat) : Int) = (i : Int) + 1 from by omega] at this
      rw [this]
      simp [fieldB]
    · rw [if_neg (by simp; omega), List.drop_of_length_le (by omega)]
      simp
theorem recFit_iff (r : Int × Int × Int × (Int × Int) × Bool × List (Int × List Int)) : recFit r = true ↔ recOkT r = true ∧ smallBag r.2.2.2.2.2 = true := by unfold recFit; simp
theorem Inner13.pure (id inc st lo hi : Int) (cut : Bool) (bag : List (Int × List Int)) (hl : recFit (id, inc, st, (lo, hi), cut, bag) = true) :
    Inner13.f (bag.length + 1) id inc st lo hi cut bag = some (innerL (id, inc, st, (lo, hi), cut, bag)) := by
  obtain ⟨hok, hs⟩ := (recFit_iff _).1 hl
  obtain ⟨f1, f2, f3, f4, f5, f6, f7, f8, _⟩ := recOk_facts hok
  have f9 := (okS_iff _ _).1 f7
  dsimp only at f1 f2 f3 f4 f5 f6 f7 f8 f9
  obtain ⟨b1, b2, b3⟩ := bagOk_len f8
  unfold Inner13.f Inner13.b
  have e : Go.IntKind.wrap .i64 (Go.IntKind.wrap .i64 (lo * 16) + hi) = lo * 16 + hi := by
    rw [wrap_small (lo * 16) (by omega) (by omega), wrap_small _ (by omega) (by omega)]
  have hlp := fun acc ha => Inner13.loop (bag.length + 1) id inc st lo hi cut bag b1 (bag_tags f8) (bag.length + 1) 0 acc (by omega) (by omega) ha
  rw [show ((0 : Nat) : Int) = 0 from rfl] at hlp
  simp only [List.drop_zero] at hlp
  rw [if_pos ⟨numOk_of (by omega) (by omega) f1 (by omega), tagOk_of (by omega) (by omega), roomy_of (by simp)⟩, if_pos ⟨numOk_of (by omega) (by omega) f3 (by omega), tagOk_of (by omega) (by omega), roomy_of (by simp [be_length])⟩, e]
  cases cut
  · rw [if_neg (by simp), if_pos ⟨numOk_of (by omega) (by omega) f5 (by omega), tagOk_of (by omega) (by omega), roomy_of (by simp [be_length])⟩, if_pos ⟨numOk_of (by omega) (by omega) (by omega) (by omega), tagOk_of (by omega) (by omega), roomy_of (by simp [be_length])⟩, hlp _ (by simp [be_length]; omega)]
    simp [innerL, itB, cutSt, List.append_assoc]
  · have e' : Go.IntKind.wrap .i64 (st + 128) = st + 128 := wrap_small _ (by omega) (by omega)
    rw [if_pos rfl, e', if_pos ⟨numOk_of (by omega) (by omega) (by omega) (by omega), tagOk_of (by omega) (by omega), roomy_of (by simp [be_length])⟩, if_pos ⟨numOk_of (by omega) (by omega) (by omega) (by omega), tagOk_of (by omega) (by omega), roomy_of (by simp [be_length])⟩, hlp _ (by simp [be_length]; omega)]
    simp [innerL, itB, cutSt, List.append_assoc]
theorem inner_le {r : Int × Int × Int × (Int × Int) × Bool × List (Int × List Int)} (h : recOkT r = true) : (innerL r).length ≤ 4212 := by
  have := inner_len r
  have := bagOk_len (recOk_facts h).2.2.2.2.2.2.2.1
  omega
theorem recB2_len (r : Int × Int × Int × (Int × Int) × Bool × List (Int × List Int)) : ((recB2 r).length : Int) = recLen r := by
  unfold recB2 recLen
  rw [fieldB_len]
  have := inner_len r
  dsimp only
  omega
theorem Body13.loop (fuel : Nat) (kind from0 inc lo hi seq target life epoch base : Int) (recs : LR) (hr : ∀ r ∈ recs, recOkT r = true ∧ smallBag r.2.2.2.2.2 = true) (hlen : recs.length ≤ 255) : ∀ (k i : Nat) (acc : List Int), i ≤ recs.length → recs.length - i < k → acc.length + 5000 * (recs.length - i) < 2000000 →
    Body13.l10 fuel kind from0 inc lo hi seq target life epoch base recs k (i : Int) acc = some (acc ++ (recs.drop i).flatMap recB2) := by
  intro k
  induction k with
  | zero => intro i acc h1 h2; omega
  | succ k ih =>
    intro i acc h1 h2 h3
    rw [Body13.l10]
    unfold Body13.b10
    by_cases hi' : i < recs.length
    · rw [if_pos (by simp; omega), idx_at, List.getElem?_eq_getElem hi']
      dsimp only
      obtain ⟨hok, hs⟩ := hr recs[i] (List.getElem_mem hi')
      rw [List.drop_eq_getElem_cons hi', List.flatMap_cons]
      generalize recs[i] = r at hok hs ⊢
      have hfit : recFit r = true := (recFit_iff r).2 ⟨hok, hs⟩
      have hq := inner_le hok
      simp only [rec_eta]
      have e1 := hi8 (innerL r).length (by omega)
      have e2 := lo8 (innerL r).length
      rw [if_pos hfit, e1, e2, if_pos (by simp [lim]; omega), if_pos (by simp [lim]; omega), wrap_small ((i : Int) + 1) (by omega) (by omega)]
      have := ih (i + 1) ((acc ++ [7, (((innerL r).length / 256 : Nat) : Int), (((innerL r).length % 256 : Nat) : Int)]) ++ innerL r) (by omega) (by omega) (by simp; omega)
      rw [show ((i + 1 : Nat) : Int) = (i : Int) + 1 from by omega] at this
      rw [this]
      simp [recB2, fieldB]
    · rw [if_neg (by simp; omega), List.drop_of_length_le (by omega)]
      simp
theorem Body13.pure (kind from0 inc lo hi seq target life epoch base : Int) (recs : LR) (hl : (validF kind from0 inc lo hi seq target life epoch base recs && smallRecs recs) = true) :
    Body13.f (recs.length + 1) kind from0 inc lo hi seq target life epoch base recs = some (body2 kind from0 inc lo hi seq target recs) := by
  rw [Bool.and_eq_true] at hl
  obtain ⟨hv, hsm⟩ := hl
  obtain ⟨v1, v2, v3, v4, v5, v6, v7, v8, v9, v10, v11, _, v12, v13⟩ := valid_facts hv
  have v14 := (okS_iff _ _).1 v7
  have hs := ((smallRecs_iff recs).1 hsm).2
  unfold Body13.f Body13.b
  have e : Go.IntKind.wrap .i64 (Go.IntKind.wrap .i64 (lo * 16) + hi) = lo * 16 + hi := by
    rw [wrap_small (lo * 16) (by omega) (by omega), wrap_small _ (by omega) (by omega)]
  have hlp := fun acc ha => Body13.loop (recs.length + 1) kind from0 inc lo hi seq target life epoch base recs (fun r hr => ⟨v13 r hr, hs r hr⟩) v12 (recs.length + 1) 0 acc (by omega) (by omega) ha
  rw [show ((0 : Nat) : Int) = 0 from rfl] at hlp
  simp only [List.drop_zero] at hlp
  rw [e, if_pos ⟨numOk_of (by omega) (by omega) (by omega) (by omega), tagOk_of (by omega) (by omega), roomy_of (by simp)⟩, if_pos ⟨numOk_of (by omega) (by omega) v3 (by omega), tagOk_of (by omega) (by omega), roomy_of (by simp [be_length])⟩,
    if_pos ⟨numOk_of (by omega) (by omega) v5 (by omega), tagOk_of (by omega) (by omega), roomy_of (by simp [be_length])⟩, if_pos ⟨numOk_of (by omega) (by omega) (by omega) (by omega), tagOk_of (by omega) (by omega), roomy_of (by simp [be_length])⟩]
  have n5 : numOk 2 seq = true := numOk_of (by omega) (by omega) v8 (by omega)
  have n6 : numOk 2 target = true := numOk_of (by omega) (by omega) v10 (by omega)
  cases h5 : hasF kind 0 <;> cases h6 : hasF kind 1
  · rw [if_neg (by simp), if_neg (by simp), hlp _ (by simp [be_length]; omega)]
    simp [body2, itB, h5, h6, List.append_assoc]
  · rw [if_neg (by simp), if_pos rfl, if_pos ⟨n6, tagOk_of (by omega) (by omega), roomy_of (by simp [be_length])⟩, hlp _ (by simp [be_length]; omega)]
    simp [body2, itB, h5, h6, List.append_assoc]
  · rw [if_pos rfl, if_pos ⟨n5, tagOk_of (by omega) (by omega), roomy_of (by simp [be_length])⟩, if_neg (by simp), hlp _ (by simp [be_length]; omega)]
    simp [body2, itB, h5, h6, List.append_assoc]
  · rw [if_pos rfl, if_pos ⟨n5, tagOk_of (by omega) (by omega), roomy_of (by simp [be_length])⟩, if_pos rfl, if_pos ⟨n6, tagOk_of (by omega) (by omega), roomy_of (by simp [be_length])⟩, hlp _ (by simp [be_length]; omega)]
    simp [body2, itB, h5, h6, List.append_assoc]
theorem Fits13.loop (fuel : Nat) (kind from0 inc lo hi seq target life epoch base : Int) (recs : LR) (hsm : smallRecs recs = true) (hv : validF kind from0 inc lo hi seq target life epoch base recs = true) : ∀ (k i : Nat), i ≤ recs.length → recs.length - i < k →
    Fits13.l4 fuel kind from0 inc lo hi seq target life epoch base recs k (i : Int) = some (if !fit2Go (recs.drop i) then false else decide (((body2 kind from0 inc lo hi seq target recs).length : Int) ≤ 65499)) := by
  intro k
  have hlen := ((smallRecs_iff recs).1 hsm).1
  induction k with
  | zero => intro i h1 h2; omega
  | succ k ih =>
    intro i h1 h2
    rw [Fits13.l4]
    unfold Fits13.b4
    by_cases hi' : i < recs.length
    · rw [if_pos (by simp; omega), idx_at, List.getElem?_eq_getElem hi', veil_eq]
      dsimp only
      rw [List.drop_eq_getElem_cons hi', fit2Go]
      have := ih (i + 1) (by omega) (by omega)
      rw [show ((i + 1 : Nat) : Int) = (i : Int) + 1 from by omega] at this
      rw [wrap_small ((i : Int) + 1) (by omega) (by omega), this]
      by_cases hc : decide (recs[i].2.1 > 4294967295) = true
      · rw [if_pos hc, if_pos hc]; rfl
      · rw [if_neg hc, if_neg hc]
    · rw [if_neg (by simp; omega), List.drop_of_length_le (by omega), hv, hsm]
      simp [fit2Go]
theorem Fits13.pure (kind from0 inc lo hi seq target life epoch base : Int) (recs : LR) (hl : smallRecs recs = true) :
    Fits13.f (recs.length + 1) kind from0 inc lo hi seq target life epoch base recs = some (fits13 kind from0 inc lo hi seq target life epoch base recs) := by
  unfold Fits13.f Fits13.b fits13
  rw [if_pos hl]
  cases hv : validF kind from0 inc lo hi seq target life epoch base recs
  · rfl
  have := Fits13.loop (recs.length + 1) kind from0 inc lo hi seq target life epoch base recs hl hv (recs.length + 1) 0 (by omega) (by omega)
  rw [show ((0 : Nat) : Int) = 0 from rfl, List.drop_zero] at this
  rw [this]
  cases (kind == 9) <;> cases (life != 0) <;> cases (epoch != 0) <;> cases (base != 0) <;> simp
end Go.Proofs.Ytlmljpmohljefaa
