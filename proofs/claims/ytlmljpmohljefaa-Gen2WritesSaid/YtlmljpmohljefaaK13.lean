import Derived.Test.YtlmljpmohljefaaC11
set_option linter.unusedVariables false
set_option linter.unusedSimpArgs false
namespace Go.Proofs.Ytlmljpmohljefaa
open Go.Den
theorem bagLen_cons (x : Int × List Int) (b : List (Int × List Int)) : bagLen (x :: b) = 3 + (x.2.length : Int) + bagLen b := by
  unfold bagLen; simp
theorem bagLen_nonneg (b : List (Int × List Int)) : 0 ≤ bagLen b := by unfold bagLen; omega
theorem bagGo_len : ∀ (l : List (Int × List Int)) (last size : Int), size ≤ 4096 → bagGo l last size = true → size + bagLen l ≤ 4096 + 3 * (l.length : Int)
  | [], last, size, h0, h => by simp [bagLen]; omega
  | x :: l, last, size, h0, h => by
    unfold bagGo at h
    split at h
    · cases h
    · split at h
      · cases h
      · rename_i h1 h2
        simp at h2
        have ih := bagGo_len l x.1 (size + (x.2.length : Int)) h2 h
        rw [bagLen_cons]
        simp
        omega
theorem bagOk_len {b : List (Int × List Int)} (h : bagOk b = true) : b.length ≤ 32 ∧ 0 ≤ bagLen b ∧ bagLen b ≤ 4192 := by
  unfold bagOk at h
  split at h
  · cases h
  · rename_i h1
    simp at h1
    have := bagGo_len b 32 0 (by omega) h
    have := bagLen_nonneg b
    omega
theorem bagFit_iff (b : List (Int × List Int)) : bagFit b = true ↔ bagOk b = true ∧ smallBag b = true := by unfold bagFit; simp
theorem RSize2.loop (fuel : Nat) (id inc st lo hi : Int) (cut : Bool) (bag : List (Int × List Int)) (hb : bag.length ≤ 32) : ∀ (k i : Nat) (n : Int), i ≤ bag.length → bag.length - i < k → 0 ≤ n → n + bagLen (bag.drop i) < 1000000 →
    RSize2.l3 fuel id inc st lo hi cut bag k n (bag.length : Int) (i : Int) = some (n + bagLen (bag.drop i)) := by
  intro k
  induction k with
  | zero => intro i n h1 h2; omega
  | succ k ih =>
    intro i n h1 h2 h3 h4
    rw [RSize2.l3]
    unfold RSize2.b3
    by_cases hi' : i < bag.length
    · rw [if_pos (by simp; omega), idx_at, List.getElem?_eq_getElem hi']
      dsimp only
      rw [List.drop_eq_getElem_cons hi', bagLen_cons] at h4 ⊢
      have hn := bagLen_nonneg (bag.drop (i + 1))
      rw [wrap_small (3 + _) (by omega) (by omega), wrap_small (n + _) (by omega) (by omega), wrap_small ((i : Int) + 1) (by omega) (by omega)]
      have := ih (i + 1) (n + (3 + (bag[i].2.length : Int))) (by omega) (by omega) (by omega) (by omega)
      rw [show ((i + 1 : Nat) : Int) = (i : Int) + 1 from by omega] at this
      rw [this]
      congr 1
      omega
    · rw [if_neg (by simp; omega), List.drop_of_length_le (by omega)]
      simp [bagLen]
theorem RSize2.pure (id inc st lo hi : Int) (cut : Bool) (bag : List (Int × List Int)) (hl : bagFit bag = true) :
    RSize2.f (bag.length + 1) id inc st lo hi cut bag = some (recLen (id, inc, st, (lo, hi), cut, bag)) := by
  obtain ⟨h1, h2⟩ := (bagFit_iff bag).1 hl
  obtain ⟨b1, b2, b3⟩ := bagOk_len h1
  unfold RSize2.f RSize2.b
  have := RSize2.loop (bag.length + 1) id inc st lo hi cut bag b1 (bag.length + 1) 0 23 (by omega) (by omega) (by omega) (by rw [List.drop_zero]; omega)
  rw [List.drop_zero] at this
  exact this
theorem rec_eta (r : Int × Int × Int × (Int × Int) × Bool × List (Int × List Int)) : (r.1, r.2.1, r.2.2.1, (r.2.2.2.1.1, r.2.2.2.1.2), r.2.2.2.2.1, r.2.2.2.2.2) = r := rfl
abbrev LR := List (Int × Int × Int × (Int × Int) × Bool × List (Int × List Int))
theorem recLen_le {r : Int × Int × Int × (Int × Int) × Bool × List (Int × List Int)} (h : recOkT r = true) : 23 ≤ recLen r ∧ recLen r ≤ 4215 := by
  obtain ⟨_, _, _, _, _, _, _, f8, _⟩ := recOk_facts h
  have := bagOk_len f8
  unfold recLen
  omega
theorem recsLen_le : ∀ (l : LR), (∀ r ∈ l, recOkT r = true) → 0 ≤ recsLen l ∧ recsLen l ≤ 4215 * (l.length : Int)
  | [], h => by simp [recsLen]
  | r :: l, h => by
    have h1 := recLen_le (h r (by simp))
    have h2 := recsLen_le l (fun r hr => h r (by simp [hr]))
    simp [recsLen]
    omega
theorem Size2.loop (fuel : Nat) (kind from0 inc lo hi seq target life epoch base : Int) (recs : LR) (hr : ∀ r ∈ recs, recOkT r = true ∧ smallBag r.2.2.2.2.2 = true) (hlen : recs.length ≤ 255) : ∀ (k i : Nat) (n : Int), i ≤ recs.length → recs.length - i < k → 0 ≤ n → n + recsLen (recs.drop i) < 2000000 →
    Size2.l9 fuel kind from0 inc lo hi seq target life epoch base recs k n (recs.length : Int) (i : Int) = some (n + recsLen (recs.drop i)) := by
  intro k
  induction k with
  | zero => intro i n h1 h2; omega
  | succ k ih =>
    intro i n h1 h2 h3 h4
    rw [Size2.l9]
    unfold Size2.b9
    by_cases hi' : i < recs.length
    · rw [if_pos (by simp; omega), idx_at, List.getElem?_eq_getElem hi']
      dsimp only
      rw [List.drop_eq_getElem_cons hi'] at h4 ⊢
      have hn := recsLen_le (recs.drop (i + 1)) (fun r hm => (hr r (List.mem_of_mem_drop hm)).1)
      obtain ⟨hok, hs⟩ := hr recs[i] (List.getElem_mem hi')
      have hfit : bagFit recs[i].2.2.2.2.2 = true := (bagFit_iff _).2 ⟨(recOk_facts hok).2.2.2.2.2.2.2.1, hs⟩
      have hq := recLen_le hok
      simp only [recsLen] at h4 ⊢
      rw [rec_eta, if_pos hfit, wrap_small (n + _) (by omega) (by omega), wrap_small ((i : Int) + 1) (by omega) (by omega)]
      have := ih (i + 1) (n + recLen recs[i]) (by omega) (by omega) (by omega) (by omega)
      rw [show ((i + 1 : Nat) : Int) = (i : Int) + 1 from by omega] at this
      rw [this]
      congr 1
      omega
    · rw [if_neg (by simp; omega), List.drop_of_length_le (by omega)]
      simp [recsLen]
theorem Size2.pure (kind from0 inc lo hi seq target life epoch base : Int) (recs : LR) (hl : smallRecs recs = true) :
    Size2.f (recs.length + 1) kind from0 inc lo hi seq target life epoch base recs = some (size2 kind from0 inc lo hi seq target life epoch base recs) := by
  unfold Size2.f Size2.b size2
  rw [if_pos hl]
  cases hv : validF kind from0 inc lo hi seq target life epoch base recs
  · rfl
  obtain ⟨v1, v2, v3, v4, v5, v6, v7, v8, v9, v10, v11, _, v12, v13⟩ := valid_facts hv
  have hs := ((smallRecs_iff recs).1 hl).2
  have hn := recsLen_le recs v13
  have hlp := fun n h0 h1 => Size2.loop (recs.length + 1) kind from0 inc lo hi seq target life epoch base recs (fun r hr => ⟨v13 r hr, hs r hr⟩) v12 (recs.length + 1) 0 n (by omega) (by omega) h0 h1
  simp only [List.drop_zero] at hlp
  have w1 : Go.IntKind.wrap .i64 (22 + 5) = 27 := rfl
  have w2 : Go.IntKind.wrap .i64 (27 + 5) = 32 := rfl
  have hz : ((0 : Nat) : Int) = 0 := rfl
  rw [hz] at hlp
  simp only [w1, w2, hlp 22 (by omega) (by omega), hlp 27 (by omega) (by omega), hlp 32 (by omega) (by omega)]
  cases hasF kind 0 <;> cases hasF kind 1 <;> simp
theorem Fits2.loop (fuel : Nat) (kind from0 inc lo hi seq target life epoch base : Int) (recs : LR) (hlen : recs.length < 281474976710656) : ∀ (k i : Nat), i ≤ recs.length → recs.length - i < k →
    Fits2.l4 fuel kind from0 inc lo hi seq target life epoch base recs k (recs.length : Int) (i : Int) = some (fit2Go (recs.drop i)) := by
  intro k
  induction k with
  | zero => intro i h1 h2; omega
  | succ k ih =>
    intro i h1 h2
    rw [Fits2.l4]
    unfold Fits2.b4
    by_cases hi' : i < recs.length
    · rw [if_pos (by simp; omega), idx_at, List.getElem?_eq_getElem hi', veil_eq]
      dsimp only
      rw [List.drop_eq_getElem_cons hi', fit2Go]
      have := ih (i + 1) (by omega) (by omega)
      rw [show ((i + 1 : Nat) : Int) = (i : Int) + 1 from by omega] at this
      rw [wrap_small ((i : Int) + 1) (by omega) (by omega), this]
      split <;> rfl
    · rw [if_neg (by simp; omega), List.drop_of_length_le (by omega)]
      rfl
theorem Fits2.pure (kind from0 inc lo hi seq target life epoch base : Int) (recs : LR) (hl : smallRecs recs = true) :
    Fits2.f (recs.length + 1) kind from0 inc lo hi seq target life epoch base recs = some (fits2 kind from0 inc lo hi seq target life epoch base recs) := by
  unfold Fits2.f Fits2.b fits2
  have := Fits2.loop (recs.length + 1) kind from0 inc lo hi seq target life epoch base recs ((smallRecs_iff recs).1 hl).1 (recs.length + 1) 0 (by omega) (by omega)
  rw [show ((0 : Nat) : Int) = 0 from rfl, List.drop_zero] at this
  rw [if_pos hl, this]
  cases validF kind from0 inc lo hi seq target life epoch base recs <;> cases (kind == 9) <;> cases (epoch != 0) <;> cases (decide (size2 kind from0 inc lo hi seq target life epoch base recs > 65499)) <;> simp [hl]
theorem tagOk_iff (t : Int) : tagOk t = true ↔ 0 ≤ t ∧ t ≤ 255 := by unfold tagOk; simp
theorem Item13.loop (fuel : Nat) (t n v0 : Int) (l : List Int) (ht : 0 ≤ t ∧ t ≤ 255) (hn : 0 ≤ n ∧ n ≤ 7) (hr : roomy l = true) : ∀ (k i : Nat) (v : Int) (d : List Int), i < k → i ≤ d.length → d.length ≤ 7 → 0 ≤ v → v < 9223372036854775808 →
    Item13.l3 fuel t n v0 l k v ((i : Int) - 1) d = some (l ++ (t :: 0 :: n :: (be i v ++ d.drop i))) := by
  have hr' := (roomy_iff l).1 hr
  intro k
  induction k with
  | zero => intro i v d h1; omega
  | succ k ih =>
    intro i v d h1 h2 h3 h4 h5
    rw [Item13.l3]
    unfold Item13.b3
    cases i with
    | zero =>
      rw [if_neg (by simp), if_pos (by simp [lim]; omega), if_pos (by simp [lim]; omega), wrap8, wrap8, Int.emod_eq_of_lt (by omega) (by omega), Int.emod_eq_of_lt (by omega) (by omega)]
      simp [be]
    | succ i =>
      rw [show ((i + 1 : Nat) : Int) - 1 = (i : Int) from by omega]
      rw [if_pos (by simp), idx_at, List.getElem?_eq_getElem (by omega)]
      dsimp only
      have e1 : Int.tdiv v 256 = v / 256 := Int.tdiv_eq_ediv_of_nonneg h4
      have e2 : Int.tmod v 256 = v % 256 := Int.tmod_eq_emod_of_nonneg h4
      rw [e1, e2, wrap8, Int.emod_emod_of_dvd _ (Int.dvd_refl _), wrap_small (v / 256) (by omega) (by omega), wrap_small ((i : Int) - 1) (by omega) (by omega), Int.toNat_natCast]
      rw [ih i (v / 256) (d.set i (v % 256)) (by omega) (by simp; omega) (by simpa using h3) (by omega) (by omega)]
      have e3 : (d.set i (v % 256)).drop i = (v % 256) :: d.drop (i + 1) := by
        rw [List.drop_eq_getElem_cons (by simp; omega), List.getElem_set_self, List.drop_set_of_lt (by omega)]
      rw [e3]
      simp [be]
theorem numOk_iff (n v : Int) : numOk n v = true ↔ 1 ≤ n ∧ n ≤ 7 ∧ 0 ≤ v ∧ v < 9223372036854775808 := by unfold numOk; simp
theorem Item13.pure (t n v : Int) (l : List Int) (hf : numOk n v = true) (ht : tagOk t = true) (hr : roomy l = true) : Item13.f 9 t n v l = some (l ++ (t :: 0 :: n :: be n.toNat v)) := by
  obtain ⟨h1, h2, h3, h5⟩ := (numOk_iff n v).1 hf
  unfold Item13.f Item13.b
  rw [if_pos (by refine ⟨by omega, by omega, by omega, by omega⟩), wrap_small _ (by omega) (by omega)]
  have := Item13.loop 9 t n v l ((tagOk_iff t).1 ht) (by omega) hr 9 n.toNat v (List.replicate n.toNat (zeroI (.int .u8))) (by omega) (by simp) (by simp; omega) h3 h5
  rw [Int.toNat_of_nonneg (by omega)] at this
  rw [this]
  simp
theorem TNum.pure (t n v : Int) (hf : fitsF n v = true) : TNum.f 0 t n v = some (t, be n.toNat v) := by
  unfold TNum.f TNum.b
  have hr : roomy (be n.toNat v) = true := roomy_of (by rw [be_length]; have := (fitsF_iff n v).1 hf; omega)
  rw [if_pos hf, if_pos hr]
end Go.Proofs.Ytlmljpmohljefaa
