import Derived.Test.YtlmljpmohljefaaC8
set_option linter.unusedVariables false
set_option linter.unusedSimpArgs false
namespace Go.Proofs.Ytlmljpmohljefaa
open Go.Den
theorem small_iff (l : List Int) : small l = true ↔ l.length < 281474976710656 := by unfold small; simp
theorem IsNaN.pure (x : Int) : IsNaN.f 0 x = some false := by
  unfold IsNaN.f IsNaN.b
  simp
theorem CmpB.pure (x y : Int) : CmpB.f 0 x y = some (if decide (x < y) then -1 else if decide (x > y) then 1 else 0) := by
  unfold CmpB.f CmpB.b
  split
  · rfl
  · split <;> rfl
theorem SlCmp.loop (fuel : Nat) (l m : List Int) (h1 : l.length < 281474976710656) : ∀ (k i : Nat), i ≤ l.length → i ≤ m.length → l.length - i < k → SlCmp.l2 fuel l m k (l.length : Int) (i : Int) = some (lexB (l.drop i) (m.drop i)) := by
  intro k
  induction k with
  | zero => intro i a b c; omega
  | succ k ih =>
    intro i a b c
    rw [SlCmp.l2]
    unfold SlCmp.b2
    by_cases hi : i < l.length
    · rw [if_pos (by simp; omega), idx_at, List.getElem?_eq_getElem hi, List.drop_eq_getElem_cons hi]
      dsimp only
      by_cases hm : i < m.length
      · rw [if_neg (by simp; omega), idx_at, List.getElem?_eq_getElem hm, List.drop_eq_getElem_cons hm]
        dsimp only
        unfold lexB
        by_cases c1 : l[i] < m[i]
        · simp [c1]
        · by_cases c2 : l[i] > m[i]
          · simp [c1, c2]
          · simp only [c1, c2, decide_false, Bool.false_eq_true, if_false, bne_self_eq_false]
            rw [wrap_small _ (by omega) (by omega)]
            exact ih (i + 1) (by omega) (by omega) (by omega)
      · rw [if_pos (by simp; omega), List.drop_of_length_le (by omega : m.length ≤ i)]
        rfl
    · rw [if_neg (by simp; omega), List.drop_of_length_le (by omega : l.length ≤ i)]
      by_cases hm : i < m.length
      · rw [if_pos (by simp; omega), List.drop_eq_getElem_cons hm]
        rfl
      · rw [if_neg (by simp; omega), List.drop_of_length_le (by omega : m.length ≤ i)]
        rfl
theorem SlCmp.pure (l m : List Int) (hl : (small l && small m) = true) : SlCmp.f (l.length + 1) l m = some (lexB l m) := by
  rw [Bool.and_eq_true, small_iff, small_iff] at hl
  unfold SlCmp.f SlCmp.b
  exact SlCmp.loop _ l m hl.1 _ 0 (by omega) (by omega) (by omega)
theorem BSign.pure (t1 : Int) (d1 : List Int) (t2 : Int) (d2 : List Int) (hl : (small d1 && small d2) = true) : BSign.f 0 t1 d1 t2 d2 = some (signF t1 d1 t2 d2) := by
  unfold BSign.f BSign.b signF
  rw [hl]
  split
  · split <;> rfl
  · rfl
theorem small_of {b : List (Int × List Int)} (h : smallBag b = true) (i : Nat) (hi : i < b.length) : small b[i].2 = true := (small_iff _).2 (((smallBag_iff b).1 h).2 _ (List.getElem_mem hi))
theorem BCmp.loop (fuel : Nat) (a b : List (Int × List Int)) (ha : smallBag a = true) (hb : smallBag b = true) : ∀ (k i : Nat), i ≤ a.length → i ≤ b.length → a.length - i < k → BCmp.l2 fuel a b k (i : Int) = some (cmpGo (a.drop i) (b.drop i)) := by
  have hla := ((smallBag_iff a).1 ha).1
  intro k
  induction k with
  | zero => intro i h1 h2 h3; omega
  | succ k ih =>
    intro i h1 h2 h3
    rw [BCmp.l2]
    unfold BCmp.b2
    by_cases hi : i < a.length
    · rw [if_pos (by simp; omega)]
      by_cases hm : i < b.length
      · rw [if_pos (by simp; omega), idx_at, List.getElem?_eq_getElem hi, idx_at, List.getElem?_eq_getElem hm, List.drop_eq_getElem_cons hi, List.drop_eq_getElem_cons hm]
        dsimp only
        rw [small_of ha i hi, small_of hb i hm, Bool.and_self, if_pos rfl, wrap_small _ (by omega) (by omega)]
        unfold cmpGo
        split
        · rfl
        · exact ih (i + 1) (by omega) (by omega) (by omega)
      · rw [if_neg (by simp; omega), List.drop_eq_getElem_cons hi, List.drop_of_length_le (by omega : b.length ≤ i), if_neg (by simp; omega), if_pos (by simp; omega)]
        rfl
    · rw [if_neg (by simp; omega), List.drop_of_length_le (by omega : a.length ≤ i)]
      by_cases hm : i < b.length
      · rw [if_pos (by simp; omega), List.drop_eq_getElem_cons hm]
        rfl
      · rw [if_neg (by simp; omega), if_neg (by simp; omega), List.drop_of_length_le (by omega : b.length ≤ i)]
        rfl
theorem BCmp.pure (a b : List (Int × List Int)) (hl : (smallBag a && smallBag b) = true) : BCmp.f (a.length + 1) a b = some (cmpGo a b) := by
  rw [Bool.and_eq_true] at hl
  unfold BCmp.f BCmp.b
  exact BCmp.loop _ a b hl.1 hl.2 _ 0 (by omega) (by omega) (by omega)
theorem BSame.pure (a b : List (Int × List Int)) (hl : (smallBag a && smallBag b) = true) : BSame.f 0 a b = some (cmpGo a b == 0) := by
  unfold BSame.f BSame.b
  rw [hl]; rfl
theorem Alike8.pure (rid rinc rst rlo rhi : Int) (rcut : Bool) (rbag : List (Int × List Int)) (sid sinc sst slo shi : Int) (scut : Bool) (sbag : List (Int × List Int)) (hl : (smallBag rbag && smallBag sbag) = true) :
    Alike8.f 0 rid rinc rst rlo rhi rcut rbag sid sinc sst slo shi scut sbag = some (alike8 (rid, rinc, rst, (rlo, rhi), rcut, rbag) (sid, sinc, sst, (slo, shi), scut, sbag)) := by
  unfold Alike8.f Alike8.b alike8
  rw [hl]
  dsimp only
  cases (rid == sid)
  · rfl
  cases (rinc == sinc)
  · rfl
  cases (rst == sst)
  · rfl
  cases (rlo == slo)
  · rfl
  cases (rhi == shi)
  · rfl
  cases (rcut == scut) <;> rfl
theorem AllAl.loop (fuel : Nat) (l m : List (Int × Int × Int × (Int × Int) × Bool × List (Int × List Int))) (hl : smallRecs l = true) (hm : smallRecs m = true) (he : l.length = m.length) : ∀ (k i : Nat), i ≤ l.length → l.length - i < k → AllAl.l4 fuel l m k (i : Int) = some (allGo (l.drop i) (m.drop i)) := by
  obtain ⟨h1, h2⟩ := (smallRecs_iff l).1 hl
  obtain ⟨h3, h4⟩ := (smallRecs_iff m).1 hm
  intro k
  induction k with
  | zero => intro i a b; omega
  | succ k ih =>
    intro i a b
    rw [AllAl.l4]
    unfold AllAl.b4
    by_cases hi : i < l.length
    · rw [if_pos (by simp; omega), idx_at, List.getElem?_eq_getElem hi, idx_at, List.getElem?_eq_getElem (by omega), List.drop_eq_getElem_cons hi, List.drop_eq_getElem_cons (by omega : i < m.length)]
      dsimp only
      rw [h2 l[i] (List.getElem_mem hi), h4 m[i] (List.getElem_mem (by omega)), Bool.and_self, if_pos rfl, wrap_small _ (by omega) (by omega)]
      unfold allGo
      cases alike8 l[i] m[i]
      · rfl
      · exact ih (i + 1) (by omega) (by omega)
    · rw [if_neg (by simp; omega), List.drop_of_length_le (by omega : l.length ≤ i), List.drop_of_length_le (by omega : m.length ≤ i)]
      rfl
theorem allGo_len : ∀ (l m : List (Int × Int × Int × (Int × Int) × Bool × List (Int × List Int))), l.length ≠ m.length → allGo l m = false
  | [], [], h => absurd rfl h
  | [], _ :: _, _ => rfl
  | _ :: _, [], _ => rfl
  | a :: l, b :: m, h => by
    unfold allGo
    rw [allGo_len l m (fun e => h (by simp [e])), Bool.and_false]
theorem AllAl.pure (l m : List (Int × Int × Int × (Int × Int) × Bool × List (Int × List Int))) (hl : (smallRecs l && smallRecs m) = true) : AllAl.f (l.length + 1) l m = some (allGo l m) := by
  rw [Bool.and_eq_true] at hl
  unfold AllAl.f AllAl.b
  by_cases h : l.length = m.length
  · rw [if_neg (by simp; omega)]
    exact AllAl.loop _ l m hl.1 hl.2 h _ 0 (by omega) (by omega)
  · rw [if_pos (by simp; omega), allGo_len l m h]
theorem Alike10.pure (mkind mfrom0 minc mlo mhi mseq mtarget mlife mepoch mbase : Int) (mrecs : List (Int × Int × Int × (Int × Int) × Bool × List (Int × List Int))) (nkind nfrom0 ninc nlo nhi nseq ntarget nlife nepoch nbase : Int) (nrecs : List (Int × Int × Int × (Int × Int) × Bool × List (Int × List Int))) (hl : (smallRecs mrecs && smallRecs nrecs) = true) :
    Alike10.f 0 mkind mfrom0 minc mlo mhi mseq mtarget mlife mepoch mbase mrecs nkind nfrom0 ninc nlo nhi nseq ntarget nlife nepoch nbase nrecs = some (mkind == nkind && (mfrom0 == nfrom0 && (minc == ninc && (mlo == nlo && (mhi == nhi && (mseq == nseq && (mtarget == ntarget && (mlife == nlife && (mepoch == nepoch && (mbase == nbase && allGo mrecs nrecs)))))))))) := by
  unfold Alike10.f Alike10.b
  rw [hl]
  by_cases a1 : mkind = nkind
  case neg => simp [a1]
  by_cases a2 : mfrom0 = nfrom0
  case neg => simp [a1, a2]
  by_cases a3 : minc = ninc
  case neg => simp [a1, a2, a3]
  by_cases a4 : mlo = nlo
  case neg => simp [a1, a2, a3, a4]
  by_cases a5 : mhi = nhi
  case neg => simp [a1, a2, a3, a4, a5]
  by_cases a6 : mseq = nseq
  case neg => simp [a1, a2, a3, a4, a5, a6]
  by_cases a7 : mtarget = ntarget
  case neg => simp [a1, a2, a3, a4, a5, a6, a7]
  by_cases a8 : mlife = nlife
  case neg => simp [a1, a2, a3, a4, a5, a6, a7, a8]
  by_cases a9 : mepoch = nepoch
  case neg => simp [a1, a2, a3, a4, a5, a6, a7, a8, a9]
  by_cases a10 : mbase = nbase <;> simp [a1, a2, a3, a4, a5, a6, a7, a8, a9, a10]
theorem lexB_self : ∀ (l : List Int), lexB l l = 0
  | [] => rfl
  | x :: l => by
    unfold lexB
    simp [lexB_self l]
theorem cmpGo_self : ∀ (l : List (Int × List Int)), cmpGo l l = 0
  | [] => rfl
  | x :: l => by
    unfold cmpGo
    have : signF x.1 x.2 x.1 x.2 = 0 := by unfold signF; simp [lexB_self]
    rw [this]
    simp [cmpGo_self l]
theorem allGo_self : ∀ (l : List (Int × Int × Int × (Int × Int) × Bool × List (Int × List Int))), allGo l l = true
  | [] => rfl
  | a :: l => by
    unfold allGo alike8
    simp [cmpGo_self, allGo_self l]
end Go.Proofs.Ytlmljpmohljefaa
