import Derived.Test.YtpgcdengljfojaaG10
set_option linter.unusedVariables false
set_option linter.unusedSimpArgs false
namespace Go.Proofs.Ytpgcdengljfojaa
open Go.Den
noncomputable def hasEnd (a b : Int) : Option Bool := if (okS a b) = true then some true else (if (codeF a b == (0 : Int)) = true then some true else some false)
theorem hasEnd_true (a b : Int) : hasEnd a b = some true := by
  unfold hasEnd
  split
  · rfl
  · rename_i h
    have : codeF a b = 0 := by unfold codeF; rw [if_pos (by simpa using h)]
    rw [this]; rfl
theorem SpanHas.st (a b g c : Int) (k : Nat) (x0 : Bool) (C : Int) (i : Nat) (hi : (i, C) = (0, 17) ∨ (i, C) = (1, 18) ∨ (i, C) = (2, 19) ∨ (i, C) = (3, 34) ∨ (i, C) = (4, 35) ∨ (i, C) = (5, 51)) :
    SpanHas.l6 9 a b g c (k + 1) x0 (i : Int) = (if (C == c) = true then SpanHas.l6 9 a b g c k true ((i + 1 : Nat) : Int) else SpanHas.l6 9 a b g c k x0 ((i + 1 : Nat) : Int)) := by
  rcases hi with e | e | e | e | e | e <;> (cases e; kernel_rfl)
theorem SpanHas.go (a b g c : Int) : SpanHas.l6 9 a b g c 9 false 0 = hasEnd a b := by
  by_cases h : c = 17 ∨ c = 18 ∨ c = 19 ∨ c = 34 ∨ c = 35 ∨ c = 51
  · rcases h with e | e | e | e | e | e <;> (subst e; kernel_rfl)
  · have n : ∀ C, C = 17 ∨ C = 18 ∨ C = 19 ∨ C = 34 ∨ C = 35 ∨ C = 51 → ¬ ((C == c) = true) := by
      intro C hC e
      have : C = c := by simpa using e
      subst this
      exact h hC
    have s0 := SpanHas.st a b g c 8 false 17 0 (.inl rfl)
    have s1 := SpanHas.st a b g c 7 false 18 1 (.inr (.inl rfl))
    have s2 := SpanHas.st a b g c 6 false 19 2 (.inr (.inr (.inl rfl)))
    have s3 := SpanHas.st a b g c 5 false 34 3 (.inr (.inr (.inr (.inl rfl))))
    have s4 := SpanHas.st a b g c 4 false 35 4 (.inr (.inr (.inr (.inr (.inl rfl)))))
    have s5 := SpanHas.st a b g c 3 false 51 5 (.inr (.inr (.inr (.inr (.inr rfl)))))
    rw [if_neg (n _ (by simp))] at s0 s1 s2 s3 s4 s5
    have e0 : SpanHas.l6 9 a b g c 9 false 0 = SpanHas.l6 9 a b g c 3 false ((6 : Nat) : Int) := s0.trans (s1.trans (s2.trans (s3.trans (s4.trans s5))))
    rw [e0]
    have ho : ofGo allF c = (0, 0, false) := by
      have c1 : codeF 1 1 = 17 := by kernel_rfl
      have c2 : codeF 1 2 = 18 := by kernel_rfl
      have c3 : codeF 1 3 = 19 := by kernel_rfl
      have c4 : codeF 2 2 = 34 := by kernel_rfl
      have c5 : codeF 2 3 = 35 := by kernel_rfl
      have c6 : codeF 3 3 = 51 := by kernel_rfl
      unfold allF ofGo ofGo ofGo ofGo ofGo ofGo ofGo
      simp only [c1, c2, c3, c4, c5, c6]
      rw [if_neg (n 17 (by simp)), if_neg (n 18 (by simp)), if_neg (n 19 (by simp)), if_neg (n 34 (by simp)), if_neg (n 35 (by simp)), if_neg (n 51 (by simp))]
    rw [SpanHas.l6]
    unfold SpanHas.b6
    rw [if_neg (by decide), ho]
    rfl
theorem SpanHas.pure (a b g c : Int) : SpanHas.f 9 a b g c = some true := by
  unfold SpanHas.f SpanHas.b
  have e := (SpanHas.go a b g c).trans (hasEnd_true a b)
  rw [if_neg (by show ¬ (!(okS a b == okS a b)) = true; simp)]
  cases h : okS a b
  · simp [h, e]
  · by_cases h1 : a ≤ g <;> simp [h, e, h1]

theorem bytes_eq (s t : ByteArray) : (s.toList == t.toList) = true ↔ s = t := by
  rw [beq_iff_eq, ByteArray.toList_eq, ByteArray.toList_eq]
  exact ⟨Go.WideShapes.bytes_inj, fun h => by rw [h]⟩

theorem parse_text {x y : Int} (h : okS x y = true) : parseF (textF x y) = (x, y, 0) := by
  rcases okS_cases h with e | e | e | e | e | e <;> (cases e; kernel_rfl)

theorem index_mem {l : List (Int × Int)} {a b : Int} (h : ¬ indexF l a b < 0) : (a, b) ∈ l := by
  unfold indexF at h
  split at h
  · rename_i i hi
    obtain ⟨h1, h2, _⟩ := List.findIdx?_eq_some_iff_getElem.1 hi
    have : l[i] = (a, b) := by simpa using h2
    rw [← this]
    exact List.getElem_mem h1
  · omega

theorem parse_cases (t : ByteArray) : (∃ x y, okS x y = true ∧ t = textF x y) ∨ (parseF t = (0, 0, 4) ∧ ∀ x y, okS x y = true → t ≠ textF x y) := by
  by_cases hx : ∃ x y, okS x y = true ∧ t = textF x y
  · exact .inl hx
  · right
    refine ⟨?_, fun x y h e => hx ⟨x, y, h, e⟩⟩
    unfold parseF
    by_cases h3 : t.size = 3
    · rw [if_neg (by omega)]
      by_cases h45 : (t.data.toList.getD 1 0).toNat = 45
      · rw [if_neg (by omega)]
        by_cases hi : indexF allF (digF t 0) (digF t 2) < 0
        · rw [if_pos hi]
        · exfalso
          have hm := index_mem hi
          have hl : t.data.toList.length = 3 := by simpa using h3
          obtain ⟨x, y, z, hxyz⟩ : ∃ x y z, t.data.toList = [x, y, z] := by
            match hd : t.data.toList, hl with
            | [x, y, z], _ => exact ⟨x, y, z, rfl⟩
          simp only [digF, hxyz, List.getD_cons_zero, List.getD_cons_succ] at hm h45
          have hok : okS ((x.toNat : Int) - 48) ((z.toNat : Int) - 48) = true := by
            generalize (x.toNat : Int) - 48 = p at hm
            generalize (z.toNat : Int) - 48 = q at hm
            simp only [allF, List.mem_cons, Prod.mk.injEq, List.not_mem_nil, or_false] at hm
            rw [okS_iff]
            omega
          refine hx ⟨_, _, hok, ?_⟩
          unfold textF
          rw [if_pos hok]
          apply Go.WideShapes.bytes_inj
          rw [hxyz]
          have ok2 := (okS_iff _ _).1 hok
          have e1 : chr (48 + ((x.toNat : Int) - 48)) = x := by
            unfold chr
            rw [show (48 + ((x.toNat : Int) - 48)).toNat = x.toNat from by omega]
            simp
          have e2 : chr (48 + ((z.toNat : Int) - 48)) = z := by
            unfold chr
            rw [show (48 + ((z.toNat : Int) - 48)).toNat = z.toNat from by omega]
            simp
          have e3 : y = 45 := by
            apply UInt8.toNat_inj.1
            rw [h45]; rfl
          rw [e1, e2, e3]
      · rw [if_pos (by omega)]
    · rw [if_pos h3]

theorem SpanTexts.st (a b : Int) (t : ByteArray) (k i : Nat) (x y : Int) (hi : (i, x, y) = (0, 1, 1) ∨ (i, x, y) = (1, 1, 2) ∨ (i, x, y) = (2, 1, 3) ∨ (i, x, y) = (3, 2, 2) ∨ (i, x, y) = (4, 2, 3) ∨ (i, x, y) = (5, 3, 3)) :
    SpanTexts.l13 9 a b t (k + 1) (i : Int) = (if ((textF x y).toList == t.toList) = true then some false else SpanTexts.l13 9 a b t k ((i + 1 : Nat) : Int)) := by
  rcases hi with e | e | e | e | e | e <;> (cases e; kernel_rfl)

noncomputable def txtEnd (t : ByteArray) : Option Bool := if (okS (parseF t).1 (parseF t).2.1) = true then (if ((textF (parseF t).1 (parseF t).2.1).toList == t.toList) = true then some true else some false) else some false

theorem SpanTexts.tail (a b : Int) (t : ByteArray) : (if ((parseF t).2.2 != (0 : Int)) = true then SpanTexts.l13 9 a b t 9 (0 : Int) else txtEnd t) = some true := by
  rcases parse_cases t with ⟨x, y, h, rfl⟩ | ⟨h, hn⟩
  · unfold txtEnd
    rw [parse_text h, if_neg (by simp)]
    simp only
    rw [if_pos h, if_pos ((bytes_eq _ _).2 rfl)]
  · rw [h, if_pos (by simp)]
    have n : ∀ x y, okS x y = true → ¬ (((textF x y).toList == t.toList) = true) := fun x y hk e => hn x y hk ((bytes_eq _ _).1 e).symm
    have s0 := SpanTexts.st a b t 8 0 1 1 (.inl rfl)
    have s1 := SpanTexts.st a b t 7 1 1 2 (.inr (.inl rfl))
    have s2 := SpanTexts.st a b t 6 2 1 3 (.inr (.inr (.inl rfl)))
    have s3 := SpanTexts.st a b t 5 3 2 2 (.inr (.inr (.inr (.inl rfl))))
    have s4 := SpanTexts.st a b t 4 4 2 3 (.inr (.inr (.inr (.inr (.inl rfl)))))
    have s5 := SpanTexts.st a b t 3 5 3 3 (.inr (.inr (.inr (.inr (.inr rfl)))))
    rw [if_neg (n _ _ (by rfl))] at s0 s1 s2 s3 s4 s5
    have e0 : SpanTexts.l13 9 a b t 9 0 = SpanTexts.l13 9 a b t 3 ((6 : Nat) : Int) := s0.trans (s1.trans (s2.trans (s3.trans (s4.trans s5))))
    rw [e0, SpanTexts.l13]
    unfold SpanTexts.b13
    rw [if_neg (by decide), h]
    rfl

theorem SpanTexts.pure (a b : Int) (t : ByteArray) : SpanTexts.f 9 a b t = some true := by
  unfold SpanTexts.f SpanTexts.b
  have tl := SpanTexts.tail a b t
  by_cases hs : t.size ≤ 20
  · rw [if_neg (by simp; omega)]
    cases h : okS a b
    · rw [if_neg (by simp), if_neg (by simp [textF, h])]
      exact tl
    · rw [if_pos rfl]
      have hp := parse_text h
      rw [hp]
      rw [if_neg (by simp), if_neg (by simp)]
      rcases okS_cases h with e | e | e | e | e | e <;> (cases e; exact tl)
  · rw [if_pos (by simp; omega)]
end Go.Proofs.Ytpgcdengljfojaa
