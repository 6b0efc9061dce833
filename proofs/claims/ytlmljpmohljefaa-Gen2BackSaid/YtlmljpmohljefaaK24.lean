/- Gen2Reads and Gen2Back, as plain laws. -/
import Derived.Test.YtlmljpmohljefaaK23
set_option linter.unusedVariables false
set_option linter.unusedSimpArgs false
namespace Go.Proofs.Ytlmljpmohljefaa
open Go.Den
noncomputable def zerosM : Int × Int × Int × Int × Int × Int × Int × Int × Int × Int × LR × Bool := (0, 0, 0, 0, 0, 0, 0, 0, 0, 0, [], false)
theorem idx_get {α : Type} {l : List α} {i : Nat} {x : α} (h : l[i]? = some x) : idx l (i : Int) = some x := by rw [idx_at, h]
theorem Message.stepS (fuel : Nat) (b : List Int) (k : Nat) (l : LF) (tags : List Int) (i : Nat) (x : Int × List Int) (hl : l.length < 1000000000) (hx : l[i]? = some x) (ht : tags[i]? = some 5) (h7 : seven x.2 = true) (K f n lo hi s t : Int) (acc : LR) :
    law13_Message.l18 fuel b (k + 1) l (i : Int) tags K f n lo hi s t acc = law13_Message.l18 fuel b k l ((i + 1 : Nat) : Int) tags K f n lo hi (numB x.2) t acc := by
  have h1 : i < l.length := (List.getElem?_eq_some_iff.1 hx).1
  have h2 : i < tags.length := (List.getElem?_eq_some_iff.1 ht).1
  rw [law13_Message.l18]
  unfold law13_Message.b18
  simp only [veil_eq]
  rw [if_pos (by simp; omega), if_pos (by simp; omega), idx_get hx, idx_get ht]
  dsimp only
  rw [if_pos (by simp), law13_num.pure _ h7]
  dsimp only
  rw [wrap_small _ (by omega) (by omega)]
  rfl
theorem Message.stepT (fuel : Nat) (b : List Int) (k : Nat) (l : LF) (tags : List Int) (i : Nat) (x : Int × List Int) (hl : l.length < 1000000000) (hx : l[i]? = some x) (ht : tags[i]? = some 6) (h7 : seven x.2 = true) (K f n lo hi s t : Int) (acc : LR) :
    law13_Message.l18 fuel b (k + 1) l (i : Int) tags K f n lo hi s t acc = law13_Message.l18 fuel b k l ((i + 1 : Nat) : Int) tags K f n lo hi s (numB x.2) acc := by
  have h1 : i < l.length := (List.getElem?_eq_some_iff.1 hx).1
  have h2 : i < tags.length := (List.getElem?_eq_some_iff.1 ht).1
  rw [law13_Message.l18]
  unfold law13_Message.b18
  simp only [veil_eq]
  rw [if_pos (by simp; omega), if_pos (by simp; omega), idx_get hx, idx_get ht]
  dsimp only
  rw [if_neg (by simp), if_pos (by simp; omega), law13_num.pure _ h7]
  dsimp only
  rw [wrap_small _ (by omega) (by omega)]
  rfl
theorem first_byte {b : List Int} (hb : inS b = true) (h0 : (splitF b).2 = 0) {K : Int} {m : LF} (h : hit 1 1 (splitF b).1 = some (K, m)) : b.getD 3 0 = K := by
  have hf := split_flds b hb
  obtain ⟨e, _⟩ := hit_flat hf (by omega) (by omega) h
  obtain ⟨x, e1, rfl, _, d⟩ := hit_some h
  have q := byte_of hf (x := x) (by rw [e1]; simp) d
  rw [split_flat b hb h0] at e
  rw [e]
  unfold itB
  rw [show (1 : Int).toNat = 1 from rfl, be1 _ q.1 (by omega)]
  rfl
theorem law13_Message.pure (b : List Int) (hb : inS b = true) :
    law13_Message.f BIG b = some (match msgP b with | none => zerosM | some (K, f, i, c, s, t, m) => finR K f i (c / 16) (c % 16) s t (recsR m)) := by
  have hbl := ((inS_iff b).1 hb).2
  have hf := split_flds b hb
  have hsl := split_len b hb
  unfold law13_Message.f law13_Message.b
  simp only [veil_eq]
  by_cases h4 : b.length < 4
  · rw [if_pos (by simp; omega)]
    cases hP : msgP b with
    | none => rfl
    | some p =>
      obtain ⟨K, f, i, c, s, t, m⟩ := p
      have := (msgP_facts hb hP).2.2.2.2
      have := congrArg List.length this
      simp [itB, be] at this
      omega
  rw [if_neg (by simp; omega)]
  by_cases hL : b.length > 65499
  · rw [if_pos (by simp; omega)]
    have : msgP b = none := by
      unfold msgP
      rw [if_pos (by simp; omega)]
    rw [this]
    rfl
  have hi3 : idx b (3 : Int) = some (b.getD 3 0) := getD_idx b 3 (by omega)
  rw [if_neg (by simp; omega), hi3]
  dsimp only
  have hby := inB_bytes ((inS_iff b).1 hb).1 (b.getD 3 0) (by
    rw [List.getD_eq_getElem?_getD, List.getElem?_eq_getElem (by omega)]; exact List.getElem_mem _)
  rw [wrap_small (b.getD 3 0) (by omega) (by omega)]
  have r1 : law13_rows.f BIG b [1, 2, 3, 4] [1, 2, 6, 1] = some (rowsF b [(1, 1), (2, 2), (3, 6), (4, 1)]) := law13_rows.pure b [1, 2, 3, 4] [1, 2, 6, 1] hb rfl (by simp)
  have r2 : law13_rows.f BIG b ([1, 2, 3, 4] ++ [5]) ([1, 2, 6, 1] ++ [2]) = some (rowsF b [(1, 1), (2, 2), (3, 6), (4, 1), (5, 2)]) := law13_rows.pure b [1, 2, 3, 4, 5] [1, 2, 6, 1, 2] hb rfl (by simp)
  have r3 : law13_rows.f BIG b ([1, 2, 3, 4] ++ [6]) ([1, 2, 6, 1] ++ [2]) = some (rowsF b [(1, 1), (2, 2), (3, 6), (4, 1), (6, 2)]) := law13_rows.pure b [1, 2, 3, 4, 6] [1, 2, 6, 1, 2] hb rfl (by simp)
  have r4 : law13_rows.f BIG b (([1, 2, 3, 4] ++ [5]) ++ [6]) (([1, 2, 6, 1] ++ [2]) ++ [2]) = some (rowsF b [(1, 1), (2, 2), (3, 6), (4, 1), (5, 2), (6, 2)]) := law13_rows.pure b [1, 2, 3, 4, 5, 6] [1, 2, 6, 1, 2, 2] hb rfl (by simp)
  rw [r1, r2, r3, r4]
  clear r1 r2 r3 r4
  dsimp only
  have fail : ∀ (h : msgP b = none) (hr : ∀ tw, rowsF b ((1, 1) :: (2, 2) :: (3, 6) :: (4, 1) :: tw) = ([], false)), True := fun _ _ => trivial
  have miss : (∀ tw, rowsF b ((1, 1) :: (2, 2) :: (3, 6) :: (4, 1) :: tw) = ([], false)) → msgP b = none → ∀ (A B C D : Option (Int × Int × Int × Int × Int × Int × Int × Int × Int × Int × LR × Bool)), A = some zerosM → B = some zerosM → C = some zerosM → D = some zerosM →
      (if hasF (b.getD 3 0) 0 = true then (if hasF (b.getD 3 0) 1 = true then A else B) else (if hasF (b.getD 3 0) 1 = true then C else D)) = some (match msgP b with | none => zerosM | some (K, f, i, c, s, t, m) => finR K f i (c / 16) (c % 16) s t (recsR m)) := by
    intro _ h A B C D hA hB hC hD
    rw [h, hA, hB, hC, hD]
    split <;> split <;> rfl
  have hsucc : ∃ k, BIG = k + 1 + 1 := ⟨1099511627774, by rw [BIG_eq]⟩
  by_cases h0 : (splitF b).2 = 0
  · have h0' : ((splitF b).2 != 0) = false := by simp [h0]
    have rows0 : ∀ tw, rowsF b tw = if matchW tw (splitF b).1 = true then ((splitF b).1, true) else ([], false) := fun tw => by unfold rowsF; rw [h0']; rfl
    have msg0 : msgP b = match hit 1 1 (splitF b).1 with
      | none => none
      | some (K, m1) => match hit 2 2 m1 with
        | none => none
        | some (f, m2) => match hit 3 6 m2 with
          | none => none
          | some (i, m3) => match hit 4 1 m3 with
            | none => none
            | some (c, m4) => match optT (hasF K 0) 5 m4 with
              | none => none
              | some (s, m5) => match optT (hasF K 1) 6 m5 with
                | none => none
                | some (t, m6) => some (K, f, i, c, s, t, m6) := by
      have hc : ¬ (((splitF b).2 != 0 || decide ((b.length : Int) > 65499)) = true) := by rw [h0']; simp; omega
      rw [msgP, if_neg hc]
      rfl
    cases h1 : hit 1 1 (splitF b).1 with
    | none =>
      rw [h1] at msg0
      have hr : ∀ tw, rowsF b ((1, 1) :: (2, 2) :: (3, 6) :: (4, 1) :: tw) = ([], false) := fun tw => by
                    have hm : matchW ((1, 1) :: (2, 2) :: (3, 6) :: (4, 1) :: tw) (splitF b).1 = false := by rw [matchW_hit, h1]
                    rw [rows0, hm]
                    rfl
      simp only [hr]
      exact miss hr msg0 _ _ _ _ rfl rfl rfl rfl
    | some p1 =>
      obtain ⟨K, m1⟩ := p1
      rw [h1] at msg0
      dsimp only at msg0
      have hK := first_byte hb h0 h1
      cases h2 : hit 2 2 m1 with
      | none =>
        rw [h2] at msg0
        have hr : ∀ tw, rowsF b ((1, 1) :: (2, 2) :: (3, 6) :: (4, 1) :: tw) = ([], false) := fun tw => by
                    have hm : matchW ((1, 1) :: (2, 2) :: (3, 6) :: (4, 1) :: tw) (splitF b).1 = false := by rw [matchW_hit, h1]; dsimp only; rw [matchW_hit, h2]
                    rw [rows0, hm]
                    rfl
        simp only [hr]
        exact miss hr msg0 _ _ _ _ rfl rfl rfl rfl
      | some p2 =>
        obtain ⟨f, m2⟩ := p2
        rw [h2] at msg0
        dsimp only at msg0
        cases h3 : hit 3 6 m2 with
        | none =>
          rw [h3] at msg0
          have hr : ∀ tw, rowsF b ((1, 1) :: (2, 2) :: (3, 6) :: (4, 1) :: tw) = ([], false) := fun tw => by
                    have hm : matchW ((1, 1) :: (2, 2) :: (3, 6) :: (4, 1) :: tw) (splitF b).1 = false := by rw [matchW_hit, h1]; dsimp only; rw [matchW_hit, h2]; dsimp only; rw [matchW_hit, h3]
                    rw [rows0, hm]
                    rfl
          simp only [hr]
          exact miss hr msg0 _ _ _ _ rfl rfl rfl rfl
        | some p3 =>
          obtain ⟨i, m3⟩ := p3
          rw [h3] at msg0
          dsimp only at msg0
          cases h4' : hit 4 1 m3 with
          | none =>
            rw [h4'] at msg0
            have hr : ∀ tw, rowsF b ((1, 1) :: (2, 2) :: (3, 6) :: (4, 1) :: tw) = ([], false) := fun tw => by
                    have hm : matchW ((1, 1) :: (2, 2) :: (3, 6) :: (4, 1) :: tw) (splitF b).1 = false := by rw [matchW_hit, h1]; dsimp only; rw [matchW_hit, h2]; dsimp only; rw [matchW_hit, h3]; dsimp only; rw [matchW_hit, h4']
                    rw [rows0, hm]
                    rfl
            simp only [hr]
            exact miss hr msg0 _ _ _ _ rfl rfl rfl rfl
          | some p4 =>
            obtain ⟨c, m4⟩ := p4
            rw [h4'] at msg0
            dsimp only at msg0
            have hr : ∀ tw, rowsF b ((1, 1) :: (2, 2) :: (3, 6) :: (4, 1) :: tw) = if matchW tw m4 = true then ((splitF b).1, true) else ([], false) := fun tw => by
              have hm : matchW ((1, 1) :: (2, 2) :: (3, 6) :: (4, 1) :: tw) (splitF b).1 = matchW tw m4 := by rw [matchW_hit, h1]; dsimp only; rw [matchW_hit, h2]; dsimp only; rw [matchW_hit, h3]; dsimp only; rw [matchW_hit, h4']
              rw [rows0, hm]
            simp only [hr]
            rw [hK, msg0]
            obtain ⟨x1, e1, rfl, c1, d1⟩ := hit_some h1
            obtain ⟨x2, rfl, rfl, c2, d2⟩ := hit_some h2
            obtain ⟨x3, rfl, rfl, c3, d3⟩ := hit_some h3
            obtain ⟨x4, rfl, rfl, c4, d4⟩ := hit_some h4'
            have s2 := seven_of hf (x := x2) (by rw [e1]; simp) (by omega)
            have s3 := seven_of hf (x := x3) (by rw [e1]; simp) (by omega)
            have s4 := seven_of hf (x := x4) (by rw [e1]; simp) (by omega)
            obtain ⟨p4, q4⟩ := byte_of hf (x := x4) (by rw [e1]; simp) d4
            have g3 : idx (splitF b).1 (3 : Int) = some x4 := by rw [e1]; rfl
            have g1 : idx (splitF b).1 (1 : Int) = some x2 := by rw [e1]; rfl
            have g2 : idx (splitF b).1 (2 : Int) = some x3 := by rw [e1]; rfl
            have hlo : Go.IntKind.wrap .i64 (Int.tdiv (numB x4.2) 16) = numB x4.2 / 16 := by rw [Int.tdiv_eq_ediv_of_nonneg p4, wrap_small _ (by omega) (by omega)]
            have hhi : Int.tmod (numB x4.2) 16 = numB x4.2 % 16 := Int.tmod_eq_emod_of_nonneg p4
            have hlp := law13_Message.loop BIG b (splitF b).1
            obtain ⟨k0, hk0⟩ := hsucc
            cases hA : hasF (numB x1.2) 0 <;> cases hB : hasF (numB x1.2) 1
            · simp only [Bool.false_eq_true, if_false, matchW, if_true, Bool.not_true, g1, g2, g3, law13_num.pure _ s2, law13_num.pure _ s3, law13_num.pure _ s4, hlo, hhi, optT]
              have hl := hlp [1, 2, 3, 4] hf (by omega) (numB x1.2) (numB x2.2) (numB x3.2) (numB x4.2 / 16) (numB x4.2 % 16) 0 0 BIG 4 [] (by simp) (by rw [e1]; simp) (by rw [BIG_eq]; omega) (by simp) (by simp)
              rw [show ((4 : Nat) : Int) = 4 from rfl] at hl
              rw [hl, e1]
              simp
            · simp only [Bool.false_eq_true, if_false, if_true, optT]
              cases h6 : hit 6 2 m4 with
              | none =>
                have hm : matchW [(6, 2)] m4 = false := by rw [matchW_hit, h6]
                rw [hm]
                rfl
              | some p6 =>
                obtain ⟨t, m6⟩ := p6
                have hm : matchW [(6, 2)] m4 = true := by rw [matchW_hit, h6]; rfl
                rw [hm]
                obtain ⟨x6, rfl, rfl, c6, d6⟩ := hit_some h6
                have s6 := seven_of hf (x := x6) (by rw [e1]; simp) (by omega)
                simp only [matchW, if_true, Bool.not_true, Bool.false_eq_true, if_false, g1, g2, g3, law13_num.pure _ s2, law13_num.pure _ s3, law13_num.pure _ s4, hlo, hhi]
                have st := Message.stepT BIG b (k0 + 1) (splitF b).1 ([1, 2, 3, 4] ++ [6]) 4 x6 (by omega) (by rw [e1]; rfl) rfl s6 (numB x1.2) (numB x2.2) (numB x3.2) (numB x4.2 / 16) (numB x4.2 % 16) 0 0 []
                rw [← hk0] at st
                rw [show ((4 : Nat) : Int) = 4 from rfl] at st
                rw [st, hlp ([1, 2, 3, 4] ++ [6]) hf (by omega) _ _ _ _ _ _ _ (k0 + 1) 5 [] (by simp) (by rw [e1]; simp) (by rw [BIG_eq] at hk0; omega) (by simp) (by simp), e1]
                simp
            · simp only [Bool.false_eq_true, if_false, if_true, optT]
              cases h5 : hit 5 2 m4 with
              | none =>
                have hm : matchW [(5, 2)] m4 = false := by rw [matchW_hit, h5]
                rw [hm]
                rfl
              | some p5 =>
                obtain ⟨s, m5⟩ := p5
                have hm : matchW [(5, 2)] m4 = true := by rw [matchW_hit, h5]; rfl
                rw [hm]
                obtain ⟨x5, rfl, rfl, c5, d5⟩ := hit_some h5
                have s5 := seven_of hf (x := x5) (by rw [e1]; simp) (by omega)
                simp only [matchW, if_true, Bool.not_true, Bool.false_eq_true, if_false, g1, g2, g3, law13_num.pure _ s2, law13_num.pure _ s3, law13_num.pure _ s4, hlo, hhi]
                have st := Message.stepS BIG b (k0 + 1) (splitF b).1 ([1, 2, 3, 4] ++ [5]) 4 x5 (by omega) (by rw [e1]; rfl) rfl s5 (numB x1.2) (numB x2.2) (numB x3.2) (numB x4.2 / 16) (numB x4.2 % 16) 0 0 []
                rw [← hk0] at st
                rw [show ((4 : Nat) : Int) = 4 from rfl] at st
                rw [st, hlp ([1, 2, 3, 4] ++ [5]) hf (by omega) _ _ _ _ _ _ _ (k0 + 1) 5 [] (by simp) (by rw [e1]; simp) (by rw [BIG_eq] at hk0; omega) (by simp) (by simp), e1]
                simp
            · simp only [Bool.false_eq_true, if_false, if_true, optT]
              cases h5 : hit 5 2 m4 with
              | none =>
                have hm : matchW [(5, 2), (6, 2)] m4 = false := by rw [matchW_hit, h5]
                rw [hm]
                rfl
              | some p5 =>
                obtain ⟨s, m5⟩ := p5
                dsimp only
                cases h6 : hit 6 2 m5 with
                | none =>
                  have hm : matchW [(5, 2), (6, 2)] m4 = false := by rw [matchW_hit, h5]; dsimp only; rw [matchW_hit, h6]
                  rw [hm]
                  rfl
                | some p6 =>
                  obtain ⟨t, m6⟩ := p6
                  have hm : matchW [(5, 2), (6, 2)] m4 = true := by rw [matchW_hit, h5]; dsimp only; rw [matchW_hit, h6]; rfl
                  rw [hm]
                  obtain ⟨x5, rfl, rfl, c5, d5⟩ := hit_some h5
                  obtain ⟨x6, rfl, rfl, c6, d6⟩ := hit_some h6
                  have s5 := seven_of hf (x := x5) (by rw [e1]; simp) (by omega)
                  have s6 := seven_of hf (x := x6) (by rw [e1]; simp) (by omega)
                  simp only [matchW, if_true, Bool.not_true, Bool.false_eq_true, if_false, g1, g2, g3, law13_num.pure _ s2, law13_num.pure _ s3, law13_num.pure _ s4, hlo, hhi]
                  have st := Message.stepS BIG b (k0 + 1) (splitF b).1 ([1, 2, 3, 4] ++ [5] ++ [6]) 4 x5 (by omega) (by rw [e1]; rfl) rfl s5 (numB x1.2) (numB x2.2) (numB x3.2) (numB x4.2 / 16) (numB x4.2 % 16) 0 0 []
                  have st2 := Message.stepT BIG b k0 (splitF b).1 ([1, 2, 3, 4] ++ [5] ++ [6]) 5 x6 (by omega) (by rw [e1]; rfl) rfl s6 (numB x1.2) (numB x2.2) (numB x3.2) (numB x4.2 / 16) (numB x4.2 % 16) (numB x5.2) 0 []
                  rw [← hk0] at st
                  rw [show ((4 : Nat) : Int) = 4 from rfl] at st
                  rw [st, st2, hlp ([1, 2, 3, 4] ++ [5] ++ [6]) hf (by omega) _ _ _ _ _ _ _ k0 6 [] (by simp) (by rw [e1]; simp) (by rw [BIG_eq] at hk0; omega) (by simp) (by simp), e1]
                  simp
  · have h0' : ((splitF b).2 != 0) = true := by simp [h0]
    have hr : ∀ tw, rowsF b tw = ([], false) := fun tw => by unfold rowsF; rw [h0']; rfl
    have hP : msgP b = none := by unfold msgP; rw [h0']; rfl
    simp only [hr]
    exact miss (fun tw => hr _) hP _ _ _ _ rfl rfl rfl rfl
theorem Message_dec (b : List Int) (hb : inS b = true) : law13_Message.f BIG b = some (outM (decF2 b)) := by
  rw [law13_Message.pure b hb, dec2_eq]
  cases hP : msgP b with
  | none => rfl
  | some p =>
    obtain ⟨K, f, i, c, s, t, m⟩ := p
    dsimp only
    rw [fin_rel hb hP]
theorem dec2_fail (b : List Int) (h : (decF2 b).2.2.2.2.2.2.2.2 ≠ 0) : decF2 b = (0, 0, 0, 0, 0, 0, 0, [], 4) := by
  rw [dec2_eq] at h ⊢
  cases hP : msgP b with
  | none => rfl
  | some p =>
    obtain ⟨K, f, i, c, s, t, m⟩ := p
    rw [hP] at h
    dsimp only at h ⊢
    unfold end2 at h ⊢
    cases hr : recsD m with
    | none => rfl
    | some r =>
      rw [hr] at h
      dsimp only at h ⊢
      split
      · rename_i c; rw [if_pos c] at h; exact absurd rfl h
      · rfl
theorem Gen2Reads.pure (b : List Int) (hl : ∀ c ∈ b, 0 ≤ c ∧ c ≤ 255) : law13_Gen2Reads.f 0 b = some true := by
  unfold law13_Gen2Reads.f law13_Gen2Reads.b
  simp only [veil_eq]
  by_cases h : ((b.length : Nat) : Int) > 400
  · rw [if_pos (by simpa using h)]
  · have hb : inS b = true := inS_of hl (by omega)
    rw [if_neg (by simpa using h), if_pos hb, Message_dec b hb]
    dsimp only
    unfold outM
    dsimp only
    by_cases h0 : (decF2 b).2.2.2.2.2.2.2.2 = 0
    · obtain ⟨_, _, i3⟩ := image2 b hb h0
      simp [h0, i3, allGo_self]
    · rw [dec2_fail b h0]
      rfl
end Go.Proofs.Ytlmljpmohljefaa
