/- Gen3Image: whatever bytes and base are given, the law returns true, and the input reads as it did. There is no condition. -/
import Derived.Test.YtnlkghcibpopgaaZGen3Image3
set_option linter.unusedVariables false
set_option linter.unusedSimpArgs false
set_option maxRecDepth 100000
namespace Go.Proofs.Ytnlkghcibpopgaa
open Go.Den
theorem one12_good (bs : List Int) (hb : inB bs = true) (a0 : Int) (bad0 wr0 : Bool) (last : Int) (base : LR) (hbase : ∀ x ∈ base, recOkT x = true) (id0 : Int) (v : Int) (v0 : 0 ≤ v) (hv : flagBad (oldR base id0) v = false) (a : Nat) (ha : a ≤ bs.length) (id st lo hi oid ost olo ohi : Int) (ocut : Bool) :
    match (match tk bs a 562949953421310 with
      | none => none
      | some (z, a3) => match bagsS bs (oldR base id0) v a3 with
        | none => none
        | some (b, a4) => some ((oldR base id0).1.2.1 + zagF z, b, a4)) with
    | some (inc, b, a4) => gen3_reader_one.l12 BIG bs a0 bad0 wr0 last base BIG v (oldR base id0).2 false bs (a : Int) false id st lo hi (v / 4 % 2 == 1) oid (oldR base id0).1.2.1 ost olo ohi ocut (oldR base id0).1.2.2.2.2.2 = some (id, inc, st, lo, hi, (v / 4 % 2 == 1), b, false, bs, (a4 : Int), false)
    | none => OneBad bs (gen3_reader_one.l12 BIG bs a0 bad0 wr0 last base BIG v (oldR base id0).2 false bs (a : Int) false id st lo hi (v / 4 % 2 == 1) oid (oldR base id0).1.2.1 ost olo ohi ocut (oldR base id0).1.2.2.2.2.2) := by
  obtain ⟨hl, hc⟩ := (inB_iff bs).1 hb
  obtain ⟨f1, f2, f3⟩ := flagBad_no hv
  obtain ⟨o0, o1⟩ := old_inc hbase id0
  have hos := old_small hbase id0
  obtain ⟨_, _, _, b16⟩ := flags_at v v0 (by omega)
  have hg := form_good bs a 562949953421310 hb (by decide) (by decide) ha
  rw [gen3_reader_one.l12_at BIG BIG (BIG - 1) big_eq]
  unfold gen3_reader_one.b12
  simp only [veil_eq]
  generalize oldR base id0 = o at *
  cases ht : tk bs a 562949953421310 with
  | none =>
    rw [ht] at hg
    obtain ⟨a', bad, hg, h2⟩ := hg
    rw [hg]
    dsimp only
    obtain ⟨y, hy⟩ : ∃ y, varint_Zag.f BIG (Go.IntKind.wrap .u64 0) = some y := ⟨_, rfl⟩
    rw [hy]
    dsimp only
    cases (v / 4 % 2 == 1) with
    | true => exact ⟨_, _, _, _, _, _, _, a', bad, rfl, h2⟩
    | false =>
      rw [if_neg (c := false = true) (by simp)]
      split
      · exact ⟨_, _, _, _, _, _, _, a', bad, rfl, h2⟩
      · rw [fields_wrong]
        exact ⟨_, _, _, _, _, _, _, a', bad, rfl, h2⟩
  | some p =>
    obtain ⟨z, a3⟩ := p
    rw [ht] at hg
    dsimp only at hg ⊢
    obtain ⟨e1, z0, z1, _, _, l3⟩ := tk_facts hc ht
    have hz : -300000000000000 ≤ zagF z ∧ zagF z ≤ 300000000000000 := by unfold zagF; split <;> omega
    rw [hg]
    dsimp only
    rw [wrapU64 z z0 (by omega), Zag.pure z z0 (by omega)]
    dsimp only
    rw [wrap_small _ (by omega) (by omega), b16]
    unfold bagsS
    by_cases h4 : v / 4 % 2 = 1
    · rw [if_pos h4]
      have e4 : (v / 4 % 2 == 1) = true := by simpa using h4
      rw [e4]
      all_goals rfl
    · rw [if_neg h4]
      have e4 : (v / 4 % 2 == 1) = false := by simpa using h4
      rw [e4, if_neg (c := false = true) (by simp)]
      by_cases h16 : 16 ≤ v
      · rw [if_pos h16, if_pos (c := (v / 16 % 2 == 1) = true) (by simp; omega)]
      · rw [if_neg h16, if_neg (c := (v / 16 % 2 == 1) = true) (by simp; omega)]
        have hf := fields_good bs a3 hb l3
        cases hbg : bagS bs a3 with
        | none =>
          rw [hbg] at hf
          obtain ⟨a', bad', l, hf, h2⟩ := hf
          rw [hf]
          exact ⟨_, _, _, _, _, _, _, a', bad', rfl, h2⟩
        | some q =>
          obtain ⟨b, a4⟩ := q
          rw [hbg] at hf
          dsimp only at hf ⊢
          rw [hf]
          dsimp only
          obtain ⟨_, l4, n4, s4⟩ := bagS_sound hc hbg
          rw [if_neg (c := false = true) (by simp)]
          cases ho : o.2 with
          | false =>
            rw [if_neg (c := false = true) (by simp)]
            simp
          | true =>
            cases hcm : cmpGo b o.1.2.2.2.2.2 == 0 with
            | true =>
              simp only [bag_small n4 s4, hos, Bool.and_self, if_true]
              exact ⟨_, _, _, _, _, _, _, a4, false, rfl, l4⟩
            | false =>
              simp only [bag_small n4 s4, hos, Bool.and_self, Bool.and_false, if_true, Bool.false_eq_true, if_false]
theorem one8_bad (bs : List Int) (a0 : Int) (bad0 wr0 : Bool) (last : Int) (base : LR) (v : Int) (ok : Bool) (a : Nat) (bad : Bool) (id st : Int) (cut : Bool) (oid oinc ost olo ohi : Int) (ocut : Bool) (obag : LF) (hb : inB bs = true) (ha : a ≤ bs.length) (wr : Bool) (hw : wr = true ∨ (bad = true ∧ v = 0)) :
    OneBad bs (gen3_reader_one.l8 BIG bs a0 bad0 wr0 last base BIG v ok wr bs (a : Int) bad id st cut oid oinc ost olo ohi ocut obag) := by
  rw [gen3_reader_one.l8_at BIG BIG (BIG - 1) big_eq]
  unfold gen3_reader_one.b8
  simp only [veil_eq]
  by_cases h8 : (bits Go.BinOp.and .i64 v 8 != 0) = true
  · rw [if_pos h8]
    rcases hw with rfl | ⟨_, rfl⟩
    · exact one12_bad bs a0 bad0 wr0 last base v ok a bad id st _ _ cut oid oinc ost olo ohi ocut obag ha
    · exact absurd h8 (by decide)
  · rw [if_neg h8]
    have hr : Rel bs none wr (a : Int) bad := ⟨⟨a, rfl, ha⟩, by
      rcases hw with h | h
      · exact Or.inl h
      · exact Or.inr h.1⟩
    obtain ⟨lo, hi, wr', a', bad', e1, r1, _⟩ := span_rel hb hr
    rw [e1]
    dsimp only
    obtain ⟨⟨n, rfl, hn⟩, hor⟩ := r1
    have hwr : wr' = true := by
      -- a span that is not read is wrong
      have := e1
      unfold gen3_reader_span.f gen3_reader_span.b at this
      simp only [veil_eq] at this
      rw [if_pos ((atOk_iff _ _).2 ⟨hb, by omega, by omega⟩)] at this
      rcases hw with rfl | ⟨rfl, _⟩
      · have := (Option.some.inj this)
        simp only [Prod.mk.injEq] at this
        rw [← this.2.2.1]
      · rw [readF_bad] at this
        cases wr with
        | true =>
          have := (Option.some.inj this)
          simp only [Prod.mk.injEq] at this
          rw [← this.2.2.1]
        | false =>
          rw [if_neg (by simp)] at this
          have := (Option.some.inj this)
          simp only [Prod.mk.injEq] at this
          rw [← this.2.2.1, ofGo_ok3 0 (by omega) (by omega)]
          all_goals rfl
    subst hwr
    rw [if_pos rfl]
    exact one12_bad bs a0 bad0 wr0 last base v ok n bad' id st _ _ cut oid oinc ost olo ohi ocut obag hn
theorem span_good (bs : List Int) (a : Nat) (hb : inB bs = true) (ha : a ≤ bs.length) :
    match bs[a]? with
    | none => ∃ lo hi bad, gen3_reader_span.f BIG bs (a : Int) false false = some (lo, hi, true, bs, (a : Int), bad)
    | some c => if okS (c / 16) (c % 16) = true then gen3_reader_span.f BIG bs (a : Int) false false = some (c / 16, c % 16, false, bs, ((a + 1 : Nat) : Int), false)
      else ∃ lo hi, gen3_reader_span.f BIG bs (a : Int) false false = some (lo, hi, true, bs, ((a + 1 : Nat) : Int), false) := by
  obtain ⟨hl, hc⟩ := (inB_iff bs).1 hb
  unfold gen3_reader_span.f gen3_reader_span.b
  simp only [veil_eq]
  rw [if_pos ((atOk_iff _ _).2 ⟨hb, by omega, by omega⟩)]
  by_cases hlt : a < bs.length
  · rw [readF_one bs a hlt, List.getElem?_eq_getElem hlt]
    dsimp only
    obtain ⟨c0, c1⟩ := hc _ (List.getElem_mem hlt)
    have ht := ofGo_ok3 _ c0 c1
    have hd := ofGo_div _ c0 c1
    generalize bs[a] = c at c0 c1 ht hd ⊢
    rw [if_neg (c := false = true) (by simp), ht]
    cases ho : okS (c / 16) (c % 16) with
    | true => rw [if_pos rfl, hd.1 ho]; all_goals rfl
    | false => rw [if_neg (c := false = true) (by simp)]; exact ⟨_, _, rfl⟩
  · rw [readF_end bs a (by omega), List.getElem?_eq_none (by omega)]
    dsimp only
    rw [if_neg (c := false = true) (by simp), ofGo_ok3 0 (by omega) (by omega)]
    exact ⟨_, _, _, rfl⟩
theorem one8_good (bs : List Int) (hb : inB bs = true) (a0 : Int) (bad0 wr0 : Bool) (last : Int) (base : LR) (o : REC × Bool) (v : Int) (v0 : 0 ≤ v) (v1 : v ≤ 255) (a : Nat) (ha : a ≤ bs.length) (id st : Int) (cut : Bool) :
    match spanS bs o v a with
    | some (sp, a2) => gen3_reader_one.l8 BIG bs a0 bad0 wr0 last base BIG v o.2 false bs (a : Int) false id st cut o.1.1 o.1.2.1 o.1.2.2.1 o.1.2.2.2.1.1 o.1.2.2.2.1.2 o.1.2.2.2.2.1 o.1.2.2.2.2.2 =
        gen3_reader_one.l12 BIG bs a0 bad0 wr0 last base BIG v o.2 false bs (a2 : Int) false id st sp.1 sp.2 cut o.1.1 o.1.2.1 o.1.2.2.1 o.1.2.2.2.1.1 o.1.2.2.2.1.2 o.1.2.2.2.2.1 o.1.2.2.2.2.2 ∧ a2 ≤ bs.length
    | none => OneBad bs (gen3_reader_one.l8 BIG bs a0 bad0 wr0 last base BIG v o.2 false bs (a : Int) false id st cut o.1.1 o.1.2.1 o.1.2.2.1 o.1.2.2.2.1.1 o.1.2.2.2.1.2 o.1.2.2.2.2.1 o.1.2.2.2.2.2) := by
  obtain ⟨_, _, b8, _⟩ := flags_at v v0 v1
  have hs := span_good bs a hb ha
  rw [gen3_reader_one.l8_at BIG BIG (BIG - 1) big_eq]
  unfold gen3_reader_one.b8 spanS
  simp only [veil_eq]
  rw [b8]
  by_cases h8 : v / 8 % 2 = 1
  · rw [if_pos h8, if_pos (c := (v / 8 % 2 == 1) = true) (by simpa using h8)]
    exact ⟨rfl, ha⟩
  · rw [if_neg h8, if_neg (c := (v / 8 % 2 == 1) = true) (by simpa using h8)]
    cases hc : bs[a]? with
    | none =>
      rw [hc] at hs
      obtain ⟨lo, hi, bad, hs⟩ := hs
      rw [hs]
      dsimp only
      rw [if_pos rfl]
      exact one12_bad bs a0 bad0 wr0 last base v _ a bad id st _ _ cut _ _ _ _ _ _ _ ha
    | some c =>
      rw [hc] at hs
      dsimp only at hs ⊢
      have hlt := (get_drop hc).2
      cases ho : okS (c / 16) (c % 16) with
      | false =>
        rw [ho, if_neg (by simp)] at hs
        obtain ⟨lo, hi, hs⟩ := hs
        rw [hs]
        dsimp only
        rw [if_pos (c := true = true) rfl, if_neg (by simp)]
        exact one12_bad bs a0 bad0 wr0 last base v _ (a + 1) false id st _ _ cut _ _ _ _ _ _ _ hlt
      | true =>
        rw [ho, if_pos rfl] at hs
        rw [hs]
        dsimp only
        rw [if_neg (c := false = true) (by simp)]
        cases h2 : o.2 with
        | false =>
          simp only [Bool.false_and, and_self, if_true, Bool.false_eq_true, if_false]
          first | exact hlt | exact ⟨rfl, hlt⟩ | exact ⟨trivial, hlt⟩
        | true =>
          rw [if_pos (c := true = true) rfl]
          cases h3 : (c / 16 == o.1.2.2.2.1.1) <;> cases h4 : (c % 16 == o.1.2.2.2.1.2) <;> simp only [Bool.true_and, Bool.and_self, Bool.and_true, Bool.and_false, Bool.false_eq_true, and_self, and_false, true_and, Bool.true_eq_false, if_true, if_false]
          · first | exact hlt | exact ⟨rfl, hlt⟩ | exact ⟨trivial, hlt⟩
          · first | exact hlt | exact ⟨rfl, hlt⟩ | exact ⟨trivial, hlt⟩
          · first | exact hlt | exact ⟨rfl, hlt⟩ | exact ⟨trivial, hlt⟩
          · exact one12_bad bs a0 bad0 wr0 last base v _ (a + 1) false id st _ _ cut _ _ _ _ _ _ _ hlt
theorem flag_ite {α : Type} (o : REC × Bool) (v : Int) (B E : α) : (if decide (v ≥ 32) = true then B else if (!o.2) = true then (if decide (v ≥ 8) = true then B else if (v / 4 % 2 == 1) = true then (if decide (v ≥ 16) = true then B else E) else E) else (if (v / 4 % 2 == 1) = true then (if decide (v ≥ 16) = true then B else E) else E)) = if flagBad o v = true then B else E := by
  unfold flagBad
  have e1 : (v / 4 % 2 == 1) = decide (v / 4 % 2 = 1) := rfl
  rw [e1]
  have g32 : decide (v ≥ 32) = decide (32 ≤ v) := rfl
  have g8 : decide (v ≥ 8) = decide (8 ≤ v) := rfl
  have g16 : decide (v ≥ 16) = decide (16 ≤ v) := rfl
  rw [g32, g8, g16]
  generalize decide (32 ≤ v) = p
  generalize decide (8 ≤ v) = q
  generalize decide (16 ≤ v) = s
  generalize decide (v / 4 % 2 = 1) = t
  generalize o.2 = u
  cases p <;> cases q <;> cases s <;> cases t <;> cases u <;> rfl
theorem one_good (bs : List Int) (hb : inB bs = true) (last : Int) (h1 : -1 ≤ last) (h2 : last ≤ 100000000) (base : LR) (hbase : ∀ x ∈ base, recOkT x = true) (hbn : base.length < 1000000000) (a : Nat) (ha : a ≤ bs.length) :
    match recS bs base last a with
    | some (r, a2) => gen3_reader_one.f BIG bs (a : Int) false false last base = some (r.1, r.2.1, r.2.2.1, r.2.2.2.1.1, r.2.2.2.1.2, r.2.2.2.2.1, r.2.2.2.2.2, false, bs, (a2 : Int), false)
    | none => OneBad bs (gen3_reader_one.f BIG bs (a : Int) false false last base) := by
  obtain ⟨hl, hc⟩ := (inB_iff bs).1 hb
  have hg := form_good bs a 4095 hb (by decide) (by decide) ha
  have hfine := fine_of hbase hbn
  unfold gen3_reader_one.f gen3_reader_one.b recS
  simp only [veil_eq]
  cases ht : tk bs a 4095 with
  | none =>
    rw [ht] at hg
    obtain ⟨a', bad, hg, l1⟩ := hg
    rw [hg]
    dsimp only
    have hat : atOk bs (a' : Int) = true := (atOk_iff _ _).2 ⟨hb, by omega, by omega⟩
    have hr := (atOk_iff _ _).1 (readF_at bs 1 (a' : Int) bad hat)
    obtain ⟨m, hm1, hm2⟩ : ∃ m : Nat, (readF bs 1 (a' : Int) bad).2.1 = (m : Int) ∧ m ≤ bs.length := ⟨(readF bs 1 (a' : Int) bad).2.1.toNat, by omega, by omega⟩
    rw [if_pos (c := atOk bs (a' : Int) = true) hat, Find.pure base _ hfine, hm1]
    dsimp only
    repeat' split
    all_goals first
      | exact ⟨_, _, _, _, _, _, _, m, _, rfl, hm2⟩
      | exact one8_bad bs a false false last base _ _ m _ _ _ _ _ _ _ _ _ _ _ hb hm2 true (Or.inl rfl)
  | some p =>
    obtain ⟨d, a1⟩ := p
    rw [ht] at hg
    dsimp only at hg ⊢
    obtain ⟨_, d0, d1, _, _, l1⟩ := tk_facts hc ht
    rw [hg]
    dsimp only
    have hid : Go.IntKind.wrap .i64 (Go.IntKind.wrap .i64 (last + 1) + d) = last + 1 + d := by rw [wrap_small (last + 1) (by omega) (by omega), wrap_small _ (by omega) (by omega)]
    rw [if_pos (c := atOk bs (a1 : Int) = true) ((atOk_iff _ _).2 ⟨hb, by omega, by omega⟩), hid, Find.pure base _ hfine]
    dsimp only
    by_cases hlt : a1 < bs.length
    · rw [readF_one bs a1 hlt, List.getElem?_eq_getElem hlt]
      dsimp only
      obtain ⟨c0, c1⟩ := hc _ (List.getElem_mem hlt)
      generalize bs[a1] = v at c0 c1 ⊢
      obtain ⟨b3, b4, _, _⟩ := flags_at v c0 c1
      rw [b3, b4, flag_ite]
      cases hf : flagBad (oldR base (last + 1 + d)) v with
      | true =>
        rw [if_pos rfl, if_pos rfl]
        exact ⟨_, _, _, _, _, _, _, a1 + 1, _, rfl, hlt⟩
      | false =>
        rw [if_neg (c := false = true) (by simp), if_neg (c := false = true) (by simp)]
        have h8 := one8_good bs hb a false false last base (oldR base (last + 1 + d)) v c0 c1 (a1 + 1) hlt (last + 1 + d) (v % 4) (v / 4 % 2 == 1)
        cases hs : spanS bs (oldR base (last + 1 + d)) v (a1 + 1) with
        | none =>
          rw [hs] at h8
          exact h8
        | some q =>
          obtain ⟨sp, a2⟩ := q
          rw [hs] at h8
          dsimp only at h8 ⊢
          rw [h8.1]
          have h12 := one12_good bs hb a false false last base hbase (last + 1 + d) v c0 hf a2 h8.2 (last + 1 + d) (v % 4) sp.1 sp.2 (oldR base (last + 1 + d)).1.1 (oldR base (last + 1 + d)).1.2.2.1 (oldR base (last + 1 + d)).1.2.2.2.1.1 (oldR base (last + 1 + d)).1.2.2.2.1.2 (oldR base (last + 1 + d)).1.2.2.2.2.1
          revert h12
          cases tk bs a2 562949953421310 with
          | none => intro h12; exact h12
          | some w =>
            obtain ⟨z, a3⟩ := w
            dsimp only
            cases bagsS bs (oldR base (last + 1 + d)) v a3 with
            | none => intro h12; exact h12
            | some u =>
              obtain ⟨b, a4⟩ := u
              intro h12
              exact h12
    · rw [readF_end bs a1 (by omega), List.getElem?_eq_none (by omega)]
      dsimp only
      rw [show (bits Go.BinOp.and .i64 0 4 != 0) = ((0 : Int) / 4 % 2 == 1) from by decide, flag_ite]
      split
      · exact ⟨_, _, _, _, _, _, _, a1, _, rfl, l1⟩
      · exact one8_bad bs a false false last base 0 _ a1 true _ _ _ _ _ _ _ _ _ _ hb l1 false (Or.inr ⟨rfl, rfl⟩)
theorem recS_small {bs : List Int} (hb : ∀ c ∈ bs, 0 ≤ c ∧ c ≤ 255) {base : LR} (hbase : ∀ x ∈ base, recOkT x = true) {last : Int} {a : Nat} {r : REC} {a2 : Nat} (h : recS bs base last a = some (r, a2)) : smallBag r.2.2.2.2.2 = true := by
  unfold recS at h
  cases ht : tk bs a 4095 with
  | none => rw [ht] at h; cases h
  | some p =>
    obtain ⟨d, a1⟩ := p
    rw [ht] at h
    dsimp only at h
    cases hc : bs[a1]? with
    | none => rw [hc] at h; cases h
    | some v =>
      rw [hc] at h
      dsimp only at h
      cases hf : flagBad (oldR base (last + 1 + d)) v with
      | true => rw [hf] at h; cases h
      | false =>
        rw [hf, if_neg (by simp)] at h
        cases hs : spanS bs (oldR base (last + 1 + d)) v (a1 + 1) with
        | none => rw [hs] at h; cases h
        | some q =>
          rw [hs] at h
          dsimp only at h
          cases hz : tk bs q.2 562949953421310 with
          | none => rw [hz] at h; cases h
          | some w =>
            rw [hz] at h
            dsimp only at h
            cases hg : bagsS bs (oldR base (last + 1 + d)) v w.2 with
            | none => rw [hg] at h; cases h
            | some u =>
              rw [hg] at h
              cases h
              unfold bagsS at hg
              dsimp only
              split at hg
              · cases hg; rfl
              · split at hg
                · cases hg; exact old_small hbase _
                · cases hk : bagS bs w.2 with
                  | none => rw [hk] at hg; cases hg
                  | some y =>
                    rw [hk] at hg
                    dsimp only at hg
                    split at hg
                    · cases hg
                    · cases hg
                      obtain ⟨_, _, n4, s4⟩ := bagS_sound hb (l := y.1) (a2 := y.2) hk
                      exact bag_small n4 s4
def enc : Option Nat → Int
  | some a => (a : Int)
  | none => -1
theorem Head3.pure {bs : List Int} (hb : inB bs = true) : gen3_Head.f BIG bs = some (match hdS bs with
    | none => (0, 0, 0, 0, 0, 0, 0, 0, 0, 0, [], 4)
    | some (k, f, i, lo, hi, s, t, l, e, b, _) => (k, f, i, lo, hi, s, t, l, e, b, [], 0)) := by
  unfold gen3_Head.f gen3_Head.b
  simp only [veil_eq]
  rw [if_pos hb]
  have h := head.pure bs hb
  cases hs : hdS bs with
  | none =>
    rw [hs] at h
    obtain ⟨k, f, i, lo, hi, s, t, l, e, b, a, bad, h⟩ := h
    rw [h]
    rfl
  | some x =>
    obtain ⟨k, f, i, lo, hi, s, t, l, e, b, a⟩ := x
    rw [hs] at h
    dsimp only at h
    rw [h.1]
    rfl
abbrev M12 := Int × Int × Int × Int × Int × Int × Int × Int × Int × Int × LR × Int
noncomputable def z12 (e : Int) : M12 := (0, 0, 0, 0, 0, 0, 0, 0, 0, 0, [], e)
noncomputable def bareX (m : M12) : M12 := (m.1, m.2.1, m.2.2.1, m.2.2.2.1, m.2.2.2.2.1, m.2.2.2.2.2.1, m.2.2.2.2.2.2.1, m.2.2.2.2.2.2.2.1, m.2.2.2.2.2.2.2.2.1, m.2.2.2.2.2.2.2.2.2.1, [], m.2.2.2.2.2.2.2.2.2.2.2)
noncomputable def errX (m : M12) : Int := m.2.2.2.2.2.2.2.2.2.2.2
noncomputable def okM (m : MSG3) : M12 := (m.1, m.2.1, m.2.2.1, m.2.2.2.1, m.2.2.2.2.1, m.2.2.2.2.2.1, m.2.2.2.2.2.2.1, m.2.2.2.2.2.2.2.1, m.2.2.2.2.2.2.2.2.1, m.2.2.2.2.2.2.2.2.2.1, m.2.2.2.2.2.2.2.2.2.2, 0)
noncomputable def dec3 (b : List Int) (base : LR) : M12 :=
  if sortedF base = true then (match decS b base with
    | none => z12 4
    | some m => okM m) else z12 1
noncomputable def head3X (b : List Int) : M12 := match hdS b with
  | none => z12 4
  | some (k, f, i, lo, hi, s, t, l, e, b, _) => (k, f, i, lo, hi, s, t, l, e, b, [], 0)
theorem smallR_of {recs : LR} (hr : ∀ r ∈ recs, recOkT r = true) (hn : recs.length < 1000000000) : smallRecs recs = true :=
  (smallRecs_iff _).2 ⟨by omega, fun r h => by
    have := (recOk_facts (hr r h)).2.2.2.2.2.2.2.1
    have h1 := bagOk_len this
    exact (smallBag_iff _).2 ⟨by omega, fun x hx => by have := bag_tags this x hx; omega⟩⟩
theorem valid_small {k f i lo hi s t l e b : Int} {recs : LR} (h : validF k f i lo hi s t l e b recs = true) : smallRecs recs = true := by
  have := valid_facts h
  exact smallR_of this.2.2.2.2.2.2.2.2.2.2.2.2.2 (by have := this.2.2.2.2.2.2.2.2.2.2.2.2.1; omega)
noncomputable def gen3_Decode_E : Env := ⟨th, gam [(20, s_valid), (21, s_sorted), (50, s_has), (71, s_read), (72, s_gen3_reader_headR), (74, s_gen3_reader_form), (75, s_gen3_reader_one), (76, s_done)], fun i => if i = 11 then ⟨[0, 1, 4, 6, 7, 8, 9, 10], [(1458, 61, (.pair (.int .i64) (.pair (.int .i64) (.pair (.int .i64) (.pair (.pair (.int .i64) (.int .i64)) (.pair .bool (.sl (.pair (.int .i64) (.sl (.int .u8)))))))))), (1, 60, (.pair (.int .i64) (.pair (.int .i64) (.pair (.int .i64) (.pair (.pair (.int .i64) (.int .i64)) (.pair .bool (.sl (.pair (.int .i64) (.sl (.int .u8))))))))))], [1]⟩ else ⟨[], [], []⟩⟩
noncomputable def gen3_Decode.k (rs : List AV) (os : List Den.Obj) : Option (Int × Int × Int × Int × Int × Int × Int × Int × Int × Int × (List (Int × (Int × (Int × ((Int × Int) × (Bool × (List (Int × (List Int))))))))) × Int) :=
  match rs, os with
  | [.agg [.d (.int .i64) r0, .d (.int .i64) r1, .d (.int .i64) r2, .d (.int .i64) r3, .d (.int .i64) r4, .d (.int .i64) r5, .d (.int .i64) r6, .d (.int .i64) r7, .d (.int .i64) r8, .d (.int .i64) r9, .d (.sl (.pair (.int .i64) (.pair (.int .i64) (.pair (.int .i64) (.pair (.pair (.int .i64) (.int .i64)) (.pair .bool (.sl (.pair (.int .i64) (.sl (.int .u8)))))))))) r10], .d (.int .i64) r11], [] => some (r0, r1, r2, r3, r4, r5, r6, r7, r8, r9, r10, r11)
  | _, _ => none
noncomputable def gen3_Decode.s11 (b : List Int) (base : List (Int × Int × Int × (Int × Int) × Bool × List (Int × List Int))) (x2 : (List (Int × (Int × (Int × ((Int × Int) × (Bool × (List (Int × (List Int)))))))))) (x3 : Int) (x4 : Int) (x5 : Int) (x6 : Bool) (x7 : (List Int)) (x8 : Int) (x9 : Bool) (x10 : Int) (x11 : Int) (x12 : Int) (x13 : Int) (x14 : Int) (x15 : Int) (x16 : Int) (x17 : Int) (x18 : Int) (x19 : Int) (x20 : (List (Int × (Int × (Int × ((Int × Int) × (Bool × (List (Int × (List Int)))))))))) : St := ⟨[.d (.sl (.int .u8)) (b), .d (.sl (.pair (.int .i64) (.pair (.int .i64) (.pair (.int .i64) (.pair (.pair (.int .i64) (.int .i64)) (.pair .bool (.sl (.pair (.int .i64) (.sl (.int .u8)))))))))) x2, .dead, .dead, .ptr 64 0, .dead, .ptr 65 0, .ptr 67 0, .d (.int .i64) x3, .d (.int .i64) x4, .d (.int .i64) x5, .dead, .dead, .dead, .dead, .dead, .dead, .dead, .dead, .dead, .dead, .dead, .dead, .dead, .dead, .dead, .dead, .dead, .dead, .dead, .dead, .dead, .dead, .dead, .dead, .dead, .dead, .dead, .dead, .dead, .dead, .dead, .dead, .dead, .dead, .dead, .dead, .dead, .dead, .dead, .dead, .dead, .dead, .dead, .dead, .dead, .dead, .dead, .dead, .dead, .dead, .dead, .dead, .dead, .dead, .dead, .dead, .dead, .dead, .dead, .dead, .dead, .dead, .dead, .dead, .dead, .dead, .dead], ofL [(64, .box [.d (.int .i64) (0), .d (.int .i64) (0), .d (.int .i64) (0), .d (.int .i64) (0), .d (.int .i64) (0), .d (.int .i64) (0), .d (.int .i64) (0), .d (.int .i64) (0), .d (.int .i64) (0), .d (.int .i64) (0), .nilsl]), (65, .box [.ptr 66 0, .d .bool x6]), (66, .box [.d (.sl (.int .u8)) x7, .d (.int .i64) x8, .d .bool x9]), (67, .box [.d (.int .i64) x10, .d (.int .i64) x11, .d (.int .i64) x12, .d (.int .i64) x13, .d (.int .i64) x14, .d (.int .i64) x15, .d (.int .i64) x16, .d (.int .i64) x17, .d (.int .i64) x18, .d (.int .i64) x19, .row 68]), (68, .row 61 (.pair (.int .i64) (.pair (.int .i64) (.pair (.int .i64) (.pair (.pair (.int .i64) (.int .i64)) (.pair .bool (.sl (.pair (.int .i64) (.sl (.int .u8))))))))) x20 false)], 0⟩
noncomputable def gen3_Decode.b11 (b : List Int) (base : List (Int × Int × Int × (Int × Int) × Bool × List (Int × List Int))) (A11 : (List (Int × (Int × (Int × ((Int × Int) × (Bool × (List (Int × (List Int))))))))) → Int → Int → Int → Bool → (List Int) → Int → Bool → Int → Int → Int → Int → Int → Int → Int → Int → Int → Int → (List (Int × (Int × (Int × ((Int × Int) × (Bool × (List (Int × (List Int))))))))) → Option (Int × Int × Int × Int × Int × Int × Int × Int × Int × Int × (List (Int × (Int × (Int × ((Int × Int) × (Bool × (List (Int × (List Int))))))))) × Int)) (x2 : (List (Int × (Int × (Int × ((Int × Int) × (Bool × (List (Int × (List Int)))))))))) (x3 : Int) (x4 : Int) (x5 : Int) (x6 : Bool) (x7 : (List Int)) (x8 : Int) (x9 : Bool) (x10 : Int) (x11 : Int) (x12 : Int) (x13 : Int) (x14 : Int) (x15 : Int) (x16 : Int) (x17 : Int) (x18 : Int) (x19 : Int) (x20 : (List (Int × (Int × (Int × ((Int × Int) × (Bool × (List (Int × (List Int)))))))))) : Option (Int × Int × Int × Int × Int × Int × Int × Int × Int × Int × (List (Int × (Int × (Int × ((Int × Int) × (Bool × (List (Int × (List Int))))))))) × Int) :=
  (if (decide (x5 < x3)) then (if (!x6) then (match (veil (gen3_reader_one.f BIG x7 x8 x9 x6 x4 x2)) with | none => none | some y21 => (if ((((List.length x20) + (List.length ((y21.1, (y21.2.1, (y21.2.2.1, ((y21.2.2.2.1, y21.2.2.2.2.1), (y21.2.2.2.2.2.1, y21.2.2.2.2.2.2.1))))) :: ([] : List (Int × (Int × (Int × ((Int × Int) × (Bool × (List (Int × (List Int)))))))))))) * (72 : Nat)) ≤ lim) then A11 x2 x3 y21.1 (Go.IntKind.wrap .i64 (x5 + (1 : Int))) y21.2.2.2.2.2.2.2.1 y21.2.2.2.2.2.2.2.2.1 y21.2.2.2.2.2.2.2.2.2.1 y21.2.2.2.2.2.2.2.2.2.2 x10 x11 x12 x13 x14 x15 x16 x17 x18 x19 (x20 ++ ((y21.1, (y21.2.1, (y21.2.2.1, ((y21.2.2.2.1, y21.2.2.2.2.1), (y21.2.2.2.2.2.1, y21.2.2.2.2.2.2.1))))) :: ([] : List (Int × (Int × (Int × ((Int × Int) × (Bool × (List (Int × (List Int))))))))))) else none)) else (if x6 then some (0, 0, 0, 0, 0, 0, 0, 0, 0, 0, ([] : List (Int × (Int × (Int × ((Int × Int) × (Bool × (List (Int × (List Int))))))))), (4 : Int)) else (if (atOk x7 x8) then (if (!((!x9) && ((leftF x7 x8 x9) == (0 : Int)))) then some (0, 0, 0, 0, 0, 0, 0, 0, 0, 0, ([] : List (Int × (Int × (Int × ((Int × Int) × (Bool × (List (Int × (List Int))))))))), (4 : Int)) else (if (decide (((((List.length b)) : Nat) : Int) > (65499 : Int))) then some (0, 0, 0, 0, 0, 0, 0, 0, 0, 0, ([] : List (Int × (Int × (Int × ((Int × Int) × (Bool × (List (Int × (List Int))))))))), (4 : Int)) else (if (smallRecs x20) then (if (!(validF x10 x11 x12 x13 x14 x15 x16 x17 x18 x19 x20)) then some (0, 0, 0, 0, 0, 0, 0, 0, 0, 0, ([] : List (Int × (Int × (Int × ((Int × Int) × (Bool × (List (Int × (List Int))))))))), (4 : Int)) else some (x10, x11, x12, x13, x14, x15, x16, x17, x18, x19, x20, (0 : Int))) else none))) else none))) else (if x6 then some (0, 0, 0, 0, 0, 0, 0, 0, 0, 0, ([] : List (Int × (Int × (Int × ((Int × Int) × (Bool × (List (Int × (List Int))))))))), (4 : Int)) else (if (atOk x7 x8) then (if (!((!x9) && ((leftF x7 x8 x9) == (0 : Int)))) then some (0, 0, 0, 0, 0, 0, 0, 0, 0, 0, ([] : List (Int × (Int × (Int × ((Int × Int) × (Bool × (List (Int × (List Int))))))))), (4 : Int)) else (if (decide (((((List.length b)) : Nat) : Int) > (65499 : Int))) then some (0, 0, 0, 0, 0, 0, 0, 0, 0, 0, ([] : List (Int × (Int × (Int × ((Int × Int) × (Bool × (List (Int × (List Int))))))))), (4 : Int)) else (if (smallRecs x20) then (if (!(validF x10 x11 x12 x13 x14 x15 x16 x17 x18 x19 x20)) then some (0, 0, 0, 0, 0, 0, 0, 0, 0, 0, ([] : List (Int × (Int × (Int × ((Int × Int) × (Bool × (List (Int × (List Int))))))))), (4 : Int)) else some (x10, x11, x12, x13, x14, x15, x16, x17, x18, x19, x20, (0 : Int))) else none))) else none)))
noncomputable def gen3_Decode.l11 (fuel : Nat) (b : List Int) (base : List (Int × Int × Int × (Int × Int) × Bool × List (Int × List Int))) : Nat → (List (Int × (Int × (Int × ((Int × Int) × (Bool × (List (Int × (List Int))))))))) → Int → Int → Int → Bool → (List Int) → Int → Bool → Int → Int → Int → Int → Int → Int → Int → Int → Int → Int → (List (Int × (Int × (Int × ((Int × Int) × (Bool × (List (Int × (List Int))))))))) → Option (Int × Int × Int × Int × Int × Int × Int × Int × Int × Int × (List (Int × (Int × (Int × ((Int × Int) × (Bool × (List (Int × (List Int))))))))) × Int)
  | 0, _, _, _, _, _, _, _, _, _, _, _, _, _, _, _, _, _, _, _ => none
  | k + 1, x2, x3, x4, x5, x6, x7, x8, x9, x10, x11, x12, x13, x14, x15, x16, x17, x18, x19, x20 => gen3_Decode.b11 b base (gen3_Decode.l11 fuel b base k) x2 x3 x4 x5 x6 x7 x8 x9 x10 x11 x12 x13 x14 x15 x16 x17 x18 x19 x20
noncomputable def gen3_Decode.b (b : List Int) (base : List (Int × Int × Int × (Int × Int) × Bool × List (Int × List Int))) (E11 : (List (Int × (Int × (Int × ((Int × Int) × (Bool × (List (Int × (List Int))))))))) → Int → Int → Int → Bool → (List Int) → Int → Bool → Int → Int → Int → Int → Int → Int → Int → Int → Int → Int → (List (Int × (Int × (Int × ((Int × Int) × (Bool × (List (Int × (List Int))))))))) → Option (Int × Int × Int × Int × Int × Int × Int × Int × Int × Int × (List (Int × (Int × (Int × ((Int × Int) × (Bool × (List (Int × (List Int))))))))) × Int)) : Option (Int × Int × Int × Int × Int × Int × Int × Int × Int × Int × (List (Int × (Int × (Int × ((Int × Int) × (Bool × (List (Int × (List Int))))))))) × Int) :=
  (if (smallRecs base) then (if (!(sortedF base)) then some (0, 0, 0, 0, 0, 0, 0, 0, 0, 0, ([] : List (Int × (Int × (Int × ((Int × Int) × (Bool × (List (Int × (List Int))))))))), (1 : Int)) else (if (inB b) then (match (veil (gen3_reader_headR.f BIG b 0 false false)) with | none => none | some y0 => (if (y0.2.2.2.2.2.2.2.2.2.1 == (0 : Int)) then (if (hasF y0.1 (4 : Int)) then (match (veil (gen3_reader_form.f BIG y0.2.2.2.2.2.2.2.2.2.2.2.1 y0.2.2.2.2.2.2.2.2.2.2.2.2.1 y0.2.2.2.2.2.2.2.2.2.2.2.2.2 y0.2.2.2.2.2.2.2.2.2.2.1 (255 : Int))) with | none => none | some y1 => E11 ([] : List (Int × (Int × (Int × ((Int × Int) × (Bool × (List (Int × (List Int))))))))) y1.1 (-(1 : Int)) (0 : Int) y1.2.1 y1.2.2.1 y1.2.2.2.1 y1.2.2.2.2 y0.1 y0.2.1 y0.2.2.1 y0.2.2.2.1 y0.2.2.2.2.1 y0.2.2.2.2.2.1 y0.2.2.2.2.2.2.1 y0.2.2.2.2.2.2.2.1 y0.2.2.2.2.2.2.2.2.1 y0.2.2.2.2.2.2.2.2.2.1 ([] : List (Int × (Int × (Int × ((Int × Int) × (Bool × (List (Int × (List Int)))))))))) else (if y0.2.2.2.2.2.2.2.2.2.2.1 then some (0, 0, 0, 0, 0, 0, 0, 0, 0, 0, ([] : List (Int × (Int × (Int × ((Int × Int) × (Bool × (List (Int × (List Int))))))))), (4 : Int)) else (if (atOk y0.2.2.2.2.2.2.2.2.2.2.2.1 y0.2.2.2.2.2.2.2.2.2.2.2.2.1) then (if (!((!y0.2.2.2.2.2.2.2.2.2.2.2.2.2) && ((leftF y0.2.2.2.2.2.2.2.2.2.2.2.1 y0.2.2.2.2.2.2.2.2.2.2.2.2.1 y0.2.2.2.2.2.2.2.2.2.2.2.2.2) == (0 : Int)))) then some (0, 0, 0, 0, 0, 0, 0, 0, 0, 0, ([] : List (Int × (Int × (Int × ((Int × Int) × (Bool × (List (Int × (List Int))))))))), (4 : Int)) else (if (decide (((((List.length b)) : Nat) : Int) > (65499 : Int))) then some (0, 0, 0, 0, 0, 0, 0, 0, 0, 0, ([] : List (Int × (Int × (Int × ((Int × Int) × (Bool × (List (Int × (List Int))))))))), (4 : Int)) else (if (!(validF y0.1 y0.2.1 y0.2.2.1 y0.2.2.2.1 y0.2.2.2.2.1 y0.2.2.2.2.2.1 y0.2.2.2.2.2.2.1 y0.2.2.2.2.2.2.2.1 y0.2.2.2.2.2.2.2.2.1 y0.2.2.2.2.2.2.2.2.2.1 ([] : List (Int × (Int × (Int × ((Int × Int) × (Bool × (List (Int × (List Int))))))))))) then some (0, 0, 0, 0, 0, 0, 0, 0, 0, 0, ([] : List (Int × (Int × (Int × ((Int × Int) × (Bool × (List (Int × (List Int))))))))), (4 : Int)) else some (y0.1, y0.2.1, y0.2.2.1, y0.2.2.2.1, y0.2.2.2.2.1, y0.2.2.2.2.2.1, y0.2.2.2.2.2.2.1, y0.2.2.2.2.2.2.2.1, y0.2.2.2.2.2.2.2.2.1, y0.2.2.2.2.2.2.2.2.2.1, ([] : List (Int × (Int × (Int × ((Int × Int) × (Bool × (List (Int × (List Int))))))))), (0 : Int))))) else none))) else (if (hasF y0.1 (4 : Int)) then (match (veil (gen3_reader_form.f BIG y0.2.2.2.2.2.2.2.2.2.2.2.1 y0.2.2.2.2.2.2.2.2.2.2.2.2.1 y0.2.2.2.2.2.2.2.2.2.2.2.2.2 y0.2.2.2.2.2.2.2.2.2.2.1 (255 : Int))) with | none => none | some y22 => E11 base y22.1 (-(1 : Int)) (0 : Int) y22.2.1 y22.2.2.1 y22.2.2.2.1 y22.2.2.2.2 y0.1 y0.2.1 y0.2.2.1 y0.2.2.2.1 y0.2.2.2.2.1 y0.2.2.2.2.2.1 y0.2.2.2.2.2.2.1 y0.2.2.2.2.2.2.2.1 y0.2.2.2.2.2.2.2.2.1 y0.2.2.2.2.2.2.2.2.2.1 ([] : List (Int × (Int × (Int × ((Int × Int) × (Bool × (List (Int × (List Int)))))))))) else (if y0.2.2.2.2.2.2.2.2.2.2.1 then some (0, 0, 0, 0, 0, 0, 0, 0, 0, 0, ([] : List (Int × (Int × (Int × ((Int × Int) × (Bool × (List (Int × (List Int))))))))), (4 : Int)) else (if (atOk y0.2.2.2.2.2.2.2.2.2.2.2.1 y0.2.2.2.2.2.2.2.2.2.2.2.2.1) then (if (!((!y0.2.2.2.2.2.2.2.2.2.2.2.2.2) && ((leftF y0.2.2.2.2.2.2.2.2.2.2.2.1 y0.2.2.2.2.2.2.2.2.2.2.2.2.1 y0.2.2.2.2.2.2.2.2.2.2.2.2.2) == (0 : Int)))) then some (0, 0, 0, 0, 0, 0, 0, 0, 0, 0, ([] : List (Int × (Int × (Int × ((Int × Int) × (Bool × (List (Int × (List Int))))))))), (4 : Int)) else (if (decide (((((List.length b)) : Nat) : Int) > (65499 : Int))) then some (0, 0, 0, 0, 0, 0, 0, 0, 0, 0, ([] : List (Int × (Int × (Int × ((Int × Int) × (Bool × (List (Int × (List Int))))))))), (4 : Int)) else (if (!(validF y0.1 y0.2.1 y0.2.2.1 y0.2.2.2.1 y0.2.2.2.2.1 y0.2.2.2.2.2.1 y0.2.2.2.2.2.2.1 y0.2.2.2.2.2.2.2.1 y0.2.2.2.2.2.2.2.2.1 y0.2.2.2.2.2.2.2.2.2.1 ([] : List (Int × (Int × (Int × ((Int × Int) × (Bool × (List (Int × (List Int))))))))))) then some (0, 0, 0, 0, 0, 0, 0, 0, 0, 0, ([] : List (Int × (Int × (Int × ((Int × Int) × (Bool × (List (Int × (List Int))))))))), (4 : Int)) else some (y0.1, y0.2.1, y0.2.2.1, y0.2.2.2.1, y0.2.2.2.2.1, y0.2.2.2.2.2.1, y0.2.2.2.2.2.2.1, y0.2.2.2.2.2.2.2.1, y0.2.2.2.2.2.2.2.2.1, y0.2.2.2.2.2.2.2.2.2.1, ([] : List (Int × (Int × (Int × ((Int × Int) × (Bool × (List (Int × (List Int))))))))), (0 : Int))))) else none))))) else none)) else none)
noncomputable def gen3_Decode.f (fuel : Nat) (b : List Int) (base : List (Int × Int × Int × (Int × Int) × Bool × List (Int × List Int))) : Option (Int × Int × Int × Int × Int × Int × Int × Int × Int × Int × (List (Int × (Int × (Int × ((Int × Int) × (Bool × (List (Int × (List Int))))))))) × Int) := gen3_Decode.b b base (gen3_Decode.l11 fuel b base fuel)
theorem gen3_Decode.l11_eq (fuel : Nat) (b : List Int) (base : List (Int × Int × Int × (Int × Int) × Bool × List (Int × List Int))) : ∀ (k : Nat) (x2 : (List (Int × (Int × (Int × ((Int × Int) × (Bool × (List (Int × (List Int)))))))))) (x3 : Int) (x4 : Int) (x5 : Int) (x6 : Bool) (x7 : (List Int)) (x8 : Int) (x9 : Bool) (x10 : Int) (x11 : Int) (x12 : Int) (x13 : Int) (x14 : Int) (x15 : Int) (x16 : Int) (x17 : Int) (x18 : Int) (x19 : Int) (x20 : (List (Int × (Int × (Int × ((Int × Int) × (Bool × (List (Int × (List Int)))))))))), lp gen3_Decode_E fuel Try.f29 [.dat (.pair (.int .i64) (.pair (.int .i64) (.pair (.int .i64) (.pair (.pair (.int .i64) (.int .i64)) (.pair (.int .i64) (.pair (.int .i64) (.pair (.int .i64) (.pair (.int .i64) (.pair (.int .i64) (.sl (.pair (.int .i64) (.pair (.int .i64) (.pair (.int .i64) (.pair (.pair (.int .i64) (.int .i64)) (.pair .bool (.sl (.pair (.int .i64) (.sl (.int .u8))))))))))))))))))) true, .raw] 0 gen3_Decode.k 11 [] k (gen3_Decode.s11 b base x2 x3 x4 x5 x6 x7 x8 x9 x10 x11 x12 x13 x14 x15 x16 x17 x18 x19 x20) = gen3_Decode.l11 fuel b base k x2 x3 x4 x5 x6 x7 x8 x9 x10 x11 x12 x13 x14 x15 x16 x17 x18 x19 x20 := by
  intro k
  induction k with
  | zero => intro x2 x3 x4 x5 x6 x7 x8 x9 x10 x11 x12 x13 x14 x15 x16 x17 x18 x19 x20; rfl
  | succ k ih =>
    intro x2 x3 x4 x5 x6 x7 x8 x9 x10 x11 x12 x13 x14 x15 x16 x17 x18 x19 x20
    have h : lp gen3_Decode_E fuel Try.f29 [.dat (.pair (.int .i64) (.pair (.int .i64) (.pair (.int .i64) (.pair (.pair (.int .i64) (.int .i64)) (.pair (.int .i64) (.pair (.int .i64) (.pair (.int .i64) (.pair (.int .i64) (.pair (.int .i64) (.sl (.pair (.int .i64) (.pair (.int .i64) (.pair (.int .i64) (.pair (.pair (.int .i64) (.int .i64)) (.pair .bool (.sl (.pair (.int .i64) (.sl (.int .u8))))))))))))))))))) true, .raw] 0 gen3_Decode.k 11 [] (k + 1) (gen3_Decode.s11 b base x2 x3 x4 x5 x6 x7 x8 x9 x10 x11 x12 x13 x14 x15 x16 x17 x18 x19 x20) = gen3_Decode.b11 b base (fun x2 x3 x4 x5 x6 x7 x8 x9 x10 x11 x12 x13 x14 x15 x16 x17 x18 x19 x20 => lp gen3_Decode_E fuel Try.f29 [.dat (.pair (.int .i64) (.pair (.int .i64) (.pair (.int .i64) (.pair (.pair (.int .i64) (.int .i64)) (.pair (.int .i64) (.pair (.int .i64) (.pair (.int .i64) (.pair (.int .i64) (.pair (.int .i64) (.sl (.pair (.int .i64) (.pair (.int .i64) (.pair (.int .i64) (.pair (.pair (.int .i64) (.int .i64)) (.pair .bool (.sl (.pair (.int .i64) (.sl (.int .u8))))))))))))))))))) true, .raw] 0 gen3_Decode.k 11 [] k (gen3_Decode.s11 b base x2 x3 x4 x5 x6 x7 x8 x9 x10 x11 x12 x13 x14 x15 x16 x17 x18 x19 x20)) x2 x3 x4 x5 x6 x7 x8 x9 x10 x11 x12 x13 x14 x15 x16 x17 x18 x19 x20 := by kernel_rfl
    rw [h]
    have e11 : (fun x2 x3 x4 x5 x6 x7 x8 x9 x10 x11 x12 x13 x14 x15 x16 x17 x18 x19 x20 => lp gen3_Decode_E fuel Try.f29 [.dat (.pair (.int .i64) (.pair (.int .i64) (.pair (.int .i64) (.pair (.pair (.int .i64) (.int .i64)) (.pair (.int .i64) (.pair (.int .i64) (.pair (.int .i64) (.pair (.int .i64) (.pair (.int .i64) (.sl (.pair (.int .i64) (.pair (.int .i64) (.pair (.int .i64) (.pair (.pair (.int .i64) (.int .i64)) (.pair .bool (.sl (.pair (.int .i64) (.sl (.int .u8))))))))))))))))))) true, .raw] 0 gen3_Decode.k 11 [] k (gen3_Decode.s11 b base x2 x3 x4 x5 x6 x7 x8 x9 x10 x11 x12 x13 x14 x15 x16 x17 x18 x19 x20)) = gen3_Decode.l11 fuel b base k := (funext fun x2 => (funext fun x3 => (funext fun x4 => (funext fun x5 => (funext fun x6 => (funext fun x7 => (funext fun x8 => (funext fun x9 => (funext fun x10 => (funext fun x11 => (funext fun x12 => (funext fun x13 => (funext fun x14 => (funext fun x15 => (funext fun x16 => (funext fun x17 => (funext fun x18 => (funext fun x19 => (funext fun x20 => ih x2 x3 x4 x5 x6 x7 x8 x9 x10 x11 x12 x13 x14 x15 x16 x17 x18 x19 x20)))))))))))))))))))
    rw [e11]
    rfl
theorem gen3_Decode.eq (fuel : Nat) (b : List Int) (base : List (Int × Int × Int × (Int × Int) × Bool × List (Int × List Int))) : (denF gen3_Decode_E loopN fuel Try.f29 [.dat (.pair (.int .i64) (.pair (.int .i64) (.pair (.int .i64) (.pair (.pair (.int .i64) (.int .i64)) (.pair (.int .i64) (.pair (.int .i64) (.pair (.int .i64) (.pair (.int .i64) (.pair (.int .i64) (.sl (.pair (.int .i64) (.pair (.int .i64) (.pair (.int .i64) (.pair (.pair (.int .i64) (.int .i64)) (.pair .bool (.sl (.pair (.int .i64) (.sl (.int .u8))))))))))))))))))) true, .raw] [.d (.sl (.int .u8)) b, .d (.sl (.pair (.int .i64) (.pair (.int .i64) (.pair (.int .i64) (.pair (.pair (.int .i64) (.int .i64)) (.pair .bool (.sl (.pair (.int .i64) (.sl (.int .u8)))))))))) base] [] gen3_Decode.k) = gen3_Decode.f fuel b base := by
  have h : (denF gen3_Decode_E loopN fuel Try.f29 [.dat (.pair (.int .i64) (.pair (.int .i64) (.pair (.int .i64) (.pair (.pair (.int .i64) (.int .i64)) (.pair (.int .i64) (.pair (.int .i64) (.pair (.int .i64) (.pair (.int .i64) (.pair (.int .i64) (.sl (.pair (.int .i64) (.pair (.int .i64) (.pair (.int .i64) (.pair (.pair (.int .i64) (.int .i64)) (.pair .bool (.sl (.pair (.int .i64) (.sl (.int .u8))))))))))))))))))) true, .raw] [.d (.sl (.int .u8)) b, .d (.sl (.pair (.int .i64) (.pair (.int .i64) (.pair (.int .i64) (.pair (.pair (.int .i64) (.int .i64)) (.pair .bool (.sl (.pair (.int .i64) (.sl (.int .u8)))))))))) base] [] gen3_Decode.k) = gen3_Decode.b b base (fun x2 x3 x4 x5 x6 x7 x8 x9 x10 x11 x12 x13 x14 x15 x16 x17 x18 x19 x20 => lp gen3_Decode_E fuel Try.f29 [.dat (.pair (.int .i64) (.pair (.int .i64) (.pair (.int .i64) (.pair (.pair (.int .i64) (.int .i64)) (.pair (.int .i64) (.pair (.int .i64) (.pair (.int .i64) (.pair (.int .i64) (.pair (.int .i64) (.sl (.pair (.int .i64) (.pair (.int .i64) (.pair (.int .i64) (.pair (.pair (.int .i64) (.int .i64)) (.pair .bool (.sl (.pair (.int .i64) (.sl (.int .u8))))))))))))))))))) true, .raw] 0 gen3_Decode.k 11 [] fuel (gen3_Decode.s11 b base x2 x3 x4 x5 x6 x7 x8 x9 x10 x11 x12 x13 x14 x15 x16 x17 x18 x19 x20)) := by kernel_rfl
  rw [h]
  have e11 : (fun x2 x3 x4 x5 x6 x7 x8 x9 x10 x11 x12 x13 x14 x15 x16 x17 x18 x19 x20 => lp gen3_Decode_E fuel Try.f29 [.dat (.pair (.int .i64) (.pair (.int .i64) (.pair (.int .i64) (.pair (.pair (.int .i64) (.int .i64)) (.pair (.int .i64) (.pair (.int .i64) (.pair (.int .i64) (.pair (.int .i64) (.pair (.int .i64) (.sl (.pair (.int .i64) (.pair (.int .i64) (.pair (.int .i64) (.pair (.pair (.int .i64) (.int .i64)) (.pair .bool (.sl (.pair (.int .i64) (.sl (.int .u8))))))))))))))))))) true, .raw] 0 gen3_Decode.k 11 [] fuel (gen3_Decode.s11 b base x2 x3 x4 x5 x6 x7 x8 x9 x10 x11 x12 x13 x14 x15 x16 x17 x18 x19 x20)) = gen3_Decode.l11 fuel b base fuel := (funext fun x2 => (funext fun x3 => (funext fun x4 => (funext fun x5 => (funext fun x6 => (funext fun x7 => (funext fun x8 => (funext fun x9 => (funext fun x10 => (funext fun x11 => (funext fun x12 => (funext fun x13 => (funext fun x14 => (funext fun x15 => (funext fun x16 => (funext fun x17 => (funext fun x18 => (funext fun x19 => (funext fun x20 => gen3_Decode.l11_eq fuel b base fuel x2 x3 x4 x5 x6 x7 x8 x9 x10 x11 x12 x13 x14 x15 x16 x17 x18 x19 x20)))))))))))))))))))
  rw [e11]
  rfl
noncomputable def s_gen3_Decode : Den.Sum := ⟨[.dat (.sl (.int .u8)) false, .dat (.sl (.pair (.int .i64) (.pair (.int .i64) (.pair (.int .i64) (.pair (.pair (.int .i64) (.int .i64)) (.pair .bool (.sl (.pair (.int .i64) (.sl (.int .u8)))))))))) false], fun args objs κ => match args, objs with
  | [.d (.sl (.int .u8)) b, .d (.sl (.pair (.int .i64) (.pair (.int .i64) (.pair (.int .i64) (.pair (.pair (.int .i64) (.int .i64)) (.pair .bool (.sl (.pair (.int .i64) (.sl (.int .u8)))))))))) base], [] => (match veil (gen3_Decode.f BIG b base) with | none => none | some y => κ [.agg [.d (.int .i64) y.1, .d (.int .i64) y.2.1, .d (.int .i64) y.2.2.1, .d (.int .i64) y.2.2.2.1, .d (.int .i64) y.2.2.2.2.1, .d (.int .i64) y.2.2.2.2.2.1, .d (.int .i64) y.2.2.2.2.2.2.1, .d (.int .i64) y.2.2.2.2.2.2.2.1, .d (.int .i64) y.2.2.2.2.2.2.2.2.1, .d (.int .i64) y.2.2.2.2.2.2.2.2.2.1, .d (.sl (.pair (.int .i64) (.pair (.int .i64) (.pair (.int .i64) (.pair (.pair (.int .i64) (.int .i64)) (.pair .bool (.sl (.pair (.int .i64) (.sl (.int .u8)))))))))) y.2.2.2.2.2.2.2.2.2.2.1], .d (.int .i64) y.2.2.2.2.2.2.2.2.2.2.2] [])
  | _, _ => none⟩
theorem s_gen3_Decode_det : SumDet s_gen3_Decode := fun avs objs R κ => by
  show s_gen3_Decode.run avs objs (two κ) = (s_gen3_Decode.run avs objs (two some)).bind κ
  unfold s_gen3_Decode
  simp only [veil_eq]
  split
  · split <;> rfl
  · rfl
theorem s_gen3_Decode_ok : SumOk Try.prog 29 s_gen3_Decode := by
  have hE : EnvOk Try.prog gen3_Decode_E := env_ok (l := [(20, s_valid), (21, s_sorted), (50, s_has), (71, s_read), (72, s_gen3_reader_headR), (74, s_gen3_reader_form), (75, s_gen3_reader_one), (76, s_done)]) th_ok any_ok ⟨⟨s_valid_ok, s_valid_det⟩, ⟨s_sorted_ok, s_sorted_det⟩, ⟨s_has_ok, s_has_det⟩, ⟨s_read_ok, s_read_det⟩, ⟨s_gen3_reader_headR_ok, s_gen3_reader_headR_det⟩, ⟨s_gen3_reader_form_ok, s_gen3_reader_form_det⟩, ⟨s_gen3_reader_one_ok, s_gen3_reader_one_det⟩, ⟨s_done_ok, s_done_det⟩, trivial⟩ _
  refine sum_ok hE Try.func29 rfl (by kernel_rfl) s_gen3_Decode [.dat (.pair (.int .i64) (.pair (.int .i64) (.pair (.int .i64) (.pair (.pair (.int .i64) (.int .i64)) (.pair (.int .i64) (.pair (.int .i64) (.pair (.int .i64) (.pair (.int .i64) (.pair (.int .i64) (.sl (.pair (.int .i64) (.pair (.int .i64) (.pair (.int .i64) (.pair (.pair (.int .i64) (.int .i64)) (.pair .bool (.sl (.pair (.int .i64) (.sl (.int .u8))))))))))))))))))) true, .raw] gen3_Decode.k ?_
  intro R avs objs κ r h
  unfold s_gen3_Decode at h
  simp only [veil_eq] at h
  split at h
  · rename_i b base
    split at h
    · cases h
    · rename_i y hy
      refine ⟨BIG, _, _, _, (gen3_Decode.eq BIG b base).trans hy, ?_, h⟩
      intro rs ros hk
      unfold gen3_Decode.k at hk
      split at hk
      · first | (cases hk; exact ⟨rfl, rfl⟩) | (have e := Option.some.inj hk; rw [← e]; exact ⟨rfl, rfl⟩)
      · cases hk
  · cases h
abbrev HDR := Int × Int × Int × Int × Int × Int × Int × Int × Int × Int × Bool × List Int × Int × Bool
noncomputable def finCR (k f i lo hi s t l e b : Int) (wr : Bool) (bs : List Int) (a : Int) (bad : Bool) : Option HDR :=
  if bad then some (k, f, i, lo, hi, s, t, l, e, b, true, bs, a, bad)
  else if (!(validF k f i lo hi s t l e b [])) then some (k, f, i, lo, hi, s, t, l, e, b, true, bs, a, bad)
  else some (k, f, i, lo, hi, s, t, l, e, b, wr, bs, a, bad)
noncomputable def headCR (bs : List Int) (at0 : Int) (bad wrong : Bool) : Option HDR :=
  if atOk bs at0 then
    optC true 4095 wrong bs (readF bs 1 at0 bad).2.1 (readF bs 1 at0 bad).2.2 fun f w b1 a1 d1 =>
    optC true 281474976710655 w b1 a1 d1 fun i w b2 a2 d2 =>
    match gen3_reader_span.f BIG b2 a2 d2 w with
    | none => none
    | some y =>
      optC (hasF (readF bs 1 at0 bad).1 0) 65535 y.2.2.1 y.2.2.2.1 y.2.2.2.2.1 y.2.2.2.2.2 fun s w b3 a3 d3 =>
      optC (hasF (readF bs 1 at0 bad).1 1) 4095 w b3 a3 d3 fun t w b4 a4 d4 =>
      optC (hasF (readF bs 1 at0 bad).1 2) 281474976710655 w b4 a4 d4 fun l w b5 a5 d5 =>
      optC (hasF (readF bs 1 at0 bad).1 2) 65535 w b5 a5 d5 fun e w b6 a6 d6 =>
      optC (hasF (readF bs 1 at0 bad).1 3) 65535 w b6 a6 d6 fun b w b7 a7 d7 =>
      finCR (readF bs 1 at0 bad).1 f i y.1 y.2.1 s t l e b w b7 a7 d7
  else none
theorem headR_eq (bs : List Int) (at0 : Int) (bad wrong : Bool) : gen3_reader_headR.f BIG bs at0 bad wrong = headCR bs at0 bad wrong := by
  unfold gen3_reader_headR.f gen3_reader_headR.b headCR optC finCR
  simp only [veil_eq]
  generalize hasF (readF bs 1 at0 bad).1 0 = h0
  generalize hasF (readF bs 1 at0 bad).1 1 = h1
  generalize hasF (readF bs 1 at0 bad).1 2 = h2
  generalize hasF (readF bs 1 at0 bad).1 3 = h3
  cases h0 <;> cases h1 <;> cases h2 <;> cases h3 <;> rfl
theorem headR.pure (bs : List Int) (hb : inB bs = true) :
    match hdS bs with
    | some (k, f, i, lo, hi, s, t, l, e, b, a) => gen3_reader_headR.f BIG bs 0 false false = some (k, f, i, lo, hi, s, t, l, e, b, false, bs, (a : Int), false) ∧ a ≤ bs.length ∧ validF k f i lo hi s t l e b [] = true
    | none => ∃ k f i lo hi s t l e b a bad, gen3_reader_headR.f BIG bs 0 false false = some (k, f, i, lo, hi, s, t, l, e, b, true, bs, a, bad) := by
  rw [headR_eq]
  unfold headCR
  rw [if_pos ((atOk_iff _ _).2 ⟨hb, by omega, by omega⟩)]
  have h0 : (readF bs 1 0 false).1 = hdK bs ∧ Rel bs (hdSt bs) false (readF bs 1 0 false).2.1 (readF bs 1 0 false).2.2 := by
    unfold hdK hdSt
    by_cases h : 0 < bs.length
    · rw [if_pos h, show (0 : Int) = ((0 : Nat) : Int) from rfl, readF_one bs 0 h]
      refine ⟨?_, ⟨1, rfl, h⟩, rfl, rfl, rfl⟩
      simp [List.getD, List.getElem?_eq_getElem h]
    · rw [if_neg h, show (0 : Int) = ((0 : Nat) : Int) from rfl, readF_end bs 0 (by omega)]
      refine ⟨?_, ⟨0, rfl, by omega⟩, Or.inr rfl⟩
      simp [List.getD, List.getElem?_eq_none (show bs.length ≤ 0 by omega)]
  obtain ⟨e0, r0⟩ := h0
  rw [e0]
  obtain ⟨w1, a1, d1, e1, r1⟩ := optC_rel hb r0 true 4095 (by decide) (by decide) _
  rw [e1]
  obtain ⟨w2, a2, d2, e2, r2⟩ := optC_rel hb r1 true 281474976710655 (by decide) (by decide) _
  rw [e2]
  obtain ⟨lo, hi, w3, a3, d3, e3, r3, q3⟩ := span_rel hb r2
  rw [e3]
  dsimp only
  obtain ⟨w4, a4, d4, e4, r4⟩ := optC_rel hb r3 (hasF (hdK bs) 0) 65535 (by decide) (by decide) _
  rw [e4]
  obtain ⟨w5, a5, d5, e5, r5⟩ := optC_rel hb r4 (hasF (hdK bs) 1) 4095 (by decide) (by decide) _
  rw [e5]
  obtain ⟨w6, a6, d6, e6, r6⟩ := optC_rel hb r5 (hasF (hdK bs) 2) 281474976710655 (by decide) (by decide) _
  rw [e6]
  obtain ⟨w7, a7, d7, e7, r7⟩ := optC_rel hb r6 (hasF (hdK bs) 2) 65535 (by decide) (by decide) _
  rw [e7]
  obtain ⟨w8, a8, d8, e8, r8⟩ := optC_rel hb r7 (hasF (hdK bs) 3) 65535 (by decide) (by decide) _
  rw [e8]
  have hs : (optS bs (hasF (hdK bs) 3) (optS bs (hasF (hdK bs) 2) (optS bs (hasF (hdK bs) 2) (optS bs (hasF (hdK bs) 1) (optS bs (hasF (hdK bs) 0) (spS bs (optS bs true (optS bs true (hdSt bs) 4095).2 281474976710655).2).2.2 65535).2 4095).2 281474976710655).2 65535).2 65535).2 ≠ none → lo = (spS bs (optS bs true (optS bs true (hdSt bs) 4095).2 281474976710655).2).1 ∧ hi = (spS bs (optS bs true (optS bs true (hdSt bs) 4095).2 281474976710655).2).2.1 :=
    fun h => q3 (optS_none (optS_none (optS_none (optS_none (optS_none h)))))
  unfold hdS finCR
  dsimp only
  generalize optS bs (hasF (hdK bs) 3) _ 65535 = B at r8 hs ⊢
  obtain ⟨b, st⟩ := B
  dsimp only at r8 hs ⊢
  obtain ⟨⟨n, rfl, hn⟩, r8⟩ := r8
  cases st with
  | none =>
    dsimp only at r8 ⊢
    cases d8 with
    | true => exact ⟨_, _, _, _, _, _, _, _, _, _, _, _, rfl⟩
    | false =>
      obtain rfl : w8 = true := by rcases r8 with h | h; exact h; cases h
      rw [if_neg (by simp)]
      split <;> exact ⟨_, _, _, _, _, _, _, _, _, _, _, _, rfl⟩
  | some m =>
    obtain ⟨rfl, rfl, e⟩ := r8
    obtain ⟨rfl, rfl⟩ := hs (by simp)
    obtain rfl : n = m := by omega
    dsimp only
    rw [if_neg (c := false = true) (by simp)]
    by_cases hv : validF (hdK bs) (optS bs true (hdSt bs) 4095).1 (optS bs true (optS bs true (hdSt bs) 4095).2 281474976710655).1 (spS bs (optS bs true (optS bs true (hdSt bs) 4095).2 281474976710655).2).1 (spS bs (optS bs true (optS bs true (hdSt bs) 4095).2 281474976710655).2).2.1 (optS bs (hasF (hdK bs) 0) (spS bs (optS bs true (optS bs true (hdSt bs) 4095).2 281474976710655).2).2.2 65535).1 (optS bs (hasF (hdK bs) 1) (optS bs (hasF (hdK bs) 0) (spS bs (optS bs true (optS bs true (hdSt bs) 4095).2 281474976710655).2).2.2 65535).2 4095).1 (optS bs (hasF (hdK bs) 2) (optS bs (hasF (hdK bs) 1) (optS bs (hasF (hdK bs) 0) (spS bs (optS bs true (optS bs true (hdSt bs) 4095).2 281474976710655).2).2.2 65535).2 4095).2 281474976710655).1 (optS bs (hasF (hdK bs) 2) (optS bs (hasF (hdK bs) 2) (optS bs (hasF (hdK bs) 1) (optS bs (hasF (hdK bs) 0) (spS bs (optS bs true (optS bs true (hdSt bs) 4095).2 281474976710655).2).2.2 65535).2 4095).2 281474976710655).2 65535).1 b [] = true
    · rw [if_pos hv, if_neg (by rw [Bool.not_eq_true, Bool.not_eq_false']; exact hv)]
      exact ⟨rfl, hn, hv⟩
    · rw [if_neg hv, if_pos (by simpa using hv)]
      exact ⟨_, _, _, _, _, _, _, _, _, _, _, _, rfl⟩
/-- what a message is told as, when its records end at a place -/
noncomputable def endM (b : List Int) (k f i lo hi s t l e bb : Int) (recs : LR) (a : Nat) : M12 :=
  if a = b.length ∧ b.length ≤ 65499 ∧ validF k f i lo hi s t l e bb recs = true then (k, f, i, lo, hi, s, t, l, e, bb, recs, 0) else z12 4
theorem dec_end (fuel : Nat) (b : List Int) (base : LR) (hb : inB b = true) (k : Nat) (bs2 : LR) (n last i : Int) (a : Nat) (ha : a ≤ b.length) (hi : ¬ i < n) (kk f ii lo hi' s t l e bb : Int) (recs : LR) (hr : smallRecs recs = true) :
    gen3_Decode.l11 fuel b base (k + 1) bs2 n last i false b (a : Int) false kk f ii lo hi' s t l e bb recs = some (endM b kk f ii lo hi' s t l e bb recs a) := by
  rw [gen3_Decode.l11]
  unfold gen3_Decode.b11 endM
  rw [if_neg (c := decide (i < n) = true) (by simpa using hi), if_neg (c := false = true) (by simp), if_pos (c := atOk b (a : Int) = true) ((atOk_iff _ _).2 ⟨hb, by omega, by omega⟩)]
  unfold leftF
  rw [if_neg (c := false = true) (by simp), hr, if_pos (c := true = true) rfl]
  by_cases h1 : a = b.length
  · rw [if_neg (c := (!(!false && ((b.length : Int) - (a : Int) == 0))) = true) (by simp; omega)]
    by_cases h2 : b.length ≤ 65499
    · rw [if_neg (c := decide ((b.length : Int) > 65499) = true) (by simp; omega)]
      cases hv : validF kk f ii lo hi' s t l e bb recs with
      | true => rw [if_neg (c := (!true) = true) (by simp), if_pos ⟨h1, h2, rfl⟩]
      | false => rw [if_pos (c := (!false) = true) rfl, if_neg (by simp)]; all_goals rfl
    · rw [if_pos (c := decide ((b.length : Int) > 65499) = true) (by simp; omega), if_neg (by omega)]; all_goals rfl
  · rw [if_pos (c := (!(!false && ((b.length : Int) - (a : Int) == 0))) = true) (by simp; omega), if_neg (fun h => h1 h.1)]; all_goals rfl
theorem dec_wrong (fuel : Nat) (b : List Int) (base : LR) (k : Nat) (bs2 : LR) (n last i : Int) (bs : List Int) (a : Int) (bad : Bool) (kk f ii lo hi' s t l e bb : Int) (recs : LR) :
    gen3_Decode.l11 fuel b base (k + 1) bs2 n last i true bs a bad kk f ii lo hi' s t l e bb recs = some (z12 4) := by
  rw [gen3_Decode.l11]
  unfold gen3_Decode.b11
  by_cases h : i < n
  · rw [if_pos (c := decide (i < n) = true) (by simpa using h)]; all_goals rfl
  · rw [if_neg (c := decide (i < n) = true) (by simpa using h)]; all_goals rfl
theorem dec_loop (fuel : Nat) (b : List Int) (base : LR) (hb : inB b = true) (bs2 : LR) (hbase : ∀ x ∈ bs2, recOkT x = true) (hbn : bs2.length < 1000000000) (n : Nat) (hn : n ≤ 255) (kk f ii lo hi s t l e bb : Int) : ∀ (m k i : Nat) (last : Int) (a : Nat) (out : LR), i + m = n → m < k → -1 ≤ last → last ≤ 4096 * (i : Int) → a ≤ b.length → out.length ≤ i → (∀ r ∈ out, smallBag r.2.2.2.2.2 = true) →
    gen3_Decode.l11 fuel b base k bs2 (n : Int) last (i : Int) false b (a : Int) false kk f ii lo hi s t l e bb out = some (match recsS b bs2 m last a with
      | none => z12 4
      | some (rs, a2) => endM b kk f ii lo hi s t l e bb (out ++ rs) a2) := by
  obtain ⟨hl, hc⟩ := (inB_iff b).1 hb
  intro m
  induction m with
  | zero =>
    intro k i last a out hi' hk h1 h2 ha ho hs
    obtain ⟨k, rfl⟩ : ∃ k', k = k' + 1 := ⟨k - 1, by omega⟩
    rw [dec_end fuel b base hb k bs2 _ _ _ a ha (by omega) _ _ _ _ _ _ _ _ _ _ out ((smallRecs_iff _).2 ⟨by omega, hs⟩), recsS]
    dsimp only
    rw [List.append_nil]
  | succ m ih =>
    intro k i last a out hi' hk h1 h2 ha ho hs
    obtain ⟨k, rfl⟩ : ∃ k', k = k' + 2 := ⟨k - 2, by omega⟩
    have h3 := one_good b hb last h1 (by omega) bs2 hbase hbn a ha
    rw [show k + 2 = (k + 1) + 1 from rfl, gen3_Decode.l11, recsS]
    unfold gen3_Decode.b11
    simp only [veil_eq]
    rw [if_pos (c := decide ((i : Int) < (n : Int)) = true) (by simp; omega), if_pos (c := (!false) = true) rfl]
    have hw : Go.IntKind.wrap .i64 ((i : Int) + 1) = ((i + 1 : Nat) : Int) := by rw [wrap_small _ (by omega) (by omega)]; omega
    have hlim : ∀ x : REC, (out.length + ([x] : LR).length) * 72 ≤ lim := fun x => by simp [lim]; omega
    cases hr : recS b bs2 last a with
    | none =>
      rw [hr] at h3
      obtain ⟨id, inc, st, l1, l2, cut, bag, a', bad', h3, h4⟩ := h3
      rw [h3]
      dsimp only
      rw [if_pos (hlim _)]
      exact dec_wrong fuel b base k bs2 _ _ _ _ _ _ _ _ _ _ _ _ _ _ _ _ _
    | some p =>
      obtain ⟨r, a2⟩ := p
      rw [hr] at h3
      dsimp only at h3 ⊢
      obtain ⟨_, l2, g1, g2⟩ := recS_sound hc hr
      have hsm := recS_small hc hbase hr
      rw [h3]
      dsimp only
      rw [if_pos (hlim _), hw, ih (k + 1) (i + 1) r.1 a2 (out ++ [r]) (by omega) (by omega) (by omega) (by omega) l2 (by simp; omega) (fun x hx => by
        rcases List.mem_append.1 hx with h | h
        · exact hs x h
        · rw [List.mem_singleton.1 h]; exact hsm)]
      cases recsS b bs2 m r.1 a2 with
      | none => rfl
      | some q =>
        obtain ⟨rs, a3⟩ := q
        dsimp only
        rw [List.append_assoc]
        all_goals rfl
theorem risen_len : ∀ (l : LR) (last : Int), (∀ r ∈ l, r.1 ≤ 4095) → risen last l → -1 ≤ last → last ≤ 4095 → (l.length : Int) ≤ 4095 - last
  | [], last, _, _, _, h => by simp; omega
  | r :: l, last, h, h1, h2, h3 => by
    have := risen_len l r.1 (fun x hx => h x (List.mem_cons_of_mem _ hx)) h1.2 (by have := h1.1; omega) (h r (List.mem_cons_self ..))
    have := h1.1
    simp
    omega
theorem sorted_len {l : LR} (h : sortedF l = true) : l.length < 1000000000 := by
  obtain ⟨h1, h2⟩ := sorted_facts h
  have := risen_len l (-1) (fun r hr => (recOk_facts (h1 r hr)).2.1) h2 (by omega) (by omega)
  omega
theorem Dec3.pure (b : List Int) (base : LR) (hb : inB b = true) (hs : smallRecs base = true) : gen3_Decode.f BIG b base = some (dec3 b base) := by
  obtain ⟨hl, hc⟩ := (inB_iff b).1 hb
  unfold gen3_Decode.f gen3_Decode.b dec3
  simp only [veil_eq]
  rw [hs, hb]
  cases hso : sortedF base with
  | false => rfl
  | true =>
    obtain ⟨hbase, hris⟩ := sorted_facts hso
    have hbn := sorted_len hso
    have hh := headR.pure b hb
    rw [if_pos (c := true = true) rfl, if_neg (c := (!true) = true) (by simp), if_pos (c := true = true) rfl]
    unfold decS
    cases hd : hdS b with
    | none =>
      rw [hd] at hh
      obtain ⟨k, f, i, lo, hi, s, t, l, e, bb, a, bad, hh⟩ := hh
      rw [hh]
      dsimp only
      have hfw : ∀ m, gen3_reader_form.f BIG b a bad true m = some (0, true, b, a, bad) := fun m => form_wrong b a bad m
      have hdw : ∀ (bs2 : LR) (n last i1 : Int) (bs : List Int) (a1 : Int) (bad1 : Bool) (kk f1 i2 lo1 hi1 s1 t1 l1 e1 b1 : Int) (recs : LR), gen3_Decode.l11 BIG b base BIG bs2 n last i1 true bs a1 bad1 kk f1 i2 lo1 hi1 s1 t1 l1 e1 b1 recs = some (z12 4) := by
        intro bs2 n last i1 bs a1 bad1 kk f1 i2 lo1 hi1 s1 t1 l1 e1 b1 recs
        have := dec_wrong BIG b base (BIG - 1) bs2 n last i1 bs a1 bad1 kk f1 i2 lo1 hi1 s1 t1 l1 e1 b1 recs
        rw [← big_eq] at this
        exact this
      simp only [hfw, hdw]
      cases (bb == 0) <;> cases hasF k 4 <;> rfl
    | some p =>
      obtain ⟨k, f, i, lo, hi, s, t, l, e, bb, a⟩ := p
      rw [hd] at hh
      dsimp only at hh ⊢
      obtain ⟨hh, l1, hv⟩ := hh
      rw [hh]
      dsimp only
      have key : (if hasF k 4 = true then (match gen3_reader_form.f BIG b (a : Int) false false 255 with
            | none => none
            | some y1 => gen3_Decode.l11 BIG b base BIG (baseF bb base) y1.1 (-1) 0 y1.2.1 y1.2.2.1 y1.2.2.2.1 y1.2.2.2.2 k f i lo hi s t l e bb []) else some (endM b k f i lo hi s t l e bb [] a)) =
          some (match (match restS b (baseF bb base) k a with
            | none => none
            | some (rs, a2) => if a2 = b.length ∧ b.length ≤ 65499 ∧ validF k f i lo hi s t l e bb rs = true then some (k, f, i, lo, hi, s, t, l, e, bb, rs) else none) with
            | none => z12 4
            | some m => okM m) := by
        unfold restS
        cases h4 : hasF k 4 with
        | false =>
          rw [if_neg (by simp), if_neg (by simp)]
          dsimp only
          unfold endM
          split <;> rfl
        | true =>
          rw [if_pos rfl, if_pos rfl]
          have hg := form_good b a 255 hb (by decide) (by decide) l1
          cases ht : tk b a 255 with
          | none =>
            rw [ht] at hg
            obtain ⟨a', bad, hg, h2⟩ := hg
            rw [hg]
            dsimp only
            rw [big_eq]
            exact dec_wrong _ b base _ _ _ _ _ _ _ _ _ _ _ _ _ _ _ _ _ _ _
          | some w =>
            obtain ⟨n, a1⟩ := w
            rw [ht] at hg
            dsimp only at hg ⊢
            obtain ⟨_, n0, n1, _, _, l2⟩ := tk_facts hc ht
            rw [hg]
            dsimp only
            have hbl : (baseF bb base).length < 1000000000 := by
              unfold baseF
              split
              · simp
              · exact hbn
            have := dec_loop BIG b base hb (baseF bb base) (baseF_all hbase bb) hbl n.toNat (by omega) k f i lo hi s t l e bb n.toNat BIG 0 (-1) a1 [] (by omega) (by rw [BIG_eq]; omega) (by omega) (by omega) l2 (by simp) (by simp)
            rw [show ((n.toNat : Nat) : Int) = n from by omega] at this
            rw [show ((0 : Nat) : Int) = 0 from rfl] at this
            rw [this]
            cases recsS b (baseF bb base) n.toNat (-1) a1 with
            | none => rfl
            | some q =>
              obtain ⟨rs, a3⟩ := q
              dsimp only
              rw [List.nil_append]
              unfold endM
              split <;> rfl
      have hend : (if atOk b (a : Int) = true then (if (!(!false && (leftF b (a : Int) false == 0))) = true then some (z12 4) else if decide (((b.length : Nat) : Int) > 65499) = true then some (z12 4) else if (!validF k f i lo hi s t l e bb []) = true then some (z12 4) else some (k, f, i, lo, hi, s, t, l, e, bb, [], 0)) else none) = some (endM b k f i lo hi s t l e bb [] a) := by
        have := dec_end 0 b base hb 0 [] 0 0 0 a l1 (by omega) k f i lo hi s t l e bb [] rfl
        rw [← this, gen3_Decode.l11]
        unfold gen3_Decode.b11
        rfl
      refine Eq.trans ?_ key
      unfold baseF
      cases (bb == 0) <;> cases hasF k 4 <;> first | exact hend | rfl
theorem dec3_head {b : List Int} {base : LR} (h : errX (dec3 b base) = 0) : head3X b = bareX (dec3 b base) := by
  unfold dec3 at h ⊢
  by_cases hs : sortedF base = true
  · rw [if_pos hs] at h ⊢
    cases hd : decS b base with
    | none => rw [hd] at h; exact absurd h (by unfold errX z12; decide)
    | some m =>
      unfold decS at hd
      cases hh : hdS b with
      | none => rw [hh] at hd; cases hd
      | some p =>
        obtain ⟨k, f, i, lo, hi, s, t, l, e, b', a⟩ := p
        rw [hh] at hd
        dsimp only at hd
        cases hr : restS b (baseF b' base) k a with
        | none => rw [hr] at hd; cases hd
        | some q =>
          obtain ⟨rs, a2⟩ := q
          rw [hr] at hd
          dsimp only at hd
          by_cases hc : a2 = b.length ∧ b.length ≤ 65499 ∧ validF k f i lo hi s t l e b' rs = true
          · rw [if_pos hc] at hd
            cases hd
            unfold head3X
            rw [hh]
            all_goals rfl
          · rw [if_neg hc] at hd; cases hd
  · rw [if_neg hs] at h
    exact absurd h (by unfold errX z12; decide)
noncomputable def law15_Gen3Image_E : Env := ⟨th, gam [(17, s_few8), (18, s_law15_awake), (20, s_valid), (21, s_sorted), (23, s_law15_Body), (26, s_gen3_Head), (28, s_alike10), (29, s_gen3_Decode), (30, s_msg_Head), (31, s_allal)], fun i => ⟨[], [], []⟩⟩
noncomputable def law15_Gen3Image.k (rs : List AV) (os : List Den.Obj) : Option Bool :=
  match rs, os with
  | [.d .bool r0], [] => some r0
  | _, _ => none
noncomputable def law15_Gen3Image.b (b : List Int) (base : List (Int × Int × Int × (Int × Int) × Bool × List (Int × List Int))) : Option Bool :=
  (if (decide (((((List.length b)) : Nat) : Int) > (2000 : Int))) then (match (veil (law15_awake.f BIG ())) with | none => none | some y0 => some (y0)) else (if (smallRecs base) then (if (!(few8 base)) then (match (veil (law15_awake.f BIG ())) with | none => none | some y1 => some (y1)) else (match (veil (gen3_Decode.f BIG b base)) with | none => none | some y2 => (if (smallRecs base) then (if (!(sortedF base)) then (if (y2.2.2.2.2.2.2.2.2.2.2.2 == (1 : Int)) then (if ((smallRecs y2.2.2.2.2.2.2.2.2.2.2.1) && (smallRecs ([] : List (Int × (Int × (Int × ((Int × Int) × (Bool × (List (Int × (List Int))))))))))) then (if ((y2.1 == 0) && ((y2.2.1 == 0) && ((y2.2.2.1 == 0) && ((y2.2.2.2.1 == 0) && ((y2.2.2.2.2.1 == 0) && ((y2.2.2.2.2.2.1 == 0) && ((y2.2.2.2.2.2.2.1 == 0) && ((y2.2.2.2.2.2.2.2.1 == 0) && ((y2.2.2.2.2.2.2.2.2.1 == 0) && ((y2.2.2.2.2.2.2.2.2.2.1 == 0) && (allGo y2.2.2.2.2.2.2.2.2.2.2.1 ([] : List (Int × (Int × (Int × ((Int × Int) × (Bool × (List (Int × (List Int)))))))))))))))))))) then (match (veil (law15_awake.f BIG ())) with | none => none | some y3 => some (y3)) else some (false)) else none) else some (false)) else (if (y2.2.2.2.2.2.2.2.2.2.2.2 != (0 : Int)) then (if (y2.2.2.2.2.2.2.2.2.2.2.2 == (4 : Int)) then (if ((smallRecs y2.2.2.2.2.2.2.2.2.2.2.1) && (smallRecs ([] : List (Int × (Int × (Int × ((Int × Int) × (Bool × (List (Int × (List Int))))))))))) then (if ((y2.1 == 0) && ((y2.2.1 == 0) && ((y2.2.2.1 == 0) && ((y2.2.2.2.1 == 0) && ((y2.2.2.2.2.1 == 0) && ((y2.2.2.2.2.2.1 == 0) && ((y2.2.2.2.2.2.2.1 == 0) && ((y2.2.2.2.2.2.2.2.1 == 0) && ((y2.2.2.2.2.2.2.2.2.1 == 0) && ((y2.2.2.2.2.2.2.2.2.2.1 == 0) && (allGo y2.2.2.2.2.2.2.2.2.2.2.1 ([] : List (Int × (Int × (Int × ((Int × Int) × (Bool × (List (Int × (List Int)))))))))))))))))))) then (match (veil (law15_awake.f BIG ())) with | none => none | some y4 => some (y4)) else some (false)) else none) else some (false)) else (match (veil (gen3_Head.f BIG b)) with | none => none | some y5 => (if (smallRecs y2.2.2.2.2.2.2.2.2.2.2.1) then (if (validF y2.1 y2.2.1 y2.2.2.1 y2.2.2.2.1 y2.2.2.2.2.1 y2.2.2.2.2.2.1 y2.2.2.2.2.2.2.1 y2.2.2.2.2.2.2.2.1 y2.2.2.2.2.2.2.2.2.1 y2.2.2.2.2.2.2.2.2.2.1 y2.2.2.2.2.2.2.2.2.2.2.1) then (if ((smallRecs ([] : List (Int × (Int × (Int × ((Int × Int) × (Bool × (List (Int × (List Int)))))))))) && (smallRecs y5.2.2.2.2.2.2.2.2.2.2.1)) then (if (allGo ([] : List (Int × (Int × (Int × ((Int × Int) × (Bool × (List (Int × (List Int))))))))) y5.2.2.2.2.2.2.2.2.2.2.1) then (if (y5.2.2.2.2.2.2.2.2.2.2.2 == (0 : Int)) then (match (veil (msg_Head.f BIG y2.1 y2.2.1 y2.2.2.1 y2.2.2.2.1 y2.2.2.2.2.1 y2.2.2.2.2.2.1 y2.2.2.2.2.2.2.1 y2.2.2.2.2.2.2.2.1 y2.2.2.2.2.2.2.2.2.1 y2.2.2.2.2.2.2.2.2.2.1 y2.2.2.2.2.2.2.2.2.2.2.1)) with | none => none | some y6 => (if ((smallRecs y5.2.2.2.2.2.2.2.2.2.2.1) && (smallRecs y6.2.2.2.2.2.2.2.2.2.2)) then (if ((y5.1 == y6.1) && ((y5.2.1 == y6.2.1) && ((y5.2.2.1 == y6.2.2.1) && ((y5.2.2.2.1 == y6.2.2.2.1) && ((y5.2.2.2.2.1 == y6.2.2.2.2.1) && ((y5.2.2.2.2.2.1 == y6.2.2.2.2.2.1) && ((y5.2.2.2.2.2.2.1 == y6.2.2.2.2.2.2.1) && ((y5.2.2.2.2.2.2.2.1 == y6.2.2.2.2.2.2.2.1) && ((y5.2.2.2.2.2.2.2.2.1 == y6.2.2.2.2.2.2.2.2.1) && ((y5.2.2.2.2.2.2.2.2.2.1 == y6.2.2.2.2.2.2.2.2.2.1) && (allGo y5.2.2.2.2.2.2.2.2.2.2.1 y6.2.2.2.2.2.2.2.2.2.2))))))))))) then (match (veil (law15_Body.f BIG y2.1 y2.2.1 y2.2.2.1 y2.2.2.2.1 y2.2.2.2.2.1 y2.2.2.2.2.2.1 y2.2.2.2.2.2.2.1 y2.2.2.2.2.2.2.2.1 y2.2.2.2.2.2.2.2.2.1 y2.2.2.2.2.2.2.2.2.2.1 y2.2.2.2.2.2.2.2.2.2.2.1 base)) with | none => none | some y7 => (if ((ByteArray.toList (strOf y7)) == (ByteArray.toList (strOf b))) then (match (veil (law15_awake.f BIG ())) with | none => none | some y8 => some (y8)) else some (false))) else some (false)) else none)) else some (false)) else some (false)) else none) else some (false)) else none)))) else none))) else none))
noncomputable def law15_Gen3Image.f (fuel : Nat) (b : List Int) (base : List (Int × Int × Int × (Int × Int) × Bool × List (Int × List Int))) : Option Bool := law15_Gen3Image.b b base
theorem law15_Gen3Image.eq (fuel : Nat) (b : List Int) (base : List (Int × Int × Int × (Int × Int) × Bool × List (Int × List Int))) : (denF law15_Gen3Image_E loopN fuel Try.f7 [.raw] [.d (.sl (.int .u8)) b, .d (.sl (.pair (.int .i64) (.pair (.int .i64) (.pair (.int .i64) (.pair (.pair (.int .i64) (.int .i64)) (.pair .bool (.sl (.pair (.int .i64) (.sl (.int .u8)))))))))) base] [] law15_Gen3Image.k) = law15_Gen3Image.f fuel b base := by
  kernel_rfl
theorem HeadX.pure {bs : List Int} (hb : inB bs = true) : gen3_Head.f BIG bs = some (head3X bs) := Head3.pure hb
theorem MHead.pure (k f i lo hi s t l e b : Int) (recs : LR) : msg_Head.f BIG k f i lo hi s t l e b recs = some (k, f, i, lo, hi, s, t, l, e, b, []) := rfl
theorem small_nil : smallRecs [] = true := rfl
theorem all_nil : allGo [] [] = true := rfl
theorem Gen3Image.pure (b : List Int) (base : LR) (hl : (∀ c ∈ b, 0 ≤ c ∧ c ≤ 255) ∧ smallRecs base = true) : law15_Gen3Image.f 0 b base = some true := by
  obtain ⟨hb, hs⟩ := hl
  unfold law15_Gen3Image.f law15_Gen3Image.b
  simp only [veil_eq]
  rw [hs, Awake15.pure]
  by_cases h2 : (b.length : Int) > 2000
  · rw [if_pos (by simpa using h2)]
  · rw [if_neg (by simpa using h2)]
    have hin : inB b = true := (inB_iff b).2 ⟨by omega, hb⟩
    cases h9 : few8 base
    · rfl
    have hln := few_len h9
    rw [Dec3.pure b base hin hs]
    dsimp only
    cases hso : sortedF base with
    | false =>
      have e : dec3 b base = z12 1 := by unfold dec3; rw [hso]; all_goals rfl
      rw [e]
      simp [z12, small_nil, all_nil]
    | true =>
      cases hd : decS b base with
      | none =>
        have e : dec3 b base = z12 4 := by unfold dec3; rw [hso, hd]; all_goals rfl
        rw [e]
        simp [z12, small_nil, all_nil]
      | some m =>
        obtain ⟨k, f, i, lo, hi, s, t, l, e, b', rs⟩ := m
        have e0 : dec3 b base = (k, f, i, lo, hi, s, t, l, e, b', rs, 0) := by unfold dec3; rw [hso, hd]; all_goals rfl
        obtain ⟨e1, e2, e3, _⟩ := decS_sound hb hd
        rw [HeadX.pure hin, dec3_head (base := base) (by rw [e0]; rfl), e0]
        dsimp only [bareX]
        rw [MHead.pure, Body15.pure k f i lo hi s t l e b' rs base e2 (sorted_facts hso).1 hln, e1, e2, valid_small e2]
        simp [small_nil, all_nil]
theorem gen3Image_envOk : EnvOk Try.prog law15_Gen3Image_E := env_ok (l := [(17, s_few8), (18, s_law15_awake), (20, s_valid), (21, s_sorted), (23, s_law15_Body), (26, s_gen3_Head), (28, s_alike10), (29, s_gen3_Decode), (30, s_msg_Head), (31, s_allal)]) th_ok any_ok ⟨⟨s_few8_ok, s_few8_det⟩, ⟨s_law15_awake_ok, s_law15_awake_det⟩, ⟨s_valid_ok, s_valid_det⟩, ⟨s_sorted_ok, s_sorted_det⟩, ⟨s_law15_Body_ok, s_law15_Body_det⟩, ⟨s_gen3_Head_ok, s_gen3_Head_det⟩, ⟨s_alike10_ok, s_alike10_det⟩, ⟨s_gen3_Decode_ok, s_gen3_Decode_det⟩, ⟨s_msg_Head_ok, s_msg_Head_det⟩, ⟨s_allal_ok, s_allal_det⟩, trivial⟩ _
theorem gen3Image_tells (b : List Int) (base : List (Int × Int × Int × (Int × Int) × Bool × List (Int × List Int))) (hl : (∀ c ∈ b, 0 ≤ c ∧ c ≤ 255) ∧ smallRecs base = true) : denF law15_Gen3Image_E loopN 0 Try.f7 [.raw] [.d (.sl (.int .u8)) b, .d (.sl (.pair (.int .i64) (.pair (.int .i64) (.pair (.int .i64) (.pair (.pair (.int .i64) (.int .i64)) (.pair .bool (.sl (.pair (.int .i64) (.sl (.int .u8)))))))))) base] [] isTrue = some () := by
  rw [denF_any gen3Image_envOk.D ((law15_Gen3Image.eq 0 b base).trans (Gen3Image.pure b base hl)) (out := [.d .bool true]) (os := []) (fun rs ros hk => by
    unfold law15_Gen3Image.k at hk
    split at hk
    · first | (cases hk; exact ⟨rfl, rfl⟩) | (have e := Option.some.inj hk; rw [← e]; exact ⟨rfl, rfl⟩)
    · cases hk)]
  rfl
set_option maxRecDepth 100000 in
theorem gen3Image_lifted (os : Os) (started : os.Started) (H : Type) (enc : TypeId × Value → H) :
    ReturnsInHanded {} Try.checked os 7 .any (Rows.gen3ImageSpec.pre6 enc Try.prog Try.f7 Rows.gen3ImageRow.domain false) (Rows.gen3ImageSpec.post enc Try.prog Try.f7 false true false false) := by
  refine returnsInHanded_of_change_sized (C := Try.checked) Try.own started (by kernel_rfl) Try.func7
    (ChangeSpec.witness6 (enc := enc) (C := Try.checked) false ⟨#[], #[.slice none 0 0, .slice none 0 0], []⟩ 8 (by kernel_rfl) (by kernel_rfl) (by kernel_rfl) (by kernel_rfl)) ?_
  intro W base args ds gs before hval hW _ hwt _
  exact law_contract gen3Image_envOk Try.func7 rfl [(.sl (.int .u8), false), ((.sl (.pair (.int .i64) (.pair (.int .i64) (.pair (.int .i64) (.pair (.pair (.int .i64) (.int .i64)) (.pair .bool (.sl (.pair (.int .i64) (.sl (.int .u8)))))))))), false)] (tb := 4) (by kernel_rfl) (by kernel_rfl) (by kernel_rfl) rfl
    (fun ds h => by match ds, h with | [_, _], _ => rfl) Try.laidOut Try.mapsRow Try.slicesSize (fun y hg => ⟨0, gen3Image_tells y.1 y.2.1 ⟨good_bytes hg.1, good_recs hg.2.1⟩⟩) W base args ds gs before hval hW hwt
theorem gen3Image_holds : Rows.Gen3ImageSaid :=
  OpenClaim.holds_of_wide 7 Try.f7 rfl rfl rfl rfl rfl rfl rfl ⟨rfl, rfl, rfl, rfl, rfl⟩ rfl rfl rfl rfl rfl (by kernel_rfl) Try.func7 (by kernel_rfl)
    (of_decide_eq_true (by kernel_rfl)) (by unfold Func.isWrapper; first | (rw [if_pos (by decide +kernel)]; kernel_rfl) | (rw [if_neg (by decide +kernel)]; exact ⟨rfl, rfl⟩))
    (fun os started H enc _ => gen3Image_lifted os started H enc)
end Go.Proofs.Ytnlkghcibpopgaa
