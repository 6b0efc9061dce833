/- XlateDownUp, part 4: what the row leans on. -/
import Derived.Test.YtnlkghcibpopgaaZXlateDownUp3
set_option linter.unusedVariables false
set_option linter.unusedSimpArgs false
set_option maxRecDepth 100000
namespace Go.Proofs.Ytnlkghcibpopgaa
open Go.Den
theorem form_bad (bs : List Int) (a : Nat) (most : Int) (hb : inB bs = true) (ha : a ≤ bs.length) : gen3_reader_form.f BIG bs (a : Int) true false most = some (0, true, bs, (a : Int), true) := by
 unfold gen3_reader_form.f gen3_reader_form.b
 simp only [veil_eq]
 rw [if_neg (by simp), From.bad bs a most hb ha]
 rfl
theorem form_good (bs : List Int) (a : Nat) (most : Int) (hb : inB bs = true) (m0 : 0 ≤ most) (m1 : most < 9223372036854775808) (ha : a ≤ bs.length) :
  match tk bs a most with
  | some (w, a2) => gen3_reader_form.f BIG bs (a : Int) false false most = some (w, false, bs, (a2 : Int), false)
  | none => ∃ (a' : Nat) (bad : Bool), gen3_reader_form.f BIG bs (a : Int) false false most = some (0, true, bs, (a' : Int), bad) ∧ a' ≤ bs.length := by
 have h := Got.tk (From.pure bs a most hb m0 m1 ha)
 unfold gen3_reader_form.f gen3_reader_form.b
 simp only [veil_eq]
 rw [if_neg (by simp)]
 revert h
 cases tk bs a most with
 | some p =>
  intro h
  obtain ⟨w, a2⟩ := p
  try dsimp only at h ⊢
  rw [h]
  all_goals rfl
 | none =>
  intro h
  obtain ⟨a', bad, h, h2⟩ := h
  refine ⟨a', bad, ?_, h2⟩
  rw [h]
  all_goals rfl
abbrev HD := Int × Int × Int × Int × Int × Int × Int × Int × Int × Int × LR × Bool × List Int × Int × Bool
noncomputable def optC {R : Type} (c : Bool) (most : Int) (wr : Bool) (bs : List Int) (a : Int) (bad : Bool) (k : Int → Bool → List Int → Int → Bool → Option R) : Option R :=
 if c then (match gen3_reader_form.f BIG bs a bad wr most with
  | none => none
  | some y => k y.1 y.2.1 y.2.2.1 y.2.2.2.1 y.2.2.2.2)
 else k 0 wr bs a bad
noncomputable def finC (k f i lo hi s t l e b : Int) (wr : Bool) (bs : List Int) (a : Int) (bad : Bool) : Option HD :=
 if bad then some (k, f, i, lo, hi, s, t, l, e, b, [], true, bs, a, bad)
 else if (!(validF k f i lo hi s t l e b [])) then some (k, f, i, lo, hi, s, t, l, e, b, [], true, bs, a, bad)
 else some (k, f, i, lo, hi, s, t, l, e, b, [], wr, bs, a, bad)
noncomputable def headC (bs : List Int) (at0 : Int) (bad wrong : Bool) : Option HD :=
 if atOk bs at0 then
  optC true 4095 wrong bs (readF bs 1 at0 bad).2.1 (readF bs 1 at0 bad).2.2 fun f w b1 a1 d1 =>
  optC true 281474976710655 w b1 a1 d1 fun i w b2 a2 d2 =>
  match gen3_reader_span.f BIG b2 a2 d2 w with
  | none => none
  | some y =>
   optC (hasF (readF bs 1 at0 bad).1 0) 65535 y.2.2.1 y.2.2.2.1 y.2.2.2.2.1 y.2.2.2.2.2 fun s w b3 a3 d3 =>
   optC (hasF (readF bs 1 at0 bad).1 1) 4095 w b3 a3 d3 fun t w b4 a4 d4 =>
   optC (hasF (readF bs 1 at0 bad).1 2) 281474976710655 w b4 a4 d4 fun l w b5 a5 d5 =>
   optC (hasF (readF bs 1 at0 bad).1 2) 65535 w b5 a5 d5 fun e w b6 a6 d6 =>
   optC (hasF (readF bs 1 at0 bad).1 3) 65535 w b6 a6 d6 fun b w b7 a7 d7 =>
   finC (readF bs 1 at0 bad).1 f i y.1 y.2.1 s t l e b w b7 a7 d7
 else none
theorem head_eq (bs : List Int) (at0 : Int) (bad wrong : Bool) : gen3_reader_head.f BIG bs at0 bad wrong = headC bs at0 bad wrong := by
 unfold gen3_reader_head.f gen3_reader_head.b headC optC finC
 simp only [veil_eq]
 generalize hasF (readF bs 1 at0 bad).1 0 = h0
 generalize hasF (readF bs 1 at0 bad).1 1 = h1
 generalize hasF (readF bs 1 at0 bad).1 2 = h2
 generalize hasF (readF bs 1 at0 bad).1 3 = h3
 cases h0 <;> cases h1 <;> cases h2 <;> cases h3 <;> rfl
def Rel (bs : List Int) (st : Option Nat) (wr : Bool) (a : Int) (bad : Bool) : Prop :=
 (∃ n : Nat, a = (n : Int) ∧ n ≤ bs.length) ∧ match st with
  | some n => wr = false ∧ bad = false ∧ a = (n : Int)
  | none => wr = true ∨ bad = true
noncomputable def optS (bs : List Int) (c : Bool) (st : Option Nat) (most : Int) : Int × Option Nat :=
 if c then (match st with
  | none => (0, none)
  | some a => match tk bs a most with
   | some (w, a2) => (w, some a2)
   | none => (0, none))
 else (0, st)
theorem optC_rel {R : Type} {bs : List Int} {st : Option Nat} {wr : Bool} {a : Int} {bad : Bool} (hb : inB bs = true) (h : Rel bs st wr a bad) (c : Bool) (most : Int) (m0 : 0 ≤ most) (m1 : most < 9223372036854775808) (k : Int → Bool → List Int → Int → Bool → Option R) :
  ∃ wr' a' bad', optC c most wr bs a bad k = k (optS bs c st most).1 wr' bs a' bad' ∧ Rel bs (optS bs c st most).2 wr' a' bad' := by
 obtain ⟨hl, hc⟩ := (inB_iff bs).1 hb
 obtain ⟨⟨n, rfl, hn⟩, h⟩ := h
 cases c with
 | false => exact ⟨wr, n, bad, rfl, ⟨n, rfl, hn⟩, h⟩
 | true =>
  cases st with
  | none =>
   cases wr with
   | true => exact ⟨true, n, bad, rfl, ⟨n, rfl, hn⟩, Or.inl rfl⟩
   | false =>
    obtain rfl : bad = true := by rcases h with h | h; cases h; exact h
    refine ⟨true, n, true, ?_, ⟨n, rfl, hn⟩, Or.inl rfl⟩
    unfold optC
    rw [if_pos rfl, form_bad bs n most hb hn]
    rfl
  | some m =>
   obtain ⟨rfl, rfl, e⟩ := h
   obtain rfl : n = m := by omega
   have hg := form_good bs n most hb m0 m1 hn
   unfold optC optS
   rw [if_pos rfl, if_pos rfl]
   dsimp only
   split at hg
   ·rename_i w a2 ht
    obtain ⟨_, _, _, _, _, h2⟩ := tk_facts hc ht
    rw [hg]
    try simp only [ht]
    exact ⟨false, a2, false, rfl, ⟨a2, rfl, h2⟩, rfl, rfl, rfl⟩
   ·rename_i ht
    obtain ⟨a', bad', hg, h2⟩ := hg
    rw [hg]
    try simp only [ht]
    exact ⟨true, a', bad', rfl, ⟨a', rfl, h2⟩, Or.inl rfl⟩
noncomputable def spS (bs : List Int) (st : Option Nat) : Int × Int × Option Nat :=
 match st with
 | some n => (match bs[n]? with
  | some c => if okS (c / 16) (c % 16) then (c / 16, c % 16, some (n + 1)) else (0, 0, none)
  | none => (0, 0, none))
 | none => (0, 0, none)
theorem ofGo_tab : (List.range 256).all (fun n => (ofGo allF (n : Int)).2.2 == okS ((n : Int) / 16) ((n : Int) % 16)) = true := by kernel_rfl
theorem ofGo_ok3 (c : Int) (h0 : 0 ≤ c) (h1 : c ≤ 255) : (ofGo allF c).2.2 = okS (c / 16) (c % 16) := by
 have := List.all_eq_true.1 ofGo_tab c.toNat (by simp; omega)
 rw [show ((c.toNat : Nat) : Int) = c from by omega] at this
 simpa using this
theorem span_rel {bs : List Int} {st : Option Nat} {wr : Bool} {a : Int} {bad : Bool} (hb : inB bs = true) (h : Rel bs st wr a bad) :
  ∃ lo hi wr' a' bad', gen3_reader_span.f BIG bs a bad wr = some (lo, hi, wr', bs, a', bad') ∧ Rel bs (spS bs st).2.2 wr' a' bad' ∧ ((spS bs st).2.2 ≠ none → lo = (spS bs st).1 ∧ hi = (spS bs st).2.1) := by
 obtain ⟨hl, hc⟩ := (inB_iff bs).1 hb
 obtain ⟨⟨n, rfl, hn⟩, h⟩ := h
 have hat : atOk bs (n : Int) = true := (atOk_iff _ _).2 ⟨hb, by omega, by omega⟩
 have ha' := (atOk_iff _ _).1 (readF_at bs 1 (n : Int) bad hat)
 have hex : ∃ m : Nat, (readF bs 1 (n : Int) bad).2.1 = (m : Int) ∧ m ≤ bs.length := ⟨(readF bs 1 (n : Int) bad).2.1.toNat, by omega, by omega⟩
 unfold gen3_reader_span.f gen3_reader_span.b
 simp only [veil_eq]
 rw [if_pos hat]
 cases wr with
 | true =>
  refine ⟨_, _, true, _, _, rfl, ⟨hex, ?_⟩, ?_⟩
  ·cases st with
   | none => exact Or.inl rfl
   | some m => exact absurd h.1 (by simp)
  ·cases st with
   | none => intro h; exact absurd rfl h
   | some m => exact absurd h.1 (by simp)
 | false =>
  cases st with
  | none =>
   obtain rfl : bad = true := by rcases h with h | h; cases h; exact h
   refine ⟨_, _, _, _, _, rfl, ⟨hex, ?_⟩, fun h => absurd rfl h⟩
   refine Or.inr ?_
   rw [readF_bad]
  | some m =>
   obtain ⟨_, rfl, e⟩ := h
   obtain rfl : n = m := by omega
   by_cases hlt : n < bs.length
   ·have hs : spS bs (some n) = if okS (bs[n] / 16) (bs[n] % 16) then (bs[n] / 16, bs[n] % 16, some (n + 1)) else (0, 0, none) := by
     unfold spS; dsimp only
     rw [List.getElem?_eq_getElem hlt]
    rw [hs]
    obtain ⟨c0, c1⟩ := hc _ (List.getElem_mem hlt)
    rw [readF_one bs n hlt]
    dsimp only
    rw [if_neg (by simp)]
    have ht := ofGo_ok3 _ c0 c1
    have hd := ofGo_div _ c0 c1
    generalize bs[n] = c at c0 c1 ht hd ⊢
    refine ⟨_, _, _, _, _, rfl, ?_, ?_⟩
    ·refine ⟨⟨n + 1, rfl, hlt⟩, ?_⟩
     rw [ht]
     cases ho : okS (c / 16) (c % 16) with
     | true => exact ⟨rfl, rfl, rfl⟩
     | false => exact Or.inl rfl
    ·cases ho : okS (c / 16) (c % 16) with
     | true => intro _; rw [hd.1 ho]; exact ⟨rfl, rfl⟩
     | false => intro h; exact absurd rfl h
   ·have hs : spS bs (some n) = (0, 0, none) := by
     unfold spS; dsimp only
     rw [List.getElem?_eq_none (by omega)]
    rw [hs, readF_end bs n (by omega)]
    exact ⟨_, _, _, _, _, rfl, ⟨⟨n, rfl, hn⟩, Or.inr rfl⟩, fun h => absurd rfl h⟩
noncomputable def hdSt (bs : List Int) : Option Nat := if 0 < bs.length then some 1 else none
noncomputable def hdK (bs : List Int) : Int := bs.getD 0 0
noncomputable def hdS (bs : List Int) : Option (Int × Int × Int × Int × Int × Int × Int × Int × Int × Int × Nat) :=
 let k := hdK bs
 let f := optS bs true (hdSt bs) 4095
 let i := optS bs true f.2 281474976710655
 let p := spS bs i.2
 let s := optS bs (hasF k 0) p.2.2 65535
 let t := optS bs (hasF k 1) s.2 4095
 let l := optS bs (hasF k 2) t.2 281474976710655
 let e := optS bs (hasF k 2) l.2 65535
 let b := optS bs (hasF k 3) e.2 65535
 match b.2 with
 | none => none
 | some a => if validF k f.1 i.1 p.1 p.2.1 s.1 t.1 l.1 e.1 b.1 [] then some (k, f.1, i.1, p.1, p.2.1, s.1, t.1, l.1, e.1, b.1, a) else none
theorem optS_none {bs : List Int} {c : Bool} {st : Option Nat} {most : Int} (h : (optS bs c st most).2 ≠ none) : st ≠ none := by
 intro e
 subst e
 cases c <;> exact h rfl
theorem head.pure (bs : List Int) (hb : inB bs = true) :
  match hdS bs with
  | some (k, f, i, lo, hi, s, t, l, e, b, a) => gen3_reader_head.f BIG bs 0 false false = some (k, f, i, lo, hi, s, t, l, e, b, [], false, bs, (a : Int), false) ∧ a ≤ bs.length ∧ validF k f i lo hi s t l e b [] = true
  | none => ∃ k f i lo hi s t l e b a bad, gen3_reader_head.f BIG bs 0 false false = some (k, f, i, lo, hi, s, t, l, e, b, [], true, bs, a, bad) := by
 rw [head_eq]
 unfold headC
 rw [if_pos ((atOk_iff _ _).2 ⟨hb, by omega, by omega⟩)]
 have h0 : (readF bs 1 0 false).1 = hdK bs ∧ Rel bs (hdSt bs) false (readF bs 1 0 false).2.1 (readF bs 1 0 false).2.2 := by
  unfold hdK hdSt
  by_cases h : 0 < bs.length
  ·rw [if_pos h, show (0 : Int) = ((0 : Nat) : Int) from rfl, readF_one bs 0 h]
   refine ⟨?_, ⟨1, rfl, h⟩, rfl, rfl, rfl⟩
   simp [List.getD, List.getElem?_eq_getElem h]
  ·rw [if_neg h, show (0 : Int) = ((0 : Nat) : Int) from rfl, readF_end bs 0 (by omega)]
   refine ⟨?_, ⟨0, rfl, by omega⟩, Or.inr rfl⟩
   simp [List.getD, List.getElem?_eq_none (show bs.length ≤ 0 by omega)]
 obtain ⟨e0, r0⟩ := h0
 rw [e0]
 obtain ⟨w1, a1, d1, e1, r1⟩ := optC_rel hb r0 true 4095 (by decide) (by decide) _
 rw [e1]
 obtain ⟨w2, a2, d2, e2, r2⟩ := optC_rel hb r1 true 281474976710655 (by decide) (by decide) _
 rw [e2]
 obtain ⟨lo, hi, w3, a3, d3, e3, r3, q3⟩ := span_rel hb r2
 rw [e3]
 dsimp only
 obtain ⟨w4, a4, d4, e4, r4⟩ := optC_rel hb r3 (hasF (hdK bs) 0) 65535 (by decide) (by decide) _
 rw [e4]
 obtain ⟨w5, a5, d5, e5, r5⟩ := optC_rel hb r4 (hasF (hdK bs) 1) 4095 (by decide) (by decide) _
 rw [e5]
 obtain ⟨w6, a6, d6, e6, r6⟩ := optC_rel hb r5 (hasF (hdK bs) 2) 281474976710655 (by decide) (by decide) _
 rw [e6]
 obtain ⟨w7, a7, d7, e7, r7⟩ := optC_rel hb r6 (hasF (hdK bs) 2) 65535 (by decide) (by decide) _
 rw [e7]
 obtain ⟨w8, a8, d8, e8, r8⟩ := optC_rel hb r7 (hasF (hdK bs) 3) 65535 (by decide) (by decide) _
 rw [e8]
 have hs : (optS bs (hasF (hdK bs) 3) (optS bs (hasF (hdK bs) 2) (optS bs (hasF (hdK bs) 2) (optS bs (hasF (hdK bs) 1) (optS bs (hasF (hdK bs) 0) (spS bs (optS bs true (optS bs true (hdSt bs) 4095).2 281474976710655).2).2.2 65535).2 4095).2 281474976710655).2 65535).2 65535).2 ≠ none → lo = (spS bs (optS bs true (optS bs true (hdSt bs) 4095).2 281474976710655).2).1 ∧ hi = (spS bs (optS bs true (optS bs true (hdSt bs) 4095).2 281474976710655).2).2.1 :=
  fun h => q3 (optS_none (optS_none (optS_none (optS_none (optS_none h)))))
 unfold hdS finC
 dsimp only
 generalize optS bs (hasF (hdK bs) 3) _ 65535 = B at r8 hs ⊢
 obtain ⟨b, st⟩ := B
 dsimp only at r8 hs ⊢
 obtain ⟨⟨n, rfl, hn⟩, r8⟩ := r8
 cases st with
 | none =>
  dsimp only at r8 ⊢
  cases d8 with
  | true => exact ⟨_, _, _, _, _, _, _, _, _, _, _, _, rfl⟩
  | false =>
   obtain rfl : w8 = true := by rcases r8 with h | h; exact h; cases h
   rw [if_neg (by simp)]
   split <;> exact ⟨_, _, _, _, _, _, _, _, _, _, _, _, rfl⟩
 | some m =>
  obtain ⟨rfl, rfl, e⟩ := r8
  obtain ⟨rfl, rfl⟩ := hs (by simp)
  obtain rfl : n = m := by omega
  dsimp only
  rw [if_neg (c := false = true) (by simp)]
  by_cases hv : validF (hdK bs) (optS bs true (hdSt bs) 4095).1 (optS bs true (optS bs true (hdSt bs) 4095).2 281474976710655).1 (spS bs (optS bs true (optS bs true (hdSt bs) 4095).2 281474976710655).2).1 (spS bs (optS bs true (optS bs true (hdSt bs) 4095).2 281474976710655).2).2.1 (optS bs (hasF (hdK bs) 0) (spS bs (optS bs true (optS bs true (hdSt bs) 4095).2 281474976710655).2).2.2 65535).1 (optS bs (hasF (hdK bs) 1) (optS bs (hasF (hdK bs) 0) (spS bs (optS bs true (optS bs true (hdSt bs) 4095).2 281474976710655).2).2.2 65535).2 4095).1 (optS bs (hasF (hdK bs) 2) (optS bs (hasF (hdK bs) 1) (optS bs (hasF (hdK bs) 0) (spS bs (optS bs true (optS bs true (hdSt bs) 4095).2 281474976710655).2).2.2 65535).2 4095).2 281474976710655).1 (optS bs (hasF (hdK bs) 2) (optS bs (hasF (hdK bs) 2) (optS bs (hasF (hdK bs) 1) (optS bs (hasF (hdK bs) 0) (spS bs (optS bs true (optS bs true (hdSt bs) 4095).2 281474976710655).2).2.2 65535).2 4095).2 281474976710655).2 65535).1 b [] = true
  ·rw [if_pos hv, if_neg (by rw [Bool.not_eq_true, Bool.not_eq_false']; exact hv)]
   exact ⟨rfl, hn, hv⟩
  ·rw [if_neg hv, if_pos (by simpa using hv)]
   exact ⟨_, _, _, _, _, _, _, _, _, _, _, _, rfl⟩
theorem tk_at {bs : List Int} {a : Nat} {most w : Int} {r : List Int} (h : bs.drop a = vi w ++ r) (h0 : 0 ≤ w) (h1 : w < 18446744073709551616) (hm : w ≤ most) : tk bs a most = some (w, a + (vi w).length) ∧ bs.drop (a + (vi w).length) = r := by
 have hl := congrArg List.length h
 have h1' := (vi_len w).1
 simp only [List.length_drop, List.length_append] at hl
 refine ⟨?_, ?_⟩
 ·rw [tk_vi h h0 h1 hm, show bs.length - r.length = a + (vi w).length from by omega]
 ·rw [← List.drop_drop, h, List.drop_left]
theorem get_at {bs : List Int} {a : Nat} {c : Int} {r : List Int} (h : bs.drop a = c :: r) : bs[a]? = some c ∧ bs.drop (a + 1) = r := by
 constructor
 ·have := List.getElem?_drop (xs := bs) (i := a) (j := 0)
  rw [h] at this
  simpa using this.symm
 ·rw [← List.drop_drop, h]; all_goals rfl
theorem get_drop {bs : List Int} {a : Nat} {c : Int} (h : bs[a]? = some c) : bs.drop a = c :: bs.drop (a + 1) ∧ a < bs.length := by
 obtain ⟨hlt, he⟩ := List.getElem?_eq_some_iff.1 h
 rw [List.drop_eq_getElem_cons hlt, he]
 exact ⟨rfl, hlt⟩
noncomputable def fldS (bs : List Int) (a : Nat) : Option ((Int × List Int) × Nat) :=
 match bs[a]? with
 | none => none
 | some t => match tk bs (a + 1) 4096 with
  | none => none
  | some (n, a2) => if a2 + n.toNat ≤ bs.length then some ((t, (bs.drop a2).take n.toNat), a2 + n.toNat) else none
theorem fldS_sound {bs : List Int} {a : Nat} {x : Int × List Int} {a2 : Nat} (hb : ∀ c ∈ bs, 0 ≤ c ∧ c ≤ 255) (h : fldS bs a = some (x, a2)) : bs.drop a = fld3 x ++ bs.drop a2 ∧ a2 ≤ bs.length ∧ x.2.length ≤ 4096 := by
 unfold fldS at h
 cases hc : bs[a]? with
 | none => rw [hc] at h; cases h
 | some c =>
  rw [hc] at h
  dsimp only at h
  cases ht : tk bs (a + 1) 4096 with
  | none => rw [ht] at h; cases h
  | some p =>
   obtain ⟨n, a3⟩ := p
   rw [ht] at h
   dsimp only at h
   by_cases hle : a3 + n.toNat ≤ bs.length
   ·rw [if_pos hle] at h
    obtain ⟨e1, n0, n1, _, _, _⟩ := tk_facts hb ht
    obtain ⟨e0, _⟩ := get_drop hc
    have hlen : ((bs.drop a3).take n.toNat).length = n.toNat := by rw [List.length_take, List.length_drop]; omega
    obtain ⟨rfl, rfl⟩ : (c, (bs.drop a3).take n.toNat) = x ∧ a3 + n.toNat = a2 := by cases h; exact ⟨rfl, rfl⟩
    refine ⟨?_, hle, by dsimp only; omega⟩
    unfold fld3
    dsimp only
    rw [hlen, e0, e1, show ((n.toNat : Nat) : Int) = n from by omega, ← List.drop_drop, List.cons_append, List.append_assoc, List.take_append_drop]
   ·rw [if_neg hle] at h; cases h
theorem fldS_back {bs : List Int} {a : Nat} {x : Int × List Int} {r : List Int} (h : bs.drop a = fld3 x ++ r) (hx : x.2.length ≤ 4096) : fldS bs a = some (x, a + (fld3 x).length) ∧ bs.drop (a + (fld3 x).length) = r := by
 have hl := congrArg List.length h
 refine ⟨?_, by rw [← List.drop_drop, h, List.drop_left]⟩
 obtain ⟨t, d⟩ := x
 dsimp only at hx
 obtain ⟨g1, g2⟩ := get_at (show bs.drop a = t :: (vi (d.length : Int) ++ (d ++ r)) from by rw [h]; simp [fld3])
 obtain ⟨k1, k2⟩ := tk_at (most := 4096) g2 (by omega) (by omega) (by omega)
 have hv := vi_len (d.length : Int)
 unfold fldS
 rw [g1]
 dsimp only
 rw [k1]
 dsimp only
 simp only [List.length_drop, List.length_append, fld3, List.length_cons] at hl ⊢
 rw [if_pos (by omega), k2, Int.toNat_natCast, List.take_left, show a + 1 + (vi (d.length : Int)).length + d.length = a + ((vi (d.length : Int)).length + d.length + 1) from by omega]
noncomputable def fldsS (bs : List Int) : Nat → Nat → Option (LF × Nat)
 | 0, a => some ([], a)
 | k + 1, a => match fldS bs a with
  | none => none
  | some (x, a2) => match fldsS bs k a2 with
   | none => none
   | some (l, a3) => some (x :: l, a3)
theorem fldsS_sound {bs : List Int} (hb : ∀ c ∈ bs, 0 ≤ c ∧ c ≤ 255) : ∀ (k a : Nat) (l : LF) (a2 : Nat), a ≤ bs.length → fldsS bs k a = some (l, a2) → bs.drop a = l.flatMap fld3 ++ bs.drop a2 ∧ a2 ≤ bs.length ∧ l.length = k ∧ ∀ x ∈ l, x.2.length ≤ 4096 := by
 intro k
 induction k with
 | zero =>
  intro a l a2 ha h
  rw [fldsS] at h
  cases h
  exact ⟨rfl, ha, rfl, by simp⟩
 | succ k ih =>
  intro a l a2 ha h
  rw [fldsS] at h
  cases h1 : fldS bs a with
  | none => rw [h1] at h; cases h
  | some p =>
   obtain ⟨x, a3⟩ := p
   rw [h1] at h
   dsimp only at h
   obtain ⟨e1, l1, s1⟩ := fldS_sound hb h1
   cases h2 : fldsS bs k a3 with
   | none => rw [h2] at h; cases h
   | some q =>
    obtain ⟨m, a4⟩ := q
    rw [h2] at h
    dsimp only at h
    obtain ⟨e2, l2, n2, s2⟩ := ih a3 m a4 l1 h2
    cases h
    refine ⟨by rw [e1, e2]; simp, l2, by simp [n2], ?_⟩
    intro y hy
    rcases List.mem_cons.1 hy with rfl | hy
    ·exact s1
    ·exact s2 y hy
theorem fldsS_back {bs : List Int} : ∀ (l : LF) (a : Nat) (r : List Int), bs.drop a = l.flatMap fld3 ++ r → (∀ x ∈ l, x.2.length ≤ 4096) → fldsS bs l.length a = some (l, a + (l.flatMap fld3).length) ∧ bs.drop (a + (l.flatMap fld3).length) = r
 | [], a, r, h, _ => ⟨rfl, h⟩
 | x :: l, a, r, h, hx => by
  obtain ⟨h1, h2⟩ := fldS_back (x := x) (r := l.flatMap fld3 ++ r) (by rw [h]; simp) (hx x (List.mem_cons_self ..))
  obtain ⟨h3, h4⟩ := fldsS_back l _ r h2 (fun y hy => hx y (List.mem_cons_of_mem _ hy))
  have e : a + ((x :: l).flatMap fld3).length = a + (fld3 x).length + (l.flatMap fld3).length := by simp; omega
  rw [e]
  refine ⟨?_, h4⟩
  rw [List.length_cons, fldsS, h1]
  dsimp only
  rw [h3]
noncomputable def bagS (bs : List Int) (a : Nat) : Option (LF × Nat) :=
 match tk bs a 32 with
 | none => none
 | some (n, a1) => fldsS bs n.toNat a1
theorem bagS_sound {bs : List Int} (hb : ∀ c ∈ bs, 0 ≤ c ∧ c ≤ 255) {a : Nat} {l : LF} {a2 : Nat} (h : bagS bs a = some (l, a2)) : bs.drop a = bag3 l ++ bs.drop a2 ∧ a2 ≤ bs.length ∧ l.length ≤ 32 ∧ ∀ x ∈ l, x.2.length ≤ 4096 := by
 unfold bagS at h
 cases ht : tk bs a 32 with
 | none => rw [ht] at h; cases h
 | some p =>
  obtain ⟨n, a1⟩ := p
  rw [ht] at h
  dsimp only at h
  obtain ⟨e1, n0, n1, _, _, l1⟩ := tk_facts hb ht
  obtain ⟨e2, l2, n2, s2⟩ := fldsS_sound hb _ _ _ _ l1 h
  refine ⟨?_, l2, by omega, s2⟩
  rw [e1, e2]
  unfold bag3
  rw [n2, show ((n.toNat : Nat) : Int) = n from by omega, List.append_assoc]
theorem bagS_back {bs : List Int} {a : Nat} {l : LF} {r : List Int} (h : bs.drop a = bag3 l ++ r) (hn : l.length ≤ 32) (hx : ∀ x ∈ l, x.2.length ≤ 4096) : bagS bs a = some (l, a + (bag3 l).length) ∧ bs.drop (a + (bag3 l).length) = r := by
 refine ⟨?_, by rw [← List.drop_drop, h, List.drop_left]⟩
 obtain ⟨h1, h2⟩ := tk_at (w := (l.length : Int)) (most := 32) (r := l.flatMap fld3 ++ r) (by rw [h]; simp [bag3]) (by omega) (by omega) (by omega)
 obtain ⟨h3, h4⟩ := fldsS_back l _ r h2 hx
 unfold bagS
 rw [h1]
 dsimp only
 rw [Int.toNat_natCast, h3]
 simp [bag3]
 omega
theorem lexB_eq : ∀ (l m : List Int), lexB l m = 0 → l = m
 | [], [], _ => rfl
 | [], _ :: _, h => by simp [lexB] at h
 | _ :: _, [], h => by simp [lexB] at h
 | x :: l, y :: m, h => by
  rw [lexB] at h
  by_cases h1 : x < y
  ·rw [if_pos (by simpa using h1)] at h; omega
  ·rw [if_neg (by simpa using h1)] at h
   by_cases h2 : x > y
   ·rw [if_pos (by simpa using h2)] at h; omega
   ·rw [if_neg (by simpa using h2)] at h
    rw [lexB_eq l m h, show x = y from by omega]
theorem cmpGo_eq : ∀ (l m : LF), cmpGo l m = 0 → l = m
 | [], [], _ => rfl
 | [], _ :: _, h => by simp [cmpGo] at h
 | _ :: _, [], h => by simp [cmpGo] at h
 | (t, d) :: l, (u, e) :: m, h => by
  rw [cmpGo] at h
  dsimp only at h
  by_cases h1 : signF t d u e = 0
  ·rw [if_neg (by simp [h1])] at h
   rw [cmpGo_eq l m h]
   unfold signF at h1
   by_cases h2 : t = u
   ·subst h2
    rw [if_neg (by simp)] at h1
    rw [lexB_eq d e h1]
   ·rw [if_pos (by simpa using h2)] at h1
    split at h1 <;> omega
  ·rw [if_pos (by simpa using h1)] at h
   exact absurd h h1
theorem cmpGo_iff (l m : LF) : (cmpGo l m == 0) = decide (l = m) := by
 by_cases h : l = m
 ·subst h; rw [cmpGo_self]; simp
 ·rw [decide_eq_false h]
  cases hc : cmpGo l m == 0 with
  | false => rfl
  | true => exact absurd (cmpGo_eq l m (by simpa using hc)) h
noncomputable def zagF (z : Int) : Int := if z % 2 = 0 then z / 2 else -((z + 1) / 2)
theorem zig_zag (z : Int) (h : 0 ≤ z) : zigF (zagF z) = z := by unfold zigF zagF; split <;> split <;> omega
theorem zag_zig (n : Int) : zagF (zigF n) = n := by unfold zigF zagF; split <;> split <;> omega
noncomputable def spanS (bs : List Int) (o : REC × Bool) (v : Int) (a : Nat) : Option ((Int × Int) × Nat) :=
 if v / 8 % 2 = 1 then some (o.1.2.2.2.1, a) else
 match bs[a]? with
 | none => none
 | some c => if okS (c / 16) (c % 16) = true ∧ (o.2 && (c / 16 == o.1.2.2.2.1.1 && c % 16 == o.1.2.2.2.1.2)) = false then some ((c / 16, c % 16), a + 1) else none
noncomputable def bagsS (bs : List Int) (o : REC × Bool) (v : Int) (a : Nat) : Option (LF × Nat) :=
 if v / 4 % 2 = 1 then some ([], a) else if 16 ≤ v then some (o.1.2.2.2.2.2, a) else
 match bagS bs a with
 | none => none
 | some (b, a2) => if (o.2 && cmpGo b o.1.2.2.2.2.2 == 0) = true then none else some (b, a2)
noncomputable def flagBad (o : REC × Bool) (v : Int) : Bool := decide (32 ≤ v) || ((!o.2 && decide (8 ≤ v)) || (decide (v / 4 % 2 = 1) && decide (16 ≤ v)))
noncomputable def recS (bs : List Int) (base : LR) (last : Int) (a : Nat) : Option (REC × Nat) :=
 match tk bs a 4095 with
 | none => none
 | some (d, a1) => match bs[a1]? with
  | none => none
  | some v => if flagBad (oldR base (last + 1 + d)) v then none else
   match spanS bs (oldR base (last + 1 + d)) v (a1 + 1) with
   | none => none
   | some (sp, a2) => match tk bs a2 562949953421310 with
    | none => none
    | some (z, a3) => match bagsS bs (oldR base (last + 1 + d)) v a3 with
     | none => none
     | some (b, a4) => some ((last + 1 + d, (oldR base (last + 1 + d)).1.2.1 + zagF z, v % 4, sp, v / 4 % 2 == 1, b), a4)
theorem spanS_sound {bs : List Int} (hb : ∀ c ∈ bs, 0 ≤ c ∧ c ≤ 255) {o : REC × Bool} {v : Int} {a : Nat} {sp : Int × Int} {a2 : Nat} (ha : a ≤ bs.length) (v0 : 0 ≤ v) (ho : o.2 = false → v < 8) (h : spanS bs o v a = some (sp, a2)) :
  bs.drop a = (if v / 8 % 2 = 1 then [] else [sp.1 * 16 + sp.2]) ++ bs.drop a2 ∧ a2 ≤ bs.length ∧ (o.2 && (o.1.2.2.2.1.1 == sp.1 && o.1.2.2.2.1.2 == sp.2)) = decide (v / 8 % 2 = 1) ∧ (v / 8 % 2 = 1 ∨ okS sp.1 sp.2 = true) := by
 unfold spanS at h
 by_cases hv : v / 8 % 2 = 1
 ·rw [if_pos hv] at h
  cases h
  rw [if_pos hv]
  refine ⟨rfl, ha, ?_, Or.inl hv⟩
  have : o.2 = true := by
   cases h2 : o.2 with
   | true => rfl
   | false => have := ho h2; omega
  rw [this, decide_eq_true hv]
  simp
 ·rw [if_neg hv] at h ⊢
  cases hc : bs[a]? with
  | none => rw [hc] at h; cases h
  | some c =>
   rw [hc] at h
   dsimp only at h
   obtain ⟨e0, hlt⟩ := get_drop hc
   obtain ⟨c0, c1⟩ := hb c (List.mem_of_getElem? hc)
   by_cases hk : okS (c / 16) (c % 16) = true ∧ (o.2 && (c / 16 == o.1.2.2.2.1.1 && c % 16 == o.1.2.2.2.1.2)) = false
   ·rw [if_pos hk] at h
    cases h
    refine ⟨by rw [e0, show c / 16 * 16 + c % 16 = c from by omega]; rfl, hlt, ?_, Or.inr hk.1⟩
    rw [decide_eq_false hv, ← hk.2, Bool.beq_comm (a := o.1.2.2.2.1.1), Bool.beq_comm (a := o.1.2.2.2.1.2)]
   ·rw [if_neg hk] at h; cases h
theorem decide_comm (l m : LF) : decide (l = m) = decide (m = l) := by
 by_cases h : l = m
 ·rw [decide_eq_true h, decide_eq_true h.symm]
 ·rw [decide_eq_false h, decide_eq_false (fun e => h e.symm)]
theorem flagBad_no {o : REC × Bool} {v : Int} (h : flagBad o v = false) : v < 32 ∧ (o.2 = false → v < 8) ∧ (v / 4 % 2 = 1 → v < 16) := by
 unfold flagBad at h
 simp only [Bool.or_eq_false_iff, Bool.and_eq_false_iff, decide_eq_false_iff_not, Bool.not_eq_false'] at h
 obtain ⟨h1, h2, h3⟩ := h
 refine ⟨by omega, fun ho => ?_, fun hc => ?_⟩
 ·rcases h2 with h2 | h2
  ·rw [ho] at h2; cases h2
  ·omega
 ·rcases h3 with h3 | h3
  ·exact absurd hc h3
  ·omega
theorem flagBad_of {o : REC × Bool} {v : Int} (h1 : v < 32) (h2 : o.2 = false → v < 8) (h3 : v / 4 % 2 = 1 → v < 16) : flagBad o v = false := by
 unfold flagBad
 rw [decide_eq_false (by omega : ¬ 32 ≤ v)]
 have e1 : (!o.2 && decide (8 ≤ v)) = false := by
  cases ho : o.2 with
  | true => rfl
  | false => have := h2 ho; rw [decide_eq_false (by omega : ¬ 8 ≤ v)]; all_goals rfl
 have e2 : (decide (v / 4 % 2 = 1) && decide (16 ≤ v)) = false := by
  by_cases hc : v / 4 % 2 = 1
  ·have := h3 hc; rw [decide_eq_false (by omega : ¬ 16 ≤ v)]; simp
  ·rw [decide_eq_false hc]; all_goals rfl
 rw [e1, e2]; all_goals rfl
theorem bagsS_sound {bs : List Int} (hb : ∀ c ∈ bs, 0 ≤ c ∧ c ≤ 255) {o : REC × Bool} {v : Int} {a : Nat} {b : LF} {a2 : Nat} (ha : a ≤ bs.length) (ho : o.2 = false → v < 8) (hc : v / 4 % 2 = 1 → v < 16) (h : bagsS bs o v a = some (b, a2)) :
  bs.drop a = (if (v / 4 % 2 == 1 || decide (16 ≤ v)) = true then [] else bag3 b) ++ bs.drop a2 ∧ a2 ≤ bs.length ∧ (o.2 && (!(v / 4 % 2 == 1) && cmpGo o.1.2.2.2.2.2 b == 0)) = decide (16 ≤ v) := by
 unfold bagsS at h
 by_cases h1 : v / 4 % 2 = 1
 ·rw [if_pos h1] at h
  cases h
  have := hc h1
  have e1 : (v / 4 % 2 == 1) = true := by simpa using h1
  rw [e1, decide_eq_false (by omega : ¬ 16 ≤ v)]
  exact ⟨rfl, ha, by simp⟩
 ·rw [if_neg h1] at h
  have e1 : (v / 4 % 2 == 1) = false := by simpa using h1
  rw [e1]
  by_cases h2 : 16 ≤ v
  ·rw [if_pos h2] at h
   cases h
   rw [decide_eq_true h2, cmpGo_self]
   have : o.2 = true := by
    cases h2 : o.2 with
    | true => rfl
    | false => have := ho h2; omega
   exact ⟨rfl, ha, by rw [this]; rfl⟩
  ·rw [if_neg h2] at h
   rw [decide_eq_false h2]
   cases hg : bagS bs a with
   | none => rw [hg] at h; cases h
   | some p =>
    obtain ⟨b', a3⟩ := p
    rw [hg] at h
    dsimp only at h
    obtain ⟨e2, l2, _, _⟩ := bagS_sound hb hg
    by_cases h3 : (o.2 && cmpGo b' o.1.2.2.2.2.2 == 0) = true
    ·rw [if_pos h3] at h; cases h
    ·rw [if_neg h3] at h
     cases h
     refine ⟨by rw [e2]; rfl, l2, ?_⟩
     rw [cmpGo_iff] at h3
     rw [cmpGo_iff, ← decide_comm b]
     simpa using h3
theorem recS_sound {bs : List Int} (hb : ∀ c ∈ bs, 0 ≤ c ∧ c ≤ 255) {base : LR} {last : Int} {a : Nat} {r : REC} {a2 : Nat} (h : recS bs base last a = some (r, a2)) :
  bs.drop a = rec3 (oldR base r.1) last r ++ bs.drop a2 ∧ a2 ≤ bs.length ∧ last < r.1 ∧ r.1 ≤ last + 4096 := by
 unfold recS at h
 cases ht : tk bs a 4095 with
 | none => rw [ht] at h; cases h
 | some p =>
  obtain ⟨d, a1⟩ := p
  rw [ht] at h
  dsimp only at h
  obtain ⟨e1, d0, d1, _, _, l1⟩ := tk_facts hb ht
  cases hc : bs[a1]? with
  | none => rw [hc] at h; cases h
  | some v =>
   rw [hc] at h
   dsimp only at h
   obtain ⟨e2, l2⟩ := get_drop hc
   obtain ⟨v0, v1⟩ := hb v (List.mem_of_getElem? hc)
   cases hf : flagBad (oldR base (last + 1 + d)) v with
   | true => rw [hf] at h; cases h
   | false =>
    obtain ⟨f1, f2, f3⟩ := flagBad_no hf
    rw [hf, if_neg (by simp)] at h
    cases hs : spanS bs (oldR base (last + 1 + d)) v (a1 + 1) with
    | none => rw [hs] at h; cases h
    | some q =>
     obtain ⟨sp, a3⟩ := q
     rw [hs] at h
     dsimp only at h
     obtain ⟨e3, l3, s3, _⟩ := spanS_sound hb (by omega) v0 f2 hs
     cases hz : tk bs a3 562949953421310 with
     | none => rw [hz] at h; cases h
     | some w =>
      obtain ⟨z, a4⟩ := w
      rw [hz] at h
      dsimp only at h
      obtain ⟨e4, z0, z1, _, _, l4⟩ := tk_facts hb hz
      cases hg : bagsS bs (oldR base (last + 1 + d)) v a4 with
      | none => rw [hg] at h; cases h
      | some u =>
       obtain ⟨b, a5⟩ := u
       rw [hg] at h
       dsimp only at h
       obtain ⟨e5, l5, s5⟩ := bagsS_sound hb l4 f2 f3 hg
       cases h
       refine ⟨?_, l5, by dsimp only; omega, by dsimp only; omega⟩
       rw [e1, e2, e3, e4, e5]
       dsimp only
       unfold rec3 flagV sameSpan sameBag
       dsimp only
       rw [s3, s5]
       generalize oldR base (last + 1 + d) = o
       rw [show last + 1 + d - last - 1 = d from by omega, show o.1.2.1 + zagF z - o.1.2.1 = zagF z from by omega, zig_zag z z0]
       have ev : v % 4 + (if (v / 4 % 2 == 1) = true then 4 else 0) + (if decide (v / 8 % 2 = 1) = true then 8 else 0) + (if decide (16 ≤ v) = true then 16 else 0) = v := by
        simp only [beq_iff_eq, decide_eq_true_eq]
        split <;> split <;> split <;> omega
       rw [ev]
       simp only [decide_eq_true_eq, List.append_assoc, List.cons_append]
theorem tk_bound {w o : Int} (h0 : 0 ≤ w) (h1 : w ≤ 281474976710655) (o0 : 0 ≤ o) (o1 : o ≤ 281474976710655) : 0 ≤ zigF (w - o) ∧ zigF (w - o) ≤ 562949953421310 := by
 unfold zigF; split <;> omega
theorem old_inc {base : LR} (hbase : ∀ x ∈ base, recOkT x = true) (id : Int) : 0 ≤ (oldR base id).1.2.1 ∧ (oldR base id).1.2.1 ≤ 281474976710655 := by
 rcases oldR_mem (base := base) (id := id) with ⟨_, h⟩ | ⟨_, h, _⟩
 ·rw [h]; exact ⟨by simp, by simp⟩
 ·have := recOk_facts (hbase _ h)
  exact ⟨this.2.2.1, this.2.2.2.1⟩
theorem recS_back {bs : List Int} {base : LR} (hbase : ∀ x ∈ base, recOkT x = true) {last : Int} {a : Nat} {r : REC} {rest : List Int} (hr : recOkT r = true) (h1 : -1 ≤ last) (h2 : last < r.1) (h : bs.drop a = rec3 (oldR base r.1) last r ++ rest) :
  recS bs base last a = some (r, a + (rec3 (oldR base r.1) last r).length) ∧ bs.drop (a + (rec3 (oldR base r.1) last r).length) = rest := by
 refine ⟨?_, by rw [← List.drop_drop, h, List.drop_left]⟩
 obtain ⟨f1, f2, f3, f4, f5, f6, f7, f8, f9⟩ := recOk_facts hr
 have hbl := bagOk_len f8
 have hbt := bag_tags f8
 obtain ⟨o0, o1⟩ := old_inc hbase r.1
 obtain ⟨z0, z1⟩ := tk_bound f3 f4 o0 o1
 have hsp := (okS_iff _ _).1 f7
 have hS : sameSpan (oldR base r.1) r = true → (oldR base r.1).2 = true ∧ (oldR base r.1).1.2.2.2.1 = r.2.2.2.1 := by
  intro hs
  unfold sameSpan at hs
  simp only [Bool.and_eq_true, beq_iff_eq] at hs
  exact ⟨hs.1, Prod.ext hs.2.1 hs.2.2⟩
 have hB : sameBag (oldR base r.1) r = true → (oldR base r.1).2 = true ∧ r.2.2.2.2.1 = false ∧ (oldR base r.1).1.2.2.2.2.2 = r.2.2.2.2.2 := by
  intro hs
  unfold sameBag at hs
  rw [cmpGo_iff] at hs
  simp only [Bool.and_eq_true, Bool.not_eq_true', decide_eq_true_eq] at hs
  exact ⟨hs.1, hs.2.1, hs.2.2⟩
 have hS' : sameSpan (oldR base r.1) r = false → ((oldR base r.1).2 && (r.2.2.2.1.1 == (oldR base r.1).1.2.2.2.1.1 && r.2.2.2.1.2 == (oldR base r.1).1.2.2.2.1.2)) = false := by
  intro hs
  unfold sameSpan at hs
  rw [← hs, Bool.beq_comm (a := r.2.2.2.1.1), Bool.beq_comm (a := r.2.2.2.1.2)]
 have hB' : sameBag (oldR base r.1) r = false → r.2.2.2.2.1 = false → ((oldR base r.1).2 && cmpGo r.2.2.2.2.2 (oldR base r.1).1.2.2.2.2.2 == 0) = false := by
  intro hs hc
  unfold sameBag at hs
  rw [cmpGo_iff, hc] at hs
  rw [cmpGo_iff, ← hs, decide_comm]
  all_goals rfl
 unfold rec3 at h ⊢
 generalize hss : sameSpan (oldR base r.1) r = ss at h hS hS' ⊢
 generalize hsb : sameBag (oldR base r.1) r = sb at h hB hB' ⊢
 obtain ⟨t1, t2⟩ := tk_at (most := 4095) (r := flagV (oldR base r.1) r :: ((if ss = true then [] else [r.2.2.2.1.1 * 16 + r.2.2.2.1.2]) ++ (vi (zigF (r.2.1 - (oldR base r.1).1.2.1)) ++ ((if (r.2.2.2.2.1 || sb) = true then [] else bag3 r.2.2.2.2.2) ++ rest)))) (by rw [h]; simp) (by omega : 0 ≤ r.1 - last - 1) (by omega) (by omega)
 obtain ⟨g1, g2⟩ := get_at t2
 have hv : flagV (oldR base r.1) r = r.2.2.1 + (if r.2.2.2.2.1 = true then 4 else 0) + (if ss = true then 8 else 0) + (if sb = true then 16 else 0) := by unfold flagV; rw [hss, hsb]
 generalize flagV (oldR base r.1) r = v at hv g1 g2 h t1 t2 ⊢
 obtain ⟨id, inc, st, ⟨lo, hi⟩, cut, bag⟩ := r
 dsimp only at *
 have hid : last + 1 + (id - last - 1) = id := by omega
 generalize ho : oldR base id = o at *
 have q4 : v / 4 % 2 = 1 ↔ cut = true := by
  cases cut <;> cases ss <;> cases sb <;> simp at hv ⊢ <;> omega
 have q8 : v / 8 % 2 = 1 ↔ ss = true := by
  cases cut <;> cases ss <;> cases sb <;> simp at hv ⊢ <;> omega
 have q16 : 16 ≤ v ↔ sb = true := by
  cases cut <;> cases ss <;> cases sb <;> simp at hv ⊢ <;> omega
 have q3 : v % 4 = st := by
  cases cut <;> cases ss <;> cases sb <;> simp at hv <;> omega
 have hf : flagBad o v = false := by
  refine flagBad_of (by cases cut <;> cases ss <;> cases sb <;> simp at hv <;> omega) (fun hno => ?_) (fun hcb => ?_)
  ·have a1 : ss = false := by
    cases ss with
    | false => rfl
    | true => have := (hS rfl).1; rw [hno] at this; cases this
   have a2 : sb = false := by
    cases sb with
    | false => rfl
    | true => have := (hB rfl).1; rw [hno] at this; cases this
   subst a1 a2
   cases cut <;> simp at hv <;> omega
  ·have a1 := q4.1 hcb
   have a2 : sb = false := by
    cases sb with
    | false => rfl
    | true => have := (hB rfl).2.1; rw [a1] at this; cases this
   subst a1 a2
   cases ss <;> simp at hv <;> omega
 unfold recS
 rw [t1]
 dsimp only
 rw [hid, ho, g1]
 dsimp only
 rw [hf, if_neg (by simp)]
 have hspan : spanS bs o v (a + (vi (id - last - 1)).length + 1) = some ((lo, hi), a + (vi (id - last - 1)).length + 1 + (if ss = true then [] else [lo * 16 + hi] : List Int).length) ∧ bs.drop (a + (vi (id - last - 1)).length + 1 + (if ss = true then [] else [lo * 16 + hi] : List Int).length) = vi (zigF (inc - o.1.2.1)) ++ ((if (cut || sb) = true then [] else bag3 bag) ++ rest) := by
  unfold spanS
  cases ss with
  | true =>
   rw [if_pos (q8.2 rfl), (hS rfl).2]
   exact ⟨rfl, by simpa using g2⟩
  | false =>
   rw [if_neg (fun h => by have := q8.1 h; cases this)]
   obtain ⟨k1, k2⟩ := get_at (show bs.drop (a + (vi (id - last - 1)).length + 1) = (lo * 16 + hi) :: (vi (zigF (inc - o.1.2.1)) ++ ((if (cut || sb) = true then [] else bag3 bag) ++ rest)) from by simpa using g2)
   rw [k1]
   dsimp only
   rw [show (lo * 16 + hi) / 16 = lo from by omega, show (lo * 16 + hi) % 16 = hi from by omega, if_pos ⟨f7, hS' rfl⟩]
   exact ⟨rfl, by simpa using k2⟩
 rw [hspan.1]
 dsimp only
 obtain ⟨u1, u2⟩ := tk_at (most := 562949953421310) hspan.2 z0 (by omega) z1
 rw [u1]
 dsimp only
 have hbag : bagsS bs o v (a + (vi (id - last - 1)).length + 1 + (if ss = true then [] else [lo * 16 + hi] : List Int).length + (vi (zigF (inc - o.1.2.1))).length) = some (bag, a + (vi (id - last - 1)).length + 1 + (if ss = true then [] else [lo * 16 + hi] : List Int).length + (vi (zigF (inc - o.1.2.1))).length + (if (cut || sb) = true then [] else bag3 bag).length) := by
  unfold bagsS
  cases cut with
  | true =>
   rw [if_pos (q4.2 rfl), f9 rfl]
   all_goals rfl
  | false =>
   rw [if_neg (fun h => by have := q4.1 h; cases this)]
   cases sb with
   | true => rw [if_pos (q16.2 rfl), (hB rfl).2.2]; all_goals rfl
   | false =>
    rw [if_neg (fun h => by have := q16.1 h; cases this)]
    have hg := bagS_back (l := bag) (r := rest) (by simpa using u2) hbl.1 (fun x hx => (hbt x hx).2.2)
    rw [hg.1]
    dsimp only
    rw [hB' rfl rfl, if_neg (by simp)]
    all_goals rfl
 rw [hbag]
 dsimp only
 rw [zag_zig, q3, show o.1.2.1 + (inc - o.1.2.1) = inc from by omega]
 have hcut : (v / 4 % 2 == 1) = cut := by
  cases cut with
  | true => simpa using q4.2 rfl
  | false => simp; intro h; have := q4.1 h; cases this
 rw [hcut]
 refine congrArg (fun n => some ((id, inc, st, (lo, hi), cut, bag), n)) ?_
 simp only [List.length_append, List.length_cons]
 omega
noncomputable def recsS (bs : List Int) (base : LR) : Nat → Int → Nat → Option (LR × Nat)
 | 0, _, a => some ([], a)
 | k + 1, last, a => match recS bs base last a with
  | none => none
  | some (r, a2) => match recsS bs base k r.1 a2 with
   | none => none
   | some (l, a3) => some (r :: l, a3)
theorem recsS_sound {bs : List Int} (hb : ∀ c ∈ bs, 0 ≤ c ∧ c ≤ 255) {base : LR} : ∀ (k : Nat) (last : Int) (a : Nat) (l : LR) (a2 : Nat), a ≤ bs.length → recsS bs base k last a = some (l, a2) → bs.drop a = recs3 base last l ++ bs.drop a2 ∧ a2 ≤ bs.length ∧ l.length = k := by
 intro k
 induction k with
 | zero =>
  intro last a l a2 ha h
  rw [recsS] at h
  cases h
  exact ⟨rfl, ha, rfl⟩
 | succ k ih =>
  intro last a l a2 ha h
  rw [recsS] at h
  cases h1 : recS bs base last a with
  | none => rw [h1] at h; cases h
  | some p =>
   obtain ⟨x, a3⟩ := p
   rw [h1] at h
   dsimp only at h
   obtain ⟨e1, l1, _⟩ := recS_sound hb h1
   cases h2 : recsS bs base k x.1 a3 with
   | none => rw [h2] at h; cases h
   | some q =>
    obtain ⟨m, a4⟩ := q
    rw [h2] at h
    dsimp only at h
    obtain ⟨e2, l2, n2⟩ := ih x.1 a3 m a4 l1 h2
    cases h
    exact ⟨by rw [e1, e2, recs3, List.append_assoc], l2, by simp [n2]⟩
theorem recsS_back {bs : List Int} {base : LR} (hbase : ∀ x ∈ base, recOkT x = true) : ∀ (l : LR) (last : Int) (a : Nat) (rest : List Int), (∀ r ∈ l, recOkT r = true) → -1 ≤ last → risen last l → bs.drop a = recs3 base last l ++ rest →
  recsS bs base l.length last a = some (l, a + (recs3 base last l).length) ∧ bs.drop (a + (recs3 base last l).length) = rest
 | [], last, a, rest, _, _, _, h => ⟨rfl, h⟩
 | r :: l, last, a, rest, hr, h1, h2, h => by
  obtain ⟨h3, h4⟩ := h2
  have hm := hr r (List.mem_cons_self ..)
  have hid := (recOk_facts hm).1
  obtain ⟨k1, k2⟩ := recS_back hbase (rest := recs3 base r.1 l ++ rest) hm h1 h3 (by rw [h, recs3, List.append_assoc])
  obtain ⟨k3, k4⟩ := recsS_back hbase l r.1 _ rest (fun x hx => hr x (List.mem_cons_of_mem _ hx)) (by omega) h4 k2
  have e : a + (recs3 base last (r :: l)).length = a + (rec3 (oldR base r.1) last r).length + (recs3 base r.1 l).length := by rw [recs3, List.length_append]; omega
  rw [e]
  refine ⟨?_, k4⟩
  rw [List.length_cons, recsS, k1]
  dsimp only
  rw [k3]
theorem valid_bare {kind from0 inc lo hi seq target life epoch base : Int} {recs : LR} (h : validF kind from0 inc lo hi seq target life epoch base recs = true) : validF kind from0 inc lo hi seq target life epoch base [] = true := by
 unfold validF at h ⊢
 generalize ((ofF kind).1.toList == (⟨#[]⟩ : ByteArray).toList || (decide (from0 < 0) || (decide (from0 > 4095) || (decide (inc < 0) || (decide (inc > 281474976710655) || !okS lo hi))))) = c1 at h ⊢
 generalize (!withinF (hasF kind 0) seq 0 65535 || (!withinF (hasF kind 1) target (if kind == 3 then 1 else 0) (if kind == 3 then 3 else 4095) || !livesF kind life epoch base)) = c2 at h ⊢
 cases c1
 ·cases c2
  ·generalize hasF kind 4 = c4 at h ⊢
   cases c4 <;> rfl
  ·exact absurd h (by simp)
 ·exact absurd h (by simp)
theorem optS_sound {bs : List Int} (hb : ∀ c ∈ bs, 0 ≤ c ∧ c ≤ 255) {c : Bool} {st : Option Nat} {most : Int} {a' : Nat} (h : (optS bs c st most).2 = some a') :
  ∃ a0, st = some a0 ∧ bs.drop a0 = (if c = true then vi (optS bs c st most).1 else []) ++ bs.drop a' ∧ (a0 ≤ bs.length → a' ≤ bs.length) := by
 cases c with
 | false => exact ⟨a', h, rfl, id⟩
 | true =>
  cases st with
  | none => exact absurd h (by unfold optS; simp)
  | some a0 =>
   unfold optS at h ⊢
   simp only [if_true] at h ⊢
   cases ht : tk bs a0 most with
   | none => rw [ht] at h; cases h
   | some p =>
    obtain ⟨w, a2⟩ := p
    rw [ht] at h
    cases h
    obtain ⟨e, _, _, _, _, l⟩ := tk_facts hb ht
    exact ⟨a0, rfl, e, fun _ => l⟩
theorem optS_back {bs : List Int} {a : Nat} {c : Bool} {v most : Int} {r : List Int} (h : bs.drop a = (if c = true then vi v else []) ++ r) (ha : a ≤ bs.length) (h0 : 0 ≤ v) (h1 : v < 18446744073709551616) (hm : v ≤ most) (hz : c = false → v = 0) :
  ∃ a', optS bs c (some a) most = (v, some a') ∧ bs.drop a' = r ∧ a' ≤ bs.length := by
 cases c with
 | false =>
  have := hz rfl
  subst this
  exact ⟨a, rfl, by simpa using h, ha⟩
 | true =>
  rw [if_pos rfl] at h
  obtain ⟨k1, k2⟩ := tk_at (most := most) h h0 h1 hm
  have hl := congrArg List.length h
  simp only [List.length_drop, List.length_append] at hl
  refine ⟨a + (vi v).length, ?_, k2, by omega⟩
  unfold optS
  rw [if_pos rfl]
  dsimp only
  rw [k1]
theorem spS_sound {bs : List Int} (hb : ∀ c ∈ bs, 0 ≤ c ∧ c ≤ 255) {st : Option Nat} {a' : Nat} (h : (spS bs st).2.2 = some a') :
  ∃ a0, st = some a0 ∧ bs.drop a0 = ((spS bs st).1 * 16 + (spS bs st).2.1) :: bs.drop a' ∧ a' ≤ bs.length := by
 cases st with
 | none => cases h
 | some a0 =>
  unfold spS at h ⊢
  dsimp only at h ⊢
  cases hc : bs[a0]? with
  | none => rw [hc] at h; cases h
  | some c =>
   rw [hc] at h
   dsimp only at h ⊢
   obtain ⟨c0, c1⟩ := hb c (List.mem_of_getElem? hc)
   obtain ⟨e, hlt⟩ := get_drop hc
   by_cases ho : okS (c / 16) (c % 16) = true
   ·rw [if_pos ho] at h ⊢
    cases h
    exact ⟨a0, rfl, by rw [e]; congr 1; dsimp only; omega, hlt⟩
   ·rw [if_neg ho] at h; cases h
theorem spS_back {bs : List Int} {a : Nat} {lo hi : Int} {r : List Int} (h : bs.drop a = (lo * 16 + hi) :: r) (ha : a ≤ bs.length) (ho : okS lo hi = true) : spS bs (some a) = (lo, hi, some (a + 1)) ∧ bs.drop (a + 1) = r ∧ a + 1 ≤ bs.length := by
 obtain ⟨g1, g2⟩ := get_at h
 have hs := (okS_iff _ _).1 ho
 refine ⟨?_, g2, (get_drop g1).2⟩
 unfold spS
 dsimp only
 rw [g1]
 dsimp only
 rw [show (lo * 16 + hi) / 16 = lo from by omega, show (lo * 16 + hi) % 16 = hi from by omega, if_pos ho]
noncomputable def hd3 (k f i lo hi s t l e b : Int) (r : List Int) : List Int :=
 k :: (vi f ++ (vi i ++ ((lo * 16 + hi) :: ((if hasF k 0 = true then vi s else []) ++ ((if hasF k 1 = true then vi t else []) ++ ((if hasF k 2 = true then vi l else []) ++ ((if hasF k 2 = true then vi e else []) ++ ((if hasF k 3 = true then vi b else []) ++ r))))))))
theorem hd3_body (k f i lo hi s t l e b : Int) (recs base : LR) : body3 k f i lo hi s t l e b recs base = hd3 k f i lo hi s t l e b ((if hasF k 4 = true then vi (recs.length : Int) else []) ++ recs3 (baseF b base) (-1) recs) := by
 unfold body3 head3 hd3
 cases hasF k 2 <;> simp
theorem hdS_sound {bs : List Int} (hb : ∀ c ∈ bs, 0 ≤ c ∧ c ≤ 255) {k f i lo hi s t l e b : Int} {a : Nat} (h : hdS bs = some (k, f, i, lo, hi, s, t, l, e, b, a)) :
  bs = hd3 k f i lo hi s t l e b (bs.drop a) ∧ a ≤ bs.length ∧ validF k f i lo hi s t l e b [] = true := by
 unfold hdS at h
 dsimp only at h
 generalize hF : optS bs true (hdSt bs) 4095 = F at h
 generalize hI : optS bs true F.2 281474976710655 = I at h
 generalize hP : spS bs I.2 = P at h
 generalize hS : optS bs (hasF (hdK bs) 0) P.2.2 65535 = S at h
 generalize hT : optS bs (hasF (hdK bs) 1) S.2 4095 = T at h
 generalize hL : optS bs (hasF (hdK bs) 2) T.2 281474976710655 = L at h
 generalize hE : optS bs (hasF (hdK bs) 2) L.2 65535 = E at h
 generalize hB : optS bs (hasF (hdK bs) 3) E.2 65535 = B at h
 cases hB2 : B.2 with
 | none => rw [hB2] at h; cases h
 | some a' =>
  rw [hB2] at h
  dsimp only at h
  by_cases hv : validF (hdK bs) F.1 I.1 P.1 P.2.1 S.1 T.1 L.1 E.1 B.1 [] = true
  ·rw [if_pos hv] at h
   cases h
   obtain ⟨a8, q8, e8, l8⟩ := optS_sound hb (h := by rw [hB]; exact hB2)
   obtain ⟨a7, q7, e7, l7⟩ := optS_sound hb (h := by rw [hE]; exact q8)
   obtain ⟨a6, q6, e6, l6⟩ := optS_sound hb (h := by rw [hL]; exact q7)
   obtain ⟨a5, q5, e5, l5⟩ := optS_sound hb (h := by rw [hT]; exact q6)
   obtain ⟨a4, q4, e4, l4⟩ := optS_sound hb (h := by rw [hS]; exact q5)
   obtain ⟨a3, q3, e3, l3⟩ := spS_sound hb (h := by rw [hP]; exact q4)
   obtain ⟨a2, q2, e2, l2⟩ := optS_sound hb (h := by rw [hI]; exact q3)
   obtain ⟨a1, q1, e1, l1⟩ := optS_sound hb (h := by rw [hF]; exact q2)
   rw [hF] at e1
   rw [hI] at e2
   rw [hP] at e3
   rw [hS] at e4
   rw [hT] at e5
   rw [hL] at e6
   rw [hE] at e7
   rw [hB] at e8
   have h1 : 0 < bs.length ∧ a1 = 1 := by
    unfold hdSt at q1
    by_cases h0 : 0 < bs.length
    ·rw [if_pos h0] at q1; cases q1; exact ⟨h0, rfl⟩
    ·rw [if_neg h0] at q1; cases q1
   obtain ⟨h0, rfl⟩ := h1
   have hk : bs = hdK bs :: bs.drop 1 := by
    cases bs with
    | nil => simp at h0
    | cons x m => rfl
   refine ⟨?_, l8 (l7 (l6 (l5 (l4 l3)))), hv⟩
   unfold hd3
   rw [← e8, ← e7, ← e6, ← e5, ← e4, ← e3]
   rw [if_pos rfl] at e1 e2
   rw [← e2, ← e1]
   exact hk
  ·rw [if_neg hv] at h; cases h
theorem hdS_back {bs : List Int} {k f i lo hi s t l e b : Int} {r : List Int} (h : bs = hd3 k f i lo hi s t l e b r) (hv : validF k f i lo hi s t l e b [] = true) :
  ∃ a, hdS bs = some (k, f, i, lo, hi, s, t, l, e, b, a) ∧ bs.drop a = r ∧ a ≤ bs.length := by
 obtain ⟨v1, v2, v3, v4, v5, v6, v7, v8, v9, v10, v11, v12, v13, v14⟩ := valid_facts hv
 obtain ⟨w1, w2, w3, w4, w5, w6, w7, w8, _⟩ := lives_facts v12
 obtain ⟨z1, z2⟩ := valid_zero hv
 unfold hd3 at h
 have hlen : 0 < bs.length := by rw [h]; simp
 have hk : hdK bs = k := by rw [h]; all_goals rfl
 have hst : hdSt bs = some 1 := by unfold hdSt; rw [if_pos hlen]
 have d1 : bs.drop 1 = (if true = true then vi f else []) ++ (vi i ++ ((lo * 16 + hi) :: ((if hasF k 0 = true then vi s else []) ++ ((if hasF k 1 = true then vi t else []) ++ ((if hasF k 2 = true then vi l else []) ++ ((if hasF k 2 = true then vi e else []) ++ ((if hasF k 3 = true then vi b else []) ++ r))))))) := by rw [h]; all_goals rfl
 obtain ⟨a1, e1, d1, l1⟩ := optS_back (most := 4095) d1 hlen v3 (by omega) v4 (by simp)
 obtain ⟨a2, e2, d2, l2⟩ := optS_back (c := true) (most := 281474976710655) d1 l1 v5 (by omega) v6 (by simp)
 obtain ⟨e3, d3, l3⟩ := spS_back d2 l2 v7
 obtain ⟨a4, e4, d4, l4⟩ := optS_back (most := 65535) d3 l3 v8 (by omega) v9 z1
 obtain ⟨a5, e5, d5, l5⟩ := optS_back (most := 4095) d4 l4 v10 (by omega) v11 z2
 obtain ⟨a6, e6, d6, l6⟩ := optS_back (most := 281474976710655) d5 l5 w1 (by omega) w2 (fun hh => (w7 hh).1)
 obtain ⟨a7, e7, d7, l7⟩ := optS_back (most := 65535) d6 l6 w3 (by omega) w4 (fun hh => (w7 hh).2)
 obtain ⟨a8, e8, d8, l8⟩ := optS_back (most := 65535) d7 l7 w5 (by omega) w6 w8
 refine ⟨a8, ?_, d8, l8⟩
 unfold hdS
 dsimp only
 rw [hk, hst, e1]
 dsimp only
 rw [e2]
 dsimp only
 rw [e3]
 dsimp only
 rw [e4]
 dsimp only
 rw [e5]
 dsimp only
 rw [e6]
 dsimp only
 rw [e7]
 dsimp only
 rw [e8]
 dsimp only
 rw [if_pos hv]
abbrev MSG3 := Int × Int × Int × Int × Int × Int × Int × Int × Int × Int × LR
noncomputable def restS (bs : List Int) (base : LR) (k : Int) (a : Nat) : Option (LR × Nat) :=
 if hasF k 4 = true then (match tk bs a 255 with
  | none => none
  | some (n, a1) => recsS bs base n.toNat (-1) a1) else some ([], a)
noncomputable def decS (bs : List Int) (base : LR) : Option MSG3 :=
 match hdS bs with
 | none => none
 | some (k, f, i, lo, hi, s, t, l, e, b, a) =>
  match restS bs (baseF b base) k a with
  | none => none
  | some (rs, a2) => if a2 = bs.length ∧ bs.length ≤ 65499 ∧ validF k f i lo hi s t l e b rs = true then some (k, f, i, lo, hi, s, t, l, e, b, rs) else none
theorem restS_sound {bs : List Int} (hb : ∀ c ∈ bs, 0 ≤ c ∧ c ≤ 255) {base : LR} {k : Int} {a : Nat} {rs : LR} {a2 : Nat} (ha : a ≤ bs.length) (h : restS bs base k a = some (rs, a2)) :
  bs.drop a = (if hasF k 4 = true then vi (rs.length : Int) else []) ++ recs3 base (-1) rs ++ bs.drop a2 ∧ a2 ≤ bs.length := by
 unfold restS at h
 cases h4 : hasF k 4 with
 | false =>
  rw [h4, if_neg (by simp)] at h
  cases h
  exact ⟨rfl, ha⟩
 | true =>
  rw [h4, if_pos rfl] at h
  rw [if_pos rfl]
  cases ht : tk bs a 255 with
  | none => rw [ht] at h; cases h
  | some p =>
   obtain ⟨n, a1⟩ := p
   rw [ht] at h
   dsimp only at h
   obtain ⟨e1, n0, n1, _, _, l1⟩ := tk_facts hb ht
   obtain ⟨e2, l2, n2⟩ := recsS_sound hb _ _ _ _ _ l1 h
   refine ⟨?_, l2⟩
   rw [e1, e2, n2, show ((n.toNat : Nat) : Int) = n from by omega, List.append_assoc]
theorem decS_sound {bs : List Int} (hb : ∀ c ∈ bs, 0 ≤ c ∧ c ≤ 255) {base : LR} {k f i lo hi s t l e b : Int} {rs : LR} (h : decS bs base = some (k, f, i, lo, hi, s, t, l, e, b, rs)) :
  body3 k f i lo hi s t l e b rs base = bs ∧ validF k f i lo hi s t l e b rs = true ∧ bs.length ≤ 65499 ∧ ∃ a, hdS bs = some (k, f, i, lo, hi, s, t, l, e, b, a) := by
 unfold decS at h
 cases hh : hdS bs with
 | none => rw [hh] at h; cases h
 | some p =>
  obtain ⟨k', f', i', lo', hi', s', t', l', e', b', a⟩ := p
  rw [hh] at h
  dsimp only at h
  obtain ⟨e1, l1, _⟩ := hdS_sound hb hh
  cases hr : restS bs (baseF b' base) k' a with
  | none => rw [hr] at h; cases h
  | some q =>
   obtain ⟨rs', a2⟩ := q
   rw [hr] at h
   dsimp only at h
   obtain ⟨e2, l2⟩ := restS_sound hb l1 hr
   by_cases hc : a2 = bs.length ∧ bs.length ≤ 65499 ∧ validF k' f' i' lo' hi' s' t' l' e' b' rs' = true
   ·rw [if_pos hc] at h
    obtain ⟨c1, c2, c3⟩ := hc
    cases h
    refine ⟨?_, c3, c2, a, rfl⟩
    rw [hd3_body]
    have e3 : bs.drop a = (if hasF k 4 = true then vi (rs.length : Int) else []) ++ recs3 (baseF b base) (-1) rs := by
     rw [e2, c1, List.drop_length, List.append_nil]
    rw [← e3]
    exact e1.symm
   ·rw [if_neg hc] at h; cases h
theorem baseF_all {base : LR} (h : ∀ x ∈ base, recOkT x = true) (b : Int) : ∀ x ∈ baseF b base, recOkT x = true := by
 unfold baseF
 split
 ·simp
 ·exact h
theorem decS_back {base : LR} (hbase : ∀ x ∈ base, recOkT x = true) {k f i lo hi s t l e b : Int} {rs : LR} (hv : validF k f i lo hi s t l e b rs = true) (hlen : (body3 k f i lo hi s t l e b rs base).length ≤ 65499) :
  decS (body3 k f i lo hi s t l e b rs base) base = some (k, f, i, lo, hi, s, t, l, e, b, rs) := by
 obtain ⟨v1, v2, v3, v4, v5, v6, v7, v8, v9, v10, v11, v12, v13, v14⟩ := valid_facts hv
 obtain ⟨u1, u2⟩ := valid_recs hv
 generalize hbs : body3 k f i lo hi s t l e b rs base = bs at hlen ⊢
 rw [hd3_body] at hbs
 obtain ⟨a, e1, d1, l1⟩ := hdS_back hbs.symm (valid_bare hv)
 have hr : restS bs (baseF b base) k a = some (rs, bs.length) := by
  unfold restS
  cases h4 : hasF k 4 with
  | false =>
   rw [h4] at d1
   have := u1 h4
   subst this
   have hl := congrArg List.length d1
   simp [recs3] at hl
   rw [if_neg (by simp), show a = bs.length from by omega]
  | true =>
   rw [h4, if_pos rfl] at d1
   rw [if_pos rfl]
   obtain ⟨k1, k2⟩ := tk_at (most := 255) d1 (by omega) (by omega) (by omega)
   rw [k1]
   dsimp only
   obtain ⟨k3, k4⟩ := recsS_back (baseF_all hbase b) rs (-1) _ [] v14 (by omega) u2 (by rw [k2, List.append_nil])
   rw [Int.toNat_natCast, k3]
   have hl := congrArg List.length d1
   simp only [List.length_drop, List.length_append] at hl
   rw [show a + (vi (rs.length : Int)).length + (recs3 (baseF b base) (-1) rs).length = bs.length from by omega]
 unfold decS
 rw [e1]
 dsimp only
 rw [hr]
 dsimp only
 rw [if_pos ⟨rfl, hlen, hv⟩]
noncomputable def msg_Head_E : Env := ⟨th, gam [], fun i => ⟨[], [], []⟩⟩
noncomputable def msg_Head.k (rs : List AV) (os : List Den.Obj) : Option (Int × Int × Int × Int × Int × Int × Int × Int × Int × Int × LR) :=
 match rs, os with
 | [.agg [.d (.int .i64) r0, .d (.int .i64) r1, .d (.int .i64) r2, .d (.int .i64) r3, .d (.int .i64) r4, .d (.int .i64) r5, .d (.int .i64) r6, .d (.int .i64) r7, .d (.int .i64) r8, .d (.int .i64) r9, .d (.sl (.pair (.int .i64) (.pair (.int .i64) (.pair (.int .i64) (.pair (.pair (.int .i64) (.int .i64)) (.pair .bool (.sl (.pair (.int .i64) (.sl (.int .u8)))))))))) r10]], [] => some (r0, r1, r2, r3, r4, r5, r6, r7, r8, r9, r10)
 | _, _ => none
noncomputable def msg_Head.b (mKind : Int) (mFrom : Int) (mInc : Int) (mSpanLo : Int) (mSpanHi : Int) (mSeq : Int) (mTarget : Int) (mLife : Int) (mEpoch : Int) (mBase : Int) (mRecs : LR) : Option (Int × Int × Int × Int × Int × Int × Int × Int × Int × Int × LR) :=
 some (mKind, mFrom, mInc, mSpanLo, mSpanHi, mSeq, mTarget, mLife, mEpoch, mBase, ([] : LR))
noncomputable def msg_Head.f (fuel : Nat) (mKind : Int) (mFrom : Int) (mInc : Int) (mSpanLo : Int) (mSpanHi : Int) (mSeq : Int) (mTarget : Int) (mLife : Int) (mEpoch : Int) (mBase : Int) (mRecs : LR) : Option (Int × Int × Int × Int × Int × Int × Int × Int × Int × Int × LR) := msg_Head.b mKind mFrom mInc mSpanLo mSpanHi mSeq mTarget mLife mEpoch mBase mRecs
theorem msg_Head.eq (fuel : Nat) (mKind : Int) (mFrom : Int) (mInc : Int) (mSpanLo : Int) (mSpanHi : Int) (mSeq : Int) (mTarget : Int) (mLife : Int) (mEpoch : Int) (mBase : Int) (mRecs : LR) : (denF msg_Head_E loopN fuel Try.f30 [.dat (.pair (.int .i64) (.pair (.int .i64) (.pair (.int .i64) (.pair (.pair (.int .i64) (.int .i64)) (.pair (.int .i64) (.pair (.int .i64) (.pair (.int .i64) (.pair (.int .i64) (.pair (.int .i64) (.sl (.pair (.int .i64) (.pair (.int .i64) (.pair (.int .i64) (.pair (.pair (.int .i64) (.int .i64)) (.pair .bool (.sl (.pair (.int .i64) (.sl (.int .u8))))))))))))))))))) true] [.agg [.d (.int .i64) mKind, .d (.int .i64) mFrom, .d (.int .i64) mInc, .d (.int .i64) mSpanLo, .d (.int .i64) mSpanHi, .d (.int .i64) mSeq, .d (.int .i64) mTarget, .d (.int .i64) mLife, .d (.int .i64) mEpoch, .d (.int .i64) mBase, .d (.sl (.pair (.int .i64) (.pair (.int .i64) (.pair (.int .i64) (.pair (.pair (.int .i64) (.int .i64)) (.pair .bool (.sl (.pair (.int .i64) (.sl (.int .u8)))))))))) mRecs]] [] msg_Head.k) = msg_Head.f fuel mKind mFrom mInc mSpanLo mSpanHi mSeq mTarget mLife mEpoch mBase mRecs := by
 kernel_rfl
noncomputable def s_msg_Head : Den.Sum := ⟨[.dat (.pair (.int .i64) (.pair (.int .i64) (.pair (.int .i64) (.pair (.pair (.int .i64) (.int .i64)) (.pair (.int .i64) (.pair (.int .i64) (.pair (.int .i64) (.pair (.int .i64) (.pair (.int .i64) (.sl (.pair (.int .i64) (.pair (.int .i64) (.pair (.int .i64) (.pair (.pair (.int .i64) (.int .i64)) (.pair .bool (.sl (.pair (.int .i64) (.sl (.int .u8))))))))))))))))))) true], fun args objs κ => match args, objs with
 | [.agg [.d (.int .i64) mKind, .d (.int .i64) mFrom, .d (.int .i64) mInc, .d (.int .i64) mSpanLo, .d (.int .i64) mSpanHi, .d (.int .i64) mSeq, .d (.int .i64) mTarget, .d (.int .i64) mLife, .d (.int .i64) mEpoch, .d (.int .i64) mBase, .d (.sl (.pair (.int .i64) (.pair (.int .i64) (.pair (.int .i64) (.pair (.pair (.int .i64) (.int .i64)) (.pair .bool (.sl (.pair (.int .i64) (.sl (.int .u8)))))))))) mRecs]], [] => (match veil (msg_Head.f BIG mKind mFrom mInc mSpanLo mSpanHi mSeq mTarget mLife mEpoch mBase mRecs) with | none => none | some y => κ [.agg [.d (.int .i64) y.1, .d (.int .i64) y.2.1, .d (.int .i64) y.2.2.1, .d (.int .i64) y.2.2.2.1, .d (.int .i64) y.2.2.2.2.1, .d (.int .i64) y.2.2.2.2.2.1, .d (.int .i64) y.2.2.2.2.2.2.1, .d (.int .i64) y.2.2.2.2.2.2.2.1, .d (.int .i64) y.2.2.2.2.2.2.2.2.1, .d (.int .i64) y.2.2.2.2.2.2.2.2.2.1, .d (.sl (.pair (.int .i64) (.pair (.int .i64) (.pair (.int .i64) (.pair (.pair (.int .i64) (.int .i64)) (.pair .bool (.sl (.pair (.int .i64) (.sl (.int .u8)))))))))) y.2.2.2.2.2.2.2.2.2.2]] [])
 | _, _ => none⟩
theorem s_msg_Head_det : SumDet s_msg_Head := fun avs objs R κ => by
 show s_msg_Head.run avs objs (two κ) = (s_msg_Head.run avs objs (two some)).bind κ
 unfold s_msg_Head
 simp only [veil_eq]
 split
 ·split <;> rfl
 ·rfl
theorem s_msg_Head_ok : SumOk Try.prog 30 s_msg_Head := by
 have hE : EnvOk Try.prog msg_Head_E := env_ok (l := []) th_ok any_ok trivial _
 refine sum_ok hE Try.func30 rfl (by kernel_rfl) s_msg_Head [.dat (.pair (.int .i64) (.pair (.int .i64) (.pair (.int .i64) (.pair (.pair (.int .i64) (.int .i64)) (.pair (.int .i64) (.pair (.int .i64) (.pair (.int .i64) (.pair (.int .i64) (.pair (.int .i64) (.sl (.pair (.int .i64) (.pair (.int .i64) (.pair (.int .i64) (.pair (.pair (.int .i64) (.int .i64)) (.pair .bool (.sl (.pair (.int .i64) (.sl (.int .u8))))))))))))))))))) true] msg_Head.k ?_
 intro R avs objs κ r h
 unfold s_msg_Head at h
 simp only [veil_eq] at h
 split at h
 ·rename_i mKind mFrom mInc mSpanLo mSpanHi mSeq mTarget mLife mEpoch mBase mRecs
  split at h
  ·cases h
  ·rename_i y hy
   refine ⟨BIG, _, _, _, (msg_Head.eq BIG mKind mFrom mInc mSpanLo mSpanHi mSeq mTarget mLife mEpoch mBase mRecs).trans hy, ?_, h⟩
   intro rs ros hk
   unfold msg_Head.k at hk
   split at hk
   ·first | (cases hk; exact ⟨rfl, rfl⟩) | (have e := Option.some.inj hk; rw [← e]; exact ⟨rfl, rfl⟩)
   ·cases hk
 ·cases h
noncomputable def varint_Zag_E : Env := ⟨th, gam [], fun i => ⟨[], [], []⟩⟩
noncomputable def varint_Zag.k (rs : List AV) (os : List Den.Obj) : Option Int :=
 match rs, os with
 | [.d (.int .i64) r0], [] => some r0
 | _, _ => none
noncomputable def varint_Zag.b (v : Int) : Option Int :=
 some ((bits Go.BinOp.xor .i64 (Go.IntKind.wrap .i64 (Int.fdiv v ((2 : Int) ^ (Min.min (Int.toNat (1 : Int)) (Go.IntKind.bits .u64))))) (Go.IntKind.wrap .i64 ((0 : Int) - (Go.IntKind.wrap .i64 (bits Go.BinOp.and .u64 v (1 : Int)))))))
noncomputable def varint_Zag.f (fuel : Nat) (v : Int) : Option Int := varint_Zag.b v
theorem varint_Zag.eq (fuel : Nat) (v : Int) : (denF varint_Zag_E loopN fuel Try.f106 [.raw] [.d (.int .u64) v] [] varint_Zag.k) = varint_Zag.f fuel v := by
 kernel_rfl
noncomputable def s_varint_Zag : Den.Sum := ⟨[.raw], fun args objs κ => match args, objs with
 | [.d (.int .u64) v], [] => (match veil (varint_Zag.f BIG v) with | none => none | some y => κ [.d (.int .i64) y] [])
 | _, _ => none⟩
theorem s_varint_Zag_det : SumDet s_varint_Zag := fun avs objs R κ => by
 show s_varint_Zag.run avs objs (two κ) = (s_varint_Zag.run avs objs (two some)).bind κ
 unfold s_varint_Zag
 simp only [veil_eq]
 split
 ·split <;> rfl
 ·rfl
theorem s_varint_Zag_ok : SumOk Try.prog 106 s_varint_Zag := by
 have hE : EnvOk Try.prog varint_Zag_E := env_ok (l := []) th_ok any_ok trivial _
 refine sum_ok hE Try.func106 rfl (by kernel_rfl) s_varint_Zag [.raw] varint_Zag.k ?_
 intro R avs objs κ r h
 unfold s_varint_Zag at h
 simp only [veil_eq] at h
 split at h
 ·rename_i v
  split at h
  ·cases h
  ·rename_i y hy
   refine ⟨BIG, _, _, _, (varint_Zag.eq BIG v).trans hy, ?_, h⟩
   intro rs ros hk
   unfold varint_Zag.k at hk
   split at hk
   ·first | (cases hk; exact ⟨rfl, rfl⟩) | (have e := Option.some.inj hk; rw [← e]; exact ⟨rfl, rfl⟩)
   ·cases hk
 ·cases h
noncomputable def gen3_Head_E : Env := ⟨th, gam [(71, s_read), (72, s_gen3_reader_head)], fun i => ⟨[], [], []⟩⟩
noncomputable def gen3_Head.k (rs : List AV) (os : List Den.Obj) : Option (Int × Int × Int × Int × Int × Int × Int × Int × Int × Int × LR × Int) :=
 match rs, os with
 | [.agg [.d (.int .i64) r0, .d (.int .i64) r1, .d (.int .i64) r2, .d (.int .i64) r3, .d (.int .i64) r4, .d (.int .i64) r5, .d (.int .i64) r6, .d (.int .i64) r7, .d (.int .i64) r8, .d (.int .i64) r9, .d (.sl (.pair (.int .i64) (.pair (.int .i64) (.pair (.int .i64) (.pair (.pair (.int .i64) (.int .i64)) (.pair .bool (.sl (.pair (.int .i64) (.sl (.int .u8)))))))))) r10], .d (.int .i64) r11], [] => some (r0, r1, r2, r3, r4, r5, r6, r7, r8, r9, r10, r11)
 | _, _ => none
noncomputable def gen3_Head.b (b : List Int) : Option (Int × Int × Int × Int × Int × Int × Int × Int × Int × Int × LR × Int) :=
 (if (inB b) then (match (veil (gen3_reader_head.f BIG b 0 false false)) with | none => none | some y0 => (if y0.2.2.2.2.2.2.2.2.2.2.2.1 then some (0, 0, 0, 0, 0, 0, 0, 0, 0, 0, ([] : LR), (4 : Int)) else some (y0.1, y0.2.1, y0.2.2.1, y0.2.2.2.1, y0.2.2.2.2.1, y0.2.2.2.2.2.1, y0.2.2.2.2.2.2.1, y0.2.2.2.2.2.2.2.1, y0.2.2.2.2.2.2.2.2.1, y0.2.2.2.2.2.2.2.2.2.1, y0.2.2.2.2.2.2.2.2.2.2.1, (0 : Int)))) else none)
noncomputable def gen3_Head.f (fuel : Nat) (b : List Int) : Option (Int × Int × Int × Int × Int × Int × Int × Int × Int × Int × LR × Int) := gen3_Head.b b
theorem gen3_Head.eq (fuel : Nat) (b : List Int) : (denF gen3_Head_E loopN fuel Try.f26 [.dat (.pair (.int .i64) (.pair (.int .i64) (.pair (.int .i64) (.pair (.pair (.int .i64) (.int .i64)) (.pair (.int .i64) (.pair (.int .i64) (.pair (.int .i64) (.pair (.int .i64) (.pair (.int .i64) (.sl (.pair (.int .i64) (.pair (.int .i64) (.pair (.int .i64) (.pair (.pair (.int .i64) (.int .i64)) (.pair .bool (.sl (.pair (.int .i64) (.sl (.int .u8))))))))))))))))))) true, .raw] [.d (.sl (.int .u8)) b] [] gen3_Head.k) = gen3_Head.f fuel b := by
 kernel_rfl
noncomputable def s_gen3_Head : Den.Sum := ⟨[.dat (.sl (.int .u8)) false], fun args objs κ => match args, objs with
 | [.d (.sl (.int .u8)) b], [] => (match veil (gen3_Head.f BIG b) with | none => none | some y => κ [.agg [.d (.int .i64) y.1, .d (.int .i64) y.2.1, .d (.int .i64) y.2.2.1, .d (.int .i64) y.2.2.2.1, .d (.int .i64) y.2.2.2.2.1, .d (.int .i64) y.2.2.2.2.2.1, .d (.int .i64) y.2.2.2.2.2.2.1, .d (.int .i64) y.2.2.2.2.2.2.2.1, .d (.int .i64) y.2.2.2.2.2.2.2.2.1, .d (.int .i64) y.2.2.2.2.2.2.2.2.2.1, .d (.sl (.pair (.int .i64) (.pair (.int .i64) (.pair (.int .i64) (.pair (.pair (.int .i64) (.int .i64)) (.pair .bool (.sl (.pair (.int .i64) (.sl (.int .u8)))))))))) y.2.2.2.2.2.2.2.2.2.2.1], .d (.int .i64) y.2.2.2.2.2.2.2.2.2.2.2] [])
 | _, _ => none⟩
theorem s_gen3_Head_det : SumDet s_gen3_Head := fun avs objs R κ => by
 show s_gen3_Head.run avs objs (two κ) = (s_gen3_Head.run avs objs (two some)).bind κ
 unfold s_gen3_Head
 simp only [veil_eq]
 split
 ·split <;> rfl
 ·rfl
theorem s_gen3_Head_ok : SumOk Try.prog 26 s_gen3_Head := by
 have hE : EnvOk Try.prog gen3_Head_E := env_ok (l := [(71, s_read), (72, s_gen3_reader_head)]) th_ok any_ok ⟨⟨s_read_ok, s_read_det⟩, ⟨s_gen3_reader_head_ok, s_gen3_reader_head_det⟩, trivial⟩ _
 refine sum_ok hE Try.func26 rfl (by kernel_rfl) s_gen3_Head [.dat (.pair (.int .i64) (.pair (.int .i64) (.pair (.int .i64) (.pair (.pair (.int .i64) (.int .i64)) (.pair (.int .i64) (.pair (.int .i64) (.pair (.int .i64) (.pair (.int .i64) (.pair (.int .i64) (.sl (.pair (.int .i64) (.pair (.int .i64) (.pair (.int .i64) (.pair (.pair (.int .i64) (.int .i64)) (.pair .bool (.sl (.pair (.int .i64) (.sl (.int .u8))))))))))))))))))) true, .raw] gen3_Head.k ?_
 intro R avs objs κ r h
 unfold s_gen3_Head at h
 simp only [veil_eq] at h
 split at h
 ·rename_i b
  split at h
  ·cases h
  ·rename_i y hy
   refine ⟨BIG, _, _, _, (gen3_Head.eq BIG b).trans hy, ?_, h⟩
   intro rs ros hk
   unfold gen3_Head.k at hk
   split at hk
   ·first | (cases hk; exact ⟨rfl, rfl⟩) | (have e := Option.some.inj hk; rw [← e]; exact ⟨rfl, rfl⟩)
   ·cases hk
 ·cases h
noncomputable def gen3_reader_headR_E : Env := ⟨th, gam [(20, s_valid), (50, s_has), (74, s_gen3_reader_form), (101, s_rnumb), (102, s_gen3_reader_span), (103, s_bad)], fun i => ⟨[], [], []⟩⟩
noncomputable def gen3_reader_headR.k (rs : List AV) (os : List Den.Obj) : Option (Int × Int × Int × Int × Int × Int × Int × Int × Int × Int × Bool × (List Int) × Int × Bool) :=
 match rs, os with
 | [.agg [.d (.int .i64) r0, .d (.int .i64) r1, .d (.int .i64) r2, .d (.int .i64) r3, .d (.int .i64) r4, .d (.int .i64) r5, .d (.int .i64) r6, .d (.int .i64) r7, .d (.int .i64) r8, .d (.int .i64) r9, .nilsl]], [.box [.ptr 1 0, .d .bool r10], .box [.d (.sl (.int .u8)) r11, .d (.int .i64) r12, .d .bool r13]] => some (r0, r1, r2, r3, r4, r5, r6, r7, r8, r9, r10, r11, r12, r13)
 | _, _ => none
noncomputable def gen3_reader_headR.b (bs : List Int) (at0 : Int) (bad : Bool) (wrong : Bool) : Option (Int × Int × Int × Int × Int × Int × Int × Int × Int × Int × Bool × (List Int) × Int × Bool) :=
 (if (atOk bs at0) then (match (veil (Option.some (readF bs (1 : Int) at0 bad))) with | none => none | some y0 => (match (veil (gen3_reader_form.f BIG bs y0.2.1 y0.2.2 wrong (4095 : Int))) with | none => none | some y1 => (match (veil (gen3_reader_form.f BIG y1.2.2.1 y1.2.2.2.1 y1.2.2.2.2 y1.2.1 (veil (281474976710655 : Int)))) with | none => none | some y2 => (match (veil (gen3_reader_span.f BIG y2.2.2.1 y2.2.2.2.1 y2.2.2.2.2 y2.2.1)) with | none => none | some y3 => (if (hasF y0.1 (0 : Int)) then (match (veil (gen3_reader_form.f BIG y3.2.2.2.1 y3.2.2.2.2.1 y3.2.2.2.2.2 y3.2.2.1 (65535 : Int))) with | none => none | some y4 => (if (hasF y0.1 (1 : Int)) then (match (veil (gen3_reader_form.f BIG y4.2.2.1 y4.2.2.2.1 y4.2.2.2.2 y4.2.1 (4095 : Int))) with | none => none | some y5 => (if (hasF y0.1 (2 : Int)) then (match (veil (gen3_reader_form.f BIG y5.2.2.1 y5.2.2.2.1 y5.2.2.2.2 y5.2.1 (veil (281474976710655 : Int)))) with | none => none | some y6 => (match (veil (gen3_reader_form.f BIG y6.2.2.1 y6.2.2.2.1 y6.2.2.2.2 y6.2.1 (65535 : Int))) with | none => none | some y7 => (if (hasF y0.1 (3 : Int)) then (match (veil (gen3_reader_form.f BIG y7.2.2.1 y7.2.2.2.1 y7.2.2.2.2 y7.2.1 (65535 : Int))) with | none => none | some y8 => (if y8.2.2.2.2 then some (y0.1, y1.1, y2.1, y3.1, y3.2.1, y4.1, y5.1, y6.1, y7.1, y8.1, true, y8.2.2.1, y8.2.2.2.1, y8.2.2.2.2) else (if (!(validF y0.1 y1.1 y2.1 y3.1 y3.2.1 y4.1 y5.1 y6.1 y7.1 y8.1 ([] : LR))) then some (y0.1, y1.1, y2.1, y3.1, y3.2.1, y4.1, y5.1, y6.1, y7.1, y8.1, true, y8.2.2.1, y8.2.2.2.1, y8.2.2.2.2) else some (y0.1, y1.1, y2.1, y3.1, y3.2.1, y4.1, y5.1, y6.1, y7.1, y8.1, y8.2.1, y8.2.2.1, y8.2.2.2.1, y8.2.2.2.2)))) else (if y7.2.2.2.2 then some (y0.1, y1.1, y2.1, y3.1, y3.2.1, y4.1, y5.1, y6.1, y7.1, 0, true, y7.2.2.1, y7.2.2.2.1, y7.2.2.2.2) else (if (!(validF y0.1 y1.1 y2.1 y3.1 y3.2.1 y4.1 y5.1 y6.1 y7.1 0 ([] : LR))) then some (y0.1, y1.1, y2.1, y3.1, y3.2.1, y4.1, y5.1, y6.1, y7.1, 0, true, y7.2.2.1, y7.2.2.2.1, y7.2.2.2.2) else some (y0.1, y1.1, y2.1, y3.1, y3.2.1, y4.1, y5.1, y6.1, y7.1, 0, y7.2.1, y7.2.2.1, y7.2.2.2.1, y7.2.2.2.2)))))) else (if (hasF y0.1 (3 : Int)) then (match (veil (gen3_reader_form.f BIG y5.2.2.1 y5.2.2.2.1 y5.2.2.2.2 y5.2.1 (65535 : Int))) with | none => none | some y9 => (if y9.2.2.2.2 then some (y0.1, y1.1, y2.1, y3.1, y3.2.1, y4.1, y5.1, 0, 0, y9.1, true, y9.2.2.1, y9.2.2.2.1, y9.2.2.2.2) else (if (!(validF y0.1 y1.1 y2.1 y3.1 y3.2.1 y4.1 y5.1 0 0 y9.1 ([] : LR))) then some (y0.1, y1.1, y2.1, y3.1, y3.2.1, y4.1, y5.1, 0, 0, y9.1, true, y9.2.2.1, y9.2.2.2.1, y9.2.2.2.2) else some (y0.1, y1.1, y2.1, y3.1, y3.2.1, y4.1, y5.1, 0, 0, y9.1, y9.2.1, y9.2.2.1, y9.2.2.2.1, y9.2.2.2.2)))) else (if y5.2.2.2.2 then some (y0.1, y1.1, y2.1, y3.1, y3.2.1, y4.1, y5.1, 0, 0, 0, true, y5.2.2.1, y5.2.2.2.1, y5.2.2.2.2) else (if (!(validF y0.1 y1.1 y2.1 y3.1 y3.2.1 y4.1 y5.1 0 0 0 ([] : LR))) then some (y0.1, y1.1, y2.1, y3.1, y3.2.1, y4.1, y5.1, 0, 0, 0, true, y5.2.2.1, y5.2.2.2.1, y5.2.2.2.2) else some (y0.1, y1.1, y2.1, y3.1, y3.2.1, y4.1, y5.1, 0, 0, 0, y5.2.1, y5.2.2.1, y5.2.2.2.1, y5.2.2.2.2)))))) else (if (hasF y0.1 (2 : Int)) then (match (veil (gen3_reader_form.f BIG y4.2.2.1 y4.2.2.2.1 y4.2.2.2.2 y4.2.1 (veil (281474976710655 : Int)))) with | none => none | some y10 => (match (veil (gen3_reader_form.f BIG y10.2.2.1 y10.2.2.2.1 y10.2.2.2.2 y10.2.1 (65535 : Int))) with | none => none | some y11 => (if (hasF y0.1 (3 : Int)) then (match (veil (gen3_reader_form.f BIG y11.2.2.1 y11.2.2.2.1 y11.2.2.2.2 y11.2.1 (65535 : Int))) with | none => none | some y12 => (if y12.2.2.2.2 then some (y0.1, y1.1, y2.1, y3.1, y3.2.1, y4.1, 0, y10.1, y11.1, y12.1, true, y12.2.2.1, y12.2.2.2.1, y12.2.2.2.2) else (if (!(validF y0.1 y1.1 y2.1 y3.1 y3.2.1 y4.1 0 y10.1 y11.1 y12.1 ([] : LR))) then some (y0.1, y1.1, y2.1, y3.1, y3.2.1, y4.1, 0, y10.1, y11.1, y12.1, true, y12.2.2.1, y12.2.2.2.1, y12.2.2.2.2) else some (y0.1, y1.1, y2.1, y3.1, y3.2.1, y4.1, 0, y10.1, y11.1, y12.1, y12.2.1, y12.2.2.1, y12.2.2.2.1, y12.2.2.2.2)))) else (if y11.2.2.2.2 then some (y0.1, y1.1, y2.1, y3.1, y3.2.1, y4.1, 0, y10.1, y11.1, 0, true, y11.2.2.1, y11.2.2.2.1, y11.2.2.2.2) else (if (!(validF y0.1 y1.1 y2.1 y3.1 y3.2.1 y4.1 0 y10.1 y11.1 0 ([] : LR))) then some (y0.1, y1.1, y2.1, y3.1, y3.2.1, y4.1, 0, y10.1, y11.1, 0, true, y11.2.2.1, y11.2.2.2.1, y11.2.2.2.2) else some (y0.1, y1.1, y2.1, y3.1, y3.2.1, y4.1, 0, y10.1, y11.1, 0, y11.2.1, y11.2.2.1, y11.2.2.2.1, y11.2.2.2.2)))))) else (if (hasF y0.1 (3 : Int)) then (match (veil (gen3_reader_form.f BIG y4.2.2.1 y4.2.2.2.1 y4.2.2.2.2 y4.2.1 (65535 : Int))) with | none => none | some y13 => (if y13.2.2.2.2 then some (y0.1, y1.1, y2.1, y3.1, y3.2.1, y4.1, 0, 0, 0, y13.1, true, y13.2.2.1, y13.2.2.2.1, y13.2.2.2.2) else (if (!(validF y0.1 y1.1 y2.1 y3.1 y3.2.1 y4.1 0 0 0 y13.1 ([] : LR))) then some (y0.1, y1.1, y2.1, y3.1, y3.2.1, y4.1, 0, 0, 0, y13.1, true, y13.2.2.1, y13.2.2.2.1, y13.2.2.2.2) else some (y0.1, y1.1, y2.1, y3.1, y3.2.1, y4.1, 0, 0, 0, y13.1, y13.2.1, y13.2.2.1, y13.2.2.2.1, y13.2.2.2.2)))) else (if y4.2.2.2.2 then some (y0.1, y1.1, y2.1, y3.1, y3.2.1, y4.1, 0, 0, 0, 0, true, y4.2.2.1, y4.2.2.2.1, y4.2.2.2.2) else (if (!(validF y0.1 y1.1 y2.1 y3.1 y3.2.1 y4.1 0 0 0 0 ([] : LR))) then some (y0.1, y1.1, y2.1, y3.1, y3.2.1, y4.1, 0, 0, 0, 0, true, y4.2.2.1, y4.2.2.2.1, y4.2.2.2.2) else some (y0.1, y1.1, y2.1, y3.1, y3.2.1, y4.1, 0, 0, 0, 0, y4.2.1, y4.2.2.1, y4.2.2.2.1, y4.2.2.2.2))))))) else (if (hasF y0.1 (1 : Int)) then (match (veil (gen3_reader_form.f BIG y3.2.2.2.1 y3.2.2.2.2.1 y3.2.2.2.2.2 y3.2.2.1 (4095 : Int))) with | none => none | some y14 => (if (hasF y0.1 (2 : Int)) then (match (veil (gen3_reader_form.f BIG y14.2.2.1 y14.2.2.2.1 y14.2.2.2.2 y14.2.1 (veil (281474976710655 : Int)))) with | none => none | some y15 => (match (veil (gen3_reader_form.f BIG y15.2.2.1 y15.2.2.2.1 y15.2.2.2.2 y15.2.1 (65535 : Int))) with | none => none | some y16 => (if (hasF y0.1 (3 : Int)) then (match (veil (gen3_reader_form.f BIG y16.2.2.1 y16.2.2.2.1 y16.2.2.2.2 y16.2.1 (65535 : Int))) with | none => none | some y17 => (if y17.2.2.2.2 then some (y0.1, y1.1, y2.1, y3.1, y3.2.1, 0, y14.1, y15.1, y16.1, y17.1, true, y17.2.2.1, y17.2.2.2.1, y17.2.2.2.2) else (if (!(validF y0.1 y1.1 y2.1 y3.1 y3.2.1 0 y14.1 y15.1 y16.1 y17.1 ([] : LR))) then some (y0.1, y1.1, y2.1, y3.1, y3.2.1, 0, y14.1, y15.1, y16.1, y17.1, true, y17.2.2.1, y17.2.2.2.1, y17.2.2.2.2) else some (y0.1, y1.1, y2.1, y3.1, y3.2.1, 0, y14.1, y15.1, y16.1, y17.1, y17.2.1, y17.2.2.1, y17.2.2.2.1, y17.2.2.2.2)))) else (if y16.2.2.2.2 then some (y0.1, y1.1, y2.1, y3.1, y3.2.1, 0, y14.1, y15.1, y16.1, 0, true, y16.2.2.1, y16.2.2.2.1, y16.2.2.2.2) else (if (!(validF y0.1 y1.1 y2.1 y3.1 y3.2.1 0 y14.1 y15.1 y16.1 0 ([] : LR))) then some (y0.1, y1.1, y2.1, y3.1, y3.2.1, 0, y14.1, y15.1, y16.1, 0, true, y16.2.2.1, y16.2.2.2.1, y16.2.2.2.2) else some (y0.1, y1.1, y2.1, y3.1, y3.2.1, 0, y14.1, y15.1, y16.1, 0, y16.2.1, y16.2.2.1, y16.2.2.2.1, y16.2.2.2.2)))))) else (if (hasF y0.1 (3 : Int)) then (match (veil (gen3_reader_form.f BIG y14.2.2.1 y14.2.2.2.1 y14.2.2.2.2 y14.2.1 (65535 : Int))) with | none => none | some y18 => (if y18.2.2.2.2 then some (y0.1, y1.1, y2.1, y3.1, y3.2.1, 0, y14.1, 0, 0, y18.1, true, y18.2.2.1, y18.2.2.2.1, y18.2.2.2.2) else (if (!(validF y0.1 y1.1 y2.1 y3.1 y3.2.1 0 y14.1 0 0 y18.1 ([] : LR))) then some (y0.1, y1.1, y2.1, y3.1, y3.2.1, 0, y14.1, 0, 0, y18.1, true, y18.2.2.1, y18.2.2.2.1, y18.2.2.2.2) else some (y0.1, y1.1, y2.1, y3.1, y3.2.1, 0, y14.1, 0, 0, y18.1, y18.2.1, y18.2.2.1, y18.2.2.2.1, y18.2.2.2.2)))) else (if y14.2.2.2.2 then some (y0.1, y1.1, y2.1, y3.1, y3.2.1, 0, y14.1, 0, 0, 0, true, y14.2.2.1, y14.2.2.2.1, y14.2.2.2.2) else (if (!(validF y0.1 y1.1 y2.1 y3.1 y3.2.1 0 y14.1 0 0 0 ([] : LR))) then some (y0.1, y1.1, y2.1, y3.1, y3.2.1, 0, y14.1, 0, 0, 0, true, y14.2.2.1, y14.2.2.2.1, y14.2.2.2.2) else some (y0.1, y1.1, y2.1, y3.1, y3.2.1, 0, y14.1, 0, 0, 0, y14.2.1, y14.2.2.1, y14.2.2.2.1, y14.2.2.2.2)))))) else (if (hasF y0.1 (2 : Int)) then (match (veil (gen3_reader_form.f BIG y3.2.2.2.1 y3.2.2.2.2.1 y3.2.2.2.2.2 y3.2.2.1 (veil (281474976710655 : Int)))) with | none => none | some y19 => (match (veil (gen3_reader_form.f BIG y19.2.2.1 y19.2.2.2.1 y19.2.2.2.2 y19.2.1 (65535 : Int))) with | none => none | some y20 => (if (hasF y0.1 (3 : Int)) then (match (veil (gen3_reader_form.f BIG y20.2.2.1 y20.2.2.2.1 y20.2.2.2.2 y20.2.1 (65535 : Int))) with | none => none | some y21 => (if y21.2.2.2.2 then some (y0.1, y1.1, y2.1, y3.1, y3.2.1, 0, 0, y19.1, y20.1, y21.1, true, y21.2.2.1, y21.2.2.2.1, y21.2.2.2.2) else (if (!(validF y0.1 y1.1 y2.1 y3.1 y3.2.1 0 0 y19.1 y20.1 y21.1 ([] : LR))) then some (y0.1, y1.1, y2.1, y3.1, y3.2.1, 0, 0, y19.1, y20.1, y21.1, true, y21.2.2.1, y21.2.2.2.1, y21.2.2.2.2) else some (y0.1, y1.1, y2.1, y3.1, y3.2.1, 0, 0, y19.1, y20.1, y21.1, y21.2.1, y21.2.2.1, y21.2.2.2.1, y21.2.2.2.2)))) else (if y20.2.2.2.2 then some (y0.1, y1.1, y2.1, y3.1, y3.2.1, 0, 0, y19.1, y20.1, 0, true, y20.2.2.1, y20.2.2.2.1, y20.2.2.2.2) else (if (!(validF y0.1 y1.1 y2.1 y3.1 y3.2.1 0 0 y19.1 y20.1 0 ([] : LR))) then some (y0.1, y1.1, y2.1, y3.1, y3.2.1, 0, 0, y19.1, y20.1, 0, true, y20.2.2.1, y20.2.2.2.1, y20.2.2.2.2) else some (y0.1, y1.1, y2.1, y3.1, y3.2.1, 0, 0, y19.1, y20.1, 0, y20.2.1, y20.2.2.1, y20.2.2.2.1, y20.2.2.2.2)))))) else (if (hasF y0.1 (3 : Int)) then (match (veil (gen3_reader_form.f BIG y3.2.2.2.1 y3.2.2.2.2.1 y3.2.2.2.2.2 y3.2.2.1 (65535 : Int))) with | none => none | some y22 => (if y22.2.2.2.2 then some (y0.1, y1.1, y2.1, y3.1, y3.2.1, 0, 0, 0, 0, y22.1, true, y22.2.2.1, y22.2.2.2.1, y22.2.2.2.2) else (if (!(validF y0.1 y1.1 y2.1 y3.1 y3.2.1 0 0 0 0 y22.1 ([] : LR))) then some (y0.1, y1.1, y2.1, y3.1, y3.2.1, 0, 0, 0, 0, y22.1, true, y22.2.2.1, y22.2.2.2.1, y22.2.2.2.2) else some (y0.1, y1.1, y2.1, y3.1, y3.2.1, 0, 0, 0, 0, y22.1, y22.2.1, y22.2.2.1, y22.2.2.2.1, y22.2.2.2.2)))) else (if y3.2.2.2.2.2 then some (y0.1, y1.1, y2.1, y3.1, y3.2.1, 0, 0, 0, 0, 0, true, y3.2.2.2.1, y3.2.2.2.2.1, y3.2.2.2.2.2) else (if (!(validF y0.1 y1.1 y2.1 y3.1 y3.2.1 0 0 0 0 0 ([] : LR))) then some (y0.1, y1.1, y2.1, y3.1, y3.2.1, 0, 0, 0, 0, 0, true, y3.2.2.2.1, y3.2.2.2.2.1, y3.2.2.2.2.2) else some (y0.1, y1.1, y2.1, y3.1, y3.2.1, 0, 0, 0, 0, 0, y3.2.2.1, y3.2.2.2.1, y3.2.2.2.2.1, y3.2.2.2.2.2))))))))))) else none)
noncomputable def gen3_reader_headR.f (fuel : Nat) (bs : List Int) (at0 : Int) (bad : Bool) (wrong : Bool) : Option (Int × Int × Int × Int × Int × Int × Int × Int × Int × Int × Bool × (List Int) × Int × Bool) := gen3_reader_headR.b bs at0 bad wrong
theorem gen3_reader_headR.eq (fuel : Nat) (bs : List Int) (at0 : Int) (bad : Bool) (wrong : Bool) : (denF gen3_reader_headR_E loopN fuel Try.f72 [.raw] [.ptr 0 0] [.box [.ptr 1 0, .d .bool wrong], .box [.d (.sl (.int .u8)) bs, .d (.int .i64) at0, .d .bool bad]] gen3_reader_headR.k) = gen3_reader_headR.f fuel bs at0 bad wrong := by
 kernel_rfl
noncomputable def s_gen3_reader_headR : Den.Sum := ⟨[.pb [.frz none [0] 0 (.int .u8)]], fun args objs κ => match args, objs with
 | [.ptr 0 0], [.box [.ptr 1 0, .d .bool wrong], .box [.d (.sl (.int .u8)) bs, .d (.int .i64) at0, .d .bool bad]] => (match veil (gen3_reader_headR.f BIG bs at0 bad wrong) with | none => none | some y => κ [.agg [.d (.int .i64) y.1, .d (.int .i64) y.2.1, .d (.int .i64) y.2.2.1, .d (.int .i64) y.2.2.2.1, .d (.int .i64) y.2.2.2.2.1, .d (.int .i64) y.2.2.2.2.2.1, .d (.int .i64) y.2.2.2.2.2.2.1, .d (.int .i64) y.2.2.2.2.2.2.2.1, .d (.int .i64) y.2.2.2.2.2.2.2.2.1, .d (.int .i64) y.2.2.2.2.2.2.2.2.2.1, .nilsl]] [.box [.ptr 1 0, .d .bool y.2.2.2.2.2.2.2.2.2.2.1], .box [.d (.sl (.int .u8)) y.2.2.2.2.2.2.2.2.2.2.2.1, .d (.int .i64) y.2.2.2.2.2.2.2.2.2.2.2.2.1, .d .bool y.2.2.2.2.2.2.2.2.2.2.2.2.2]])
 | _, _ => none⟩
theorem s_gen3_reader_headR_det : SumDet s_gen3_reader_headR := fun avs objs R κ => by
 show s_gen3_reader_headR.run avs objs (two κ) = (s_gen3_reader_headR.run avs objs (two some)).bind κ
 unfold s_gen3_reader_headR
 simp only [veil_eq]
 split
 ·split <;> rfl
 ·rfl
theorem s_gen3_reader_headR_ok : SumOk Try.prog 72 s_gen3_reader_headR := by
 have hE : EnvOk Try.prog gen3_reader_headR_E := env_ok (l := [(20, s_valid), (50, s_has), (74, s_gen3_reader_form), (101, s_rnumb), (102, s_gen3_reader_span), (103, s_bad)]) th_ok any_ok ⟨⟨s_valid_ok, s_valid_det⟩, ⟨s_has_ok, s_has_det⟩, ⟨s_gen3_reader_form_ok, s_gen3_reader_form_det⟩, ⟨s_rnumb_ok, s_rnumb_det⟩, ⟨s_gen3_reader_span_ok, s_gen3_reader_span_det⟩, ⟨s_bad_ok, s_bad_det⟩, trivial⟩ _
 refine sum_ok hE Try.func72 rfl (by kernel_rfl) s_gen3_reader_headR [.raw] gen3_reader_headR.k ?_
 intro R avs objs κ r h
 unfold s_gen3_reader_headR at h
 simp only [veil_eq] at h
 split at h
 ·rename_i wrong bs at0 bad
  split at h
  ·cases h
  ·rename_i y hy
   refine ⟨BIG, _, _, _, (gen3_reader_headR.eq BIG bs at0 bad wrong).trans hy, ?_, h⟩
   intro rs ros hk
   unfold gen3_reader_headR.k at hk
   split at hk
   ·first | (cases hk; exact ⟨rfl, rfl⟩) | (have e := Option.some.inj hk; rw [← e]; exact ⟨rfl, rfl⟩)
   ·cases hk
 ·cases h
noncomputable def gen3_reader_fields_E : Env := ⟨th, gam [(74, s_gen3_reader_form), (101, s_rnumb), (103, s_bad), (136, s_takeb)], fun i => if i = 4 then ⟨[0, 3, 4, 5], [(3, 66, (.pair (.int .i64) (.sl (.int .u8))))], []⟩ else ⟨[], [], []⟩⟩
noncomputable def gen3_reader_fields.k (rs : List AV) (os : List Den.Obj) : Option (Bool × (List Int) × Int × Bool × LF) :=
 match rs, os with
 | [.row 2], [.box [.ptr 1 0, .d .bool r0], .box [.d (.sl (.int .u8)) r1, .d (.int .i64) r2, .d .bool r3], .row 66 (.pair (.int .i64) (.sl (.int .u8))) r4 false] => some (r0, r1, r2, r3, r4)
 | _, _ => none
noncomputable def gen3_reader_fields.s4 (bs : List Int) (at0 : Int) (bad : Bool) (wrong : Bool) (x1 : Int) (x2 : Int) (x3 : Bool) (x4 : (List Int)) (x5 : Int) (x6 : Bool) (x7 : LF) : St := ⟨[.ptr 0 0, .dead, .dead, .row 64, .d (.int .i64) x1, .d (.int .i64) x2, .dead, .dead, .dead, .dead, .dead, .dead, .dead, .dead, .dead, .dead, .dead, .dead, .dead, .dead, .dead, .dead, .dead, .dead, .dead, .dead, .dead, .dead, .dead, .dead, .dead, .dead, .dead, .dead, .dead, .dead, .dead, .dead, .dead, .dead, .dead, .dead, .dead, .dead, .dead, .dead, .dead, .dead], ofL [(0, .box [.ptr 1 0, .d .bool x3]), (1, .box [.d (.sl (.int .u8)) x4, .d (.int .i64) x5, .d .bool x6]), (64, .row 66 (.pair (.int .i64) (.sl (.int .u8))) x7 false)], 2⟩
noncomputable def gen3_reader_fields.b4 (bs : List Int) (at0 : Int) (bad : Bool) (wrong : Bool) (A4 : Int → Int → Bool → (List Int) → Int → Bool → LF → Option (Bool × (List Int) × Int × Bool × LF)) (x1 : Int) (x2 : Int) (x3 : Bool) (x4 : (List Int)) (x5 : Int) (x6 : Bool) (x7 : LF) : Option (Bool × (List Int) × Int × Bool × LF) :=
 (if (decide (x2 < x1)) then (if (!x3) then (if (atOk x4 x5) then (match (veil (Option.some (readF x4 (1 : Int) x5 x6))) with | none => none | some y8 => (match (veil (gen3_reader_form.f BIG x4 y8.2.1 y8.2.2 x3 (4096 : Int))) with | none => none | some y9 => (if (atOk y9.2.2.1 y9.2.2.2.1) then (match (veil (Option.some (stepF y9.2.2.1 y9.1 y9.2.2.2.1 y9.2.2.2.2))) with | none => none | some y10 => (if y10.2.2.2 then (if ((((List.length x7) + (List.length ((y8.1, y10.1) :: ([] : LF)))) * (32 : Nat)) ≤ lim) then A4 x1 (Go.IntKind.wrap .i64 (x2 + (1 : Int))) true y9.2.2.1 y10.2.2.1 y10.2.2.2 (x7 ++ ((y8.1, y10.1) :: ([] : LF))) else none) else (if ((((List.length x7) + (List.length ((y8.1, y10.1) :: ([] : LF)))) * (32 : Nat)) ≤ lim) then A4 x1 (Go.IntKind.wrap .i64 (x2 + (1 : Int))) y9.2.1 y9.2.2.1 y10.2.2.1 y10.2.2.2 (x7 ++ ((y8.1, y10.1) :: ([] : LF))) else none))) else none))) else none) else some (x3, x4, x5, x6, x7)) else some (x3, x4, x5, x6, x7))
noncomputable def gen3_reader_fields.l4 (fuel : Nat) (bs : List Int) (at0 : Int) (bad : Bool) (wrong : Bool) : Nat → Int → Int → Bool → (List Int) → Int → Bool → LF → Option (Bool × (List Int) × Int × Bool × LF)
 | 0, _, _, _, _, _, _, _ => none
 | k + 1, x1, x2, x3, x4, x5, x6, x7 => gen3_reader_fields.b4 bs at0 bad wrong (gen3_reader_fields.l4 fuel bs at0 bad wrong k) x1 x2 x3 x4 x5 x6 x7
noncomputable def gen3_reader_fields.b (bs : List Int) (at0 : Int) (bad : Bool) (wrong : Bool) (E4 : Int → Int → Bool → (List Int) → Int → Bool → LF → Option (Bool × (List Int) × Int × Bool × LF)) : Option (Bool × (List Int) × Int × Bool × LF) :=
 (match (veil (gen3_reader_form.f BIG bs at0 bad wrong (32 : Int))) with | none => none | some y0 => E4 y0.1 (0 : Int) y0.2.1 y0.2.2.1 y0.2.2.2.1 y0.2.2.2.2 ([] : LF))
noncomputable def gen3_reader_fields.f (fuel : Nat) (bs : List Int) (at0 : Int) (bad : Bool) (wrong : Bool) : Option (Bool × (List Int) × Int × Bool × LF) := gen3_reader_fields.b bs at0 bad wrong (gen3_reader_fields.l4 fuel bs at0 bad wrong fuel)
theorem gen3_reader_fields.l4_eq (fuel : Nat) (bs : List Int) (at0 : Int) (bad : Bool) (wrong : Bool) : ∀ (k : Nat) (x1 : Int) (x2 : Int) (x3 : Bool) (x4 : (List Int)) (x5 : Int) (x6 : Bool) (x7 : LF), lp gen3_reader_fields_E fuel Try.f107 [.own 66 (.pair (.int .i64) (.sl (.int .u8)))] 2 gen3_reader_fields.k 4 [] k (gen3_reader_fields.s4 bs at0 bad wrong x1 x2 x3 x4 x5 x6 x7) = gen3_reader_fields.l4 fuel bs at0 bad wrong k x1 x2 x3 x4 x5 x6 x7 := by
 intro k
 induction k with
 | zero => intro x1 x2 x3 x4 x5 x6 x7; rfl
 | succ k ih =>
  intro x1 x2 x3 x4 x5 x6 x7
  have h : lp gen3_reader_fields_E fuel Try.f107 [.own 66 (.pair (.int .i64) (.sl (.int .u8)))] 2 gen3_reader_fields.k 4 [] (k + 1) (gen3_reader_fields.s4 bs at0 bad wrong x1 x2 x3 x4 x5 x6 x7) = gen3_reader_fields.b4 bs at0 bad wrong (fun x1 x2 x3 x4 x5 x6 x7 => lp gen3_reader_fields_E fuel Try.f107 [.own 66 (.pair (.int .i64) (.sl (.int .u8)))] 2 gen3_reader_fields.k 4 [] k (gen3_reader_fields.s4 bs at0 bad wrong x1 x2 x3 x4 x5 x6 x7)) x1 x2 x3 x4 x5 x6 x7 := by kernel_rfl
  rw [h]
  have e4 : (fun x1 x2 x3 x4 x5 x6 x7 => lp gen3_reader_fields_E fuel Try.f107 [.own 66 (.pair (.int .i64) (.sl (.int .u8)))] 2 gen3_reader_fields.k 4 [] k (gen3_reader_fields.s4 bs at0 bad wrong x1 x2 x3 x4 x5 x6 x7)) = gen3_reader_fields.l4 fuel bs at0 bad wrong k := (funext fun x1 => (funext fun x2 => (funext fun x3 => (funext fun x4 => (funext fun x5 => (funext fun x6 => (funext fun x7 => ih x1 x2 x3 x4 x5 x6 x7)))))))
  rw [e4]
  rfl
theorem gen3_reader_fields.eq (fuel : Nat) (bs : List Int) (at0 : Int) (bad : Bool) (wrong : Bool) : (denF gen3_reader_fields_E loopN fuel Try.f107 [.own 66 (.pair (.int .i64) (.sl (.int .u8)))] [.ptr 0 0] [.box [.ptr 1 0, .d .bool wrong], .box [.d (.sl (.int .u8)) bs, .d (.int .i64) at0, .d .bool bad]] gen3_reader_fields.k) = gen3_reader_fields.f fuel bs at0 bad wrong := by
 have h : (denF gen3_reader_fields_E loopN fuel Try.f107 [.own 66 (.pair (.int .i64) (.sl (.int .u8)))] [.ptr 0 0] [.box [.ptr 1 0, .d .bool wrong], .box [.d (.sl (.int .u8)) bs, .d (.int .i64) at0, .d .bool bad]] gen3_reader_fields.k) = gen3_reader_fields.b bs at0 bad wrong (fun x1 x2 x3 x4 x5 x6 x7 => lp gen3_reader_fields_E fuel Try.f107 [.own 66 (.pair (.int .i64) (.sl (.int .u8)))] 2 gen3_reader_fields.k 4 [] fuel (gen3_reader_fields.s4 bs at0 bad wrong x1 x2 x3 x4 x5 x6 x7)) := by kernel_rfl
 rw [h]
 have e4 : (fun x1 x2 x3 x4 x5 x6 x7 => lp gen3_reader_fields_E fuel Try.f107 [.own 66 (.pair (.int .i64) (.sl (.int .u8)))] 2 gen3_reader_fields.k 4 [] fuel (gen3_reader_fields.s4 bs at0 bad wrong x1 x2 x3 x4 x5 x6 x7)) = gen3_reader_fields.l4 fuel bs at0 bad wrong fuel := (funext fun x1 => (funext fun x2 => (funext fun x3 => (funext fun x4 => (funext fun x5 => (funext fun x6 => (funext fun x7 => gen3_reader_fields.l4_eq fuel bs at0 bad wrong fuel x1 x2 x3 x4 x5 x6 x7)))))))
 rw [e4]
 rfl
noncomputable def s_gen3_reader_fields : Den.Sum := ⟨[.pb [.frz none [0] 0 (.int .u8)]], fun args objs κ => match args, objs with
 | [.ptr 0 0], [.box [.ptr 1 0, .d .bool wrong], .box [.d (.sl (.int .u8)) bs, .d (.int .i64) at0, .d .bool bad]] => (match veil (gen3_reader_fields.f BIG bs at0 bad wrong) with | none => none | some y => κ [.row 2] [.box [.ptr 1 0, .d .bool y.1], .box [.d (.sl (.int .u8)) y.2.1, .d (.int .i64) y.2.2.1, .d .bool y.2.2.2.1], .row 66 (.pair (.int .i64) (.sl (.int .u8))) y.2.2.2.2 false])
 | _, _ => none⟩
theorem s_gen3_reader_fields_det : SumDet s_gen3_reader_fields := fun avs objs R κ => by
 show s_gen3_reader_fields.run avs objs (two κ) = (s_gen3_reader_fields.run avs objs (two some)).bind κ
 unfold s_gen3_reader_fields
 simp only [veil_eq]
 split
 ·split <;> rfl
 ·rfl
theorem s_gen3_reader_fields_ok : SumOk Try.prog 107 s_gen3_reader_fields := by
 have hE : EnvOk Try.prog gen3_reader_fields_E := env_ok (l := [(74, s_gen3_reader_form), (101, s_rnumb), (103, s_bad), (136, s_takeb)]) th_ok any_ok ⟨⟨s_gen3_reader_form_ok, s_gen3_reader_form_det⟩, ⟨s_rnumb_ok, s_rnumb_det⟩, ⟨s_bad_ok, s_bad_det⟩, ⟨s_takeb_ok, s_takeb_det⟩, trivial⟩ _
 refine sum_ok hE Try.func107 rfl (by kernel_rfl) s_gen3_reader_fields [.own 66 (.pair (.int .i64) (.sl (.int .u8)))] gen3_reader_fields.k ?_
 intro R avs objs κ r h
 unfold s_gen3_reader_fields at h
 simp only [veil_eq] at h
 split at h
 ·rename_i wrong bs at0 bad
  split at h
  ·cases h
  ·rename_i y hy
   refine ⟨BIG, _, _, _, (gen3_reader_fields.eq BIG bs at0 bad wrong).trans hy, ?_, h⟩
   intro rs ros hk
   unfold gen3_reader_fields.k at hk
   split at hk
   ·first | (cases hk; exact ⟨rfl, rfl⟩) | (have e := Option.some.inj hk; rw [← e]; exact ⟨rfl, rfl⟩)
   ·cases hk
 ·cases h
theorem fields_end (fuel : Nat) (bs : List Int) (a0 : Int) (bad0 wr0 : Bool) (k : Nat) (n i : Int) (wr : Bool) (a : Int) (bad : Bool) (out : LF) (h : wr = true ∨ n ≤ i) :
  gen3_reader_fields.l4 fuel bs a0 bad0 wr0 (k + 1) n i wr bs a bad out = some (wr, bs, a, bad, out) := by
 rw [gen3_reader_fields.l4]
 unfold gen3_reader_fields.b4
 by_cases hi : i < n
 ·rw [if_pos (by simpa using hi)]
  rcases h with rfl | h
  ·rfl
  ·omega
 ·rw [if_neg (by simpa using hi)]
theorem stepF_bad (l : List Int) (n a : Int) : stepF l n a true = ([], false, a, true) := rfl
theorem stepF_zero (l : List Int) (a : Nat) (h : a ≤ l.length) : stepF l 0 (a : Int) false = ([], true, (a : Int), false) := by
 unfold stepF
 rw [if_neg (by simp), if_neg (by simp; omega)]
 unfold seg
 simp
theorem stepF_in (l : List Int) (n : Int) (a : Nat) (h0 : 0 ≤ n) (h : a + n.toNat ≤ l.length) : stepF l n (a : Int) false = ((l.drop a).take n.toNat, true, ((a + n.toNat : Nat) : Int), false) := by
 unfold stepF
 rw [if_neg (by simp), if_neg (by simp; omega)]
 unfold seg
 rw [show ((a : Int) + n).toNat = a + n.toNat from by omega, Int.toNat_natCast, show ((a : Int) + n) = ((a + n.toNat : Nat) : Int) from by omega]
 congr 1
 rw [List.drop_take]
 congr 1
 omega
theorem stepF_out (l : List Int) (n : Int) (a : Nat) (h0 : 0 ≤ n) (h : l.length < a + n.toNat) : stepF l n (a : Int) false = ([], false, (a : Int), true) := by
 unfold stepF
 rw [if_neg (by simp), if_pos (by simp; omega)]
theorem fields_loop (fuel : Nat) (bs : List Int) (hb : inB bs = true) (a0 : Int) (bad0 wr0 : Bool) (n : Nat) (hn : n ≤ 32) : ∀ (m k : Nat) (i a : Nat) (out : LF), i + m = n → m < k → a ≤ bs.length → out.length ≤ i →
  match fldsS bs m a with
  | some (l, a2) => gen3_reader_fields.l4 fuel bs a0 bad0 wr0 k (n : Int) (i : Int) false bs (a : Int) false out = some (false, bs, (a2 : Int), false, out ++ l)
  | none => ∃ (a' : Nat) (bad' : Bool) (l : LF), gen3_reader_fields.l4 fuel bs a0 bad0 wr0 k (n : Int) (i : Int) false bs (a : Int) false out = some (true, bs, (a' : Int), bad', l) ∧ a' ≤ bs.length := by
 obtain ⟨hl, hc⟩ := (inB_iff bs).1 hb
 intro m
 induction m with
 | zero =>
  intro k i a out hi hk ha ho
  obtain ⟨k, rfl⟩ : ∃ k', k = k' + 1 := ⟨k - 1, by omega⟩
  rw [fldsS]
  dsimp only
  rw [fields_end fuel bs a0 bad0 wr0 k (n : Int) (i : Int) false (a : Int) false out (Or.inr (by omega)), List.append_nil]
 | succ m ih =>
  intro k i a out hi hk ha ho
  obtain ⟨k, rfl⟩ : ∃ k', k = k' + 2 := ⟨k - 2, by omega⟩
  have hend : ∀ (a' : Nat) (bad' : Bool) (l : LF), a' ≤ bs.length → ∃ (a'' : Nat) (bad'' : Bool) (l' : LF), gen3_reader_fields.l4 fuel bs a0 bad0 wr0 (k + 1) (n : Int) (Go.IntKind.wrap .i64 ((i : Int) + 1)) true bs (a' : Int) bad' l = some (true, bs, (a'' : Int), bad'', l') ∧ a'' ≤ bs.length :=
   fun a' bad' l h => ⟨a', bad', l, fields_end fuel bs a0 bad0 wr0 k _ _ true _ _ _ (Or.inl rfl), h⟩
  have hw : Go.IntKind.wrap .i64 ((i : Int) + 1) = ((i + 1 : Nat) : Int) := by rw [wrap_small _ (by omega) (by omega)]; omega
  rw [show k + 2 = (k + 1) + 1 from rfl, gen3_reader_fields.l4, fldsS]
  unfold gen3_reader_fields.b4
  simp only [veil_eq]
  rw [if_pos (c := decide ((i : Int) < (n : Int)) = true) (by simp; omega), if_pos (c := (!false) = true) rfl, if_pos (c := atOk bs (a : Int) = true) ((atOk_iff _ _).2 ⟨hb, by omega, by omega⟩)]
  have hlim : ∀ x : Int × List Int, (out.length + ([x] : LF).length) * 32 ≤ lim := fun x => by simp [lim]; omega
  by_cases hlt : a < bs.length
  ·rw [readF_one bs a hlt]
   have hf : fldS bs a = match tk bs (a + 1) 4096 with
     | none => none
     | some (n, a2) => if a2 + n.toNat ≤ bs.length then some ((bs[a], (bs.drop a2).take n.toNat), a2 + n.toNat) else none := by
    unfold fldS
    rw [List.getElem?_eq_getElem hlt]
    all_goals rfl
   rw [hf]
   dsimp only
   generalize bs[a] = t at hf ⊢
   have hg := form_good bs (a + 1) 4096 hb (by decide) (by decide) hlt
   cases ht : tk bs (a + 1) 4096 with
   | none =>
    rw [ht] at hg
    obtain ⟨a', bad, hg, h2⟩ := hg
    rw [hg]
    dsimp only
    rw [if_pos (c := atOk bs (a' : Int) = true) ((atOk_iff _ _).2 ⟨hb, by omega, by omega⟩)]
    cases bad with
    | true =>
     rw [stepF_bad]
     dsimp only
     rw [if_pos rfl, if_pos (hlim _)]
     exact hend a' true _ h2
    | false =>
     rw [stepF_zero bs a' h2]
     dsimp only
     rw [if_neg (c := false = true) (by simp), if_pos (hlim _)]
     exact hend a' false _ h2
   | some p =>
    obtain ⟨w, a2⟩ := p
    rw [ht] at hg
    dsimp only at hg ⊢
    obtain ⟨e1, w0, w1, _, _, l1⟩ := tk_facts hc ht
    rw [hg]
    dsimp only
    rw [if_pos (c := atOk bs (a2 : Int) = true) ((atOk_iff _ _).2 ⟨hb, by omega, by omega⟩)]
    by_cases hin : a2 + w.toNat ≤ bs.length
    ·rw [stepF_in bs w a2 w0 hin, if_pos hin]
     dsimp only
     rw [if_neg (c := false = true) (by simp), if_pos (hlim _), hw]
     have := ih (k + 1) (i + 1) (a2 + w.toNat) (out ++ [(t, (bs.drop a2).take w.toNat)]) (by omega) (by omega) hin (by simp; omega)
     cases hr : fldsS bs m (a2 + w.toNat) with
     | none =>
      rw [hr] at this
      exact this
     | some q =>
      obtain ⟨l, a3⟩ := q
      rw [hr] at this
      dsimp only at this ⊢
      rw [this]
      simp
    ·rw [stepF_out bs w a2 w0 (by omega), if_neg hin]
     dsimp only
     rw [if_pos rfl, if_pos (hlim _)]
     exact hend a2 true _ l1
  ·have hf : fldS bs a = none := by
    unfold fldS
    rw [List.getElem?_eq_none (by omega)]
   rw [hf, readF_end bs a (by omega)]
   dsimp only
   rw [form_bad bs a 4096 hb ha]
   dsimp only
   rw [if_pos (c := atOk bs (a : Int) = true) ((atOk_iff _ _).2 ⟨hb, by omega, by omega⟩), stepF_bad]
   dsimp only
   rw [if_pos rfl, if_pos (hlim _)]
   exact hend a true _ ha
theorem fields_wrong (bs : List Int) (a : Int) (bad : Bool) : gen3_reader_fields.f BIG bs a bad true = some (true, bs, a, bad, []) := by
 unfold gen3_reader_fields.f gen3_reader_fields.b
 simp only [veil_eq]
 rw [form_wrong]
 dsimp only
 rw [big_eq]
 exact fields_end _ bs a bad true _ _ _ true a bad [] (Or.inl rfl)
theorem fields_good (bs : List Int) (a : Nat) (hb : inB bs = true) (ha : a ≤ bs.length) :
  match bagS bs a with
  | some (l, a2) => gen3_reader_fields.f BIG bs (a : Int) false false = some (false, bs, (a2 : Int), false, l)
  | none => ∃ (a' : Nat) (bad' : Bool) (l : LF), gen3_reader_fields.f BIG bs (a : Int) false false = some (true, bs, (a' : Int), bad', l) ∧ a' ≤ bs.length := by
 obtain ⟨hl, hc⟩ := (inB_iff bs).1 hb
 have hg := form_good bs a 32 hb (by decide) (by decide) ha
 unfold gen3_reader_fields.f gen3_reader_fields.b bagS
 simp only [veil_eq]
 cases ht : tk bs a 32 with
 | none =>
  rw [ht] at hg
  obtain ⟨a', bad, hg, h2⟩ := hg
  rw [hg]
  dsimp only
  refine ⟨a', bad, [], ?_, h2⟩
  rw [big_eq]
  exact fields_end _ bs a false false _ _ _ true a' bad [] (Or.inl rfl)
 | some p =>
  obtain ⟨w, a2⟩ := p
  rw [ht] at hg
  dsimp only at hg ⊢
  obtain ⟨e1, w0, w1, _, _, l1⟩ := tk_facts hc ht
  rw [hg]
  dsimp only
  have := fields_loop BIG bs hb a false false w.toNat (by omega) w.toNat BIG 0 a2 [] (by omega) (by rw [BIG_eq]; omega) l1 (by simp)
  rw [show ((w.toNat : Nat) : Int) = w from by omega] at this
  simpa using this
noncomputable def gen3_reader_one_E : Env := ⟨th, gam [(74, s_gen3_reader_form), (97, s_rec_Find), (98, s_bsame), (101, s_rnumb), (102, s_gen3_reader_span), (106, s_varint_Zag), (107, s_gen3_reader_fields)], fun i => if i = 8 then ⟨[0, 6, 7, 8, 9, 10], [], [777777]⟩ else if i = 12 then ⟨[0, 6, 7, 8, 9, 10], [], [777777]⟩ else ⟨[], [], []⟩⟩
noncomputable def gen3_reader_one.k (rs : List AV) (os : List Den.Obj) : Option (Int × Int × Int × Int × Int × Bool × LF × Bool × (List Int) × Int × Bool) :=
 match rs, os with
 | [.agg [.d (.int .i64) r0, .d (.int .i64) r1, .d (.int .i64) r2, .d (.int .i64) r3, .d (.int .i64) r4, .d .bool r5, .d (.sl (.pair (.int .i64) (.sl (.int .u8)))) r6]], [.box [.ptr 1 0, .d .bool r7], .box [.d (.sl (.int .u8)) r8, .d (.int .i64) r9, .d .bool r10]] => some (r0, r1, r2, r3, r4, r5, r6, r7, r8, r9, r10)
 | _, _ => none
noncomputable def gen3_reader_one.s12 (bs : List Int) (at0 : Int) (bad : Bool) (wrong : Bool) (last : Int) (base : LR) (x19 : Int) (x20 : Bool) (x21 : Bool) (x22 : (List Int)) (x23 : Int) (x24 : Bool) (x25 : Int) (x26 : Int) (x27 : Int) (x28 : Int) (x29 : Bool) (x30 : Int) (x31 : Int) (x32 : Int) (x33 : Int) (x34 : Int) (x35 : Bool) (x36 : LF) : St := ⟨[.ptr 0 0, .dead, .dead, .dead, .dead, .dead, .ptr 64 0, .ptr 65 0, .d (.int .i64) x19, .ptr 66 0, .d .bool x20, .dead, .dead, .dead, .dead, .dead, .dead, .dead, .dead, .dead, .dead, .dead, .dead, .dead, .dead, .dead, .dead, .dead, .dead, .dead, .dead, .dead, .dead, .dead, .dead, .dead, .dead, .dead, .dead, .dead, .dead, .dead, .dead, .dead, .dead, .dead, .dead, .dead, .dead, .dead, .dead, .dead, .dead, .dead, .dead, .dead, .dead, .dead, .dead, .dead, .dead, .dead, .dead, .dead, .dead, .dead, .dead, .dead, .dead, .dead, .dead, .dead, .dead, .dead, .dead, .dead, .dead, .dead, .dead, .dead, .dead, .dead, .dead, .dead, .dead, .dead, .dead, .dead, .dead, .dead, .dead, .dead, .dead, .dead, .dead, .dead, .dead, .dead, .dead, .dead, .dead, .dead, .dead, .dead, .dead, .dead, .dead, .dead, .dead, .dead, .dead, .dead, .dead, .dead, .dead, .dead, .dead, .dead, .dead, .dead, .dead, .dead, .dead], ofL [(0, .box [.ptr 1 0, .d .bool x21]), (1, .box [.d (.sl (.int .u8)) x22, .d (.int .i64) x23, .d .bool x24]), (64, .box [.d (.int .i64) (0), .d (.int .i64) (0), .d (.int .i64) (0), .d (.int .i64) (0), .d (.int .i64) (0), .d .bool (false), .nilsl]), (65, .box [.d (.int .i64) x25, .d (.int .i64) (0), .d (.int .i64) x26, .d (.int .i64) x27, .d (.int .i64) x28, .d .bool x29, .nilsl]), (66, .box [.d (.int .i64) x30, .d (.int .i64) x31, .d (.int .i64) x32, .d (.int .i64) x33, .d (.int .i64) x34, .d .bool x35, .d (.sl (.pair (.int .i64) (.sl (.int .u8)))) x36])], 2⟩
noncomputable def gen3_reader_one.b12 (bs : List Int) (at0 : Int) (bad : Bool) (wrong : Bool) (last : Int) (base : LR) (A12 : Int → Bool → Bool → (List Int) → Int → Bool → Int → Int → Int → Int → Bool → Int → Int → Int → Int → Int → Bool → LF → Option (Int × Int × Int × Int × Int × Bool × LF × Bool × (List Int) × Int × Bool)) (x19 : Int) (x20 : Bool) (x21 : Bool) (x22 : (List Int)) (x23 : Int) (x24 : Bool) (x25 : Int) (x26 : Int) (x27 : Int) (x28 : Int) (x29 : Bool) (x30 : Int) (x31 : Int) (x32 : Int) (x33 : Int) (x34 : Int) (x35 : Bool) (x36 : LF) : Option (Int × Int × Int × Int × Int × Bool × LF × Bool × (List Int) × Int × Bool) :=
 (match (veil (gen3_reader_form.f BIG x22 x23 x24 x21 (veil (562949953421310 : Int)))) with | none => none | some y37 => (match (veil (varint_Zag.f BIG (Go.IntKind.wrap .u64 y37.1))) with | none => none | some y38 => (if x29 then some (x25, (Go.IntKind.wrap .i64 (x31 + y38)), x26, x27, x28, x29, ([] : LF), y37.2.1, y37.2.2.1, y37.2.2.2.1, y37.2.2.2.2) else (if ((bits Go.BinOp.and .i64 x19 (16 : Int)) != (0 : Int)) then some (x25, (Go.IntKind.wrap .i64 (x31 + y38)), x26, x27, x28, x29, x36, y37.2.1, y37.2.2.1, y37.2.2.2.1, y37.2.2.2.2) else (match (veil (gen3_reader_fields.f BIG y37.2.2.1 y37.2.2.2.1 y37.2.2.2.2 y37.2.1)) with | none => none | some y39 => (if y39.1 then some (x25, (Go.IntKind.wrap .i64 (x31 + y38)), x26, x27, x28, x29, y39.2.2.2.2, true, y39.2.1, y39.2.2.1, y39.2.2.2.1) else (if x20 then (if ((smallBag y39.2.2.2.2) && (smallBag x36)) then some (x25, (Go.IntKind.wrap .i64 (x31 + y38)), x26, x27, x28, x29, y39.2.2.2.2, ((cmpGo y39.2.2.2.2 x36) == (0 : Int)), y39.2.1, y39.2.2.1, y39.2.2.2.1) else none) else some (x25, (Go.IntKind.wrap .i64 (x31 + y38)), x26, x27, x28, x29, y39.2.2.2.2, false, y39.2.1, y39.2.2.1, y39.2.2.2.1))))))))
noncomputable def gen3_reader_one.l12 (fuel : Nat) (bs : List Int) (at0 : Int) (bad : Bool) (wrong : Bool) (last : Int) (base : LR) : Nat → Int → Bool → Bool → (List Int) → Int → Bool → Int → Int → Int → Int → Bool → Int → Int → Int → Int → Int → Bool → LF → Option (Int × Int × Int × Int × Int × Bool × LF × Bool × (List Int) × Int × Bool)
 | 0, _, _, _, _, _, _, _, _, _, _, _, _, _, _, _, _, _, _ => none
 | k + 1, x19, x20, x21, x22, x23, x24, x25, x26, x27, x28, x29, x30, x31, x32, x33, x34, x35, x36 => gen3_reader_one.b12 bs at0 bad wrong last base (gen3_reader_one.l12 fuel bs at0 bad wrong last base k) x19 x20 x21 x22 x23 x24 x25 x26 x27 x28 x29 x30 x31 x32 x33 x34 x35 x36
noncomputable def gen3_reader_one.s8 (bs : List Int) (at0 : Int) (bad : Bool) (wrong : Bool) (last : Int) (base : LR) (x3 : Int) (x4 : Bool) (x5 : Bool) (x6 : (List Int)) (x7 : Int) (x8 : Bool) (x9 : Int) (x10 : Int) (x11 : Bool) (x12 : Int) (x13 : Int) (x14 : Int) (x15 : Int) (x16 : Int) (x17 : Bool) (x18 : LF) : St := ⟨[.ptr 0 0, .dead, .dead, .dead, .dead, .dead, .ptr 64 0, .ptr 65 0, .d (.int .i64) x3, .ptr 66 0, .d .bool x4, .dead, .dead, .dead, .dead, .dead, .dead, .dead, .dead, .dead, .dead, .dead, .dead, .dead, .dead, .dead, .dead, .dead, .dead, .dead, .dead, .dead, .dead, .dead, .dead, .dead, .dead, .dead, .dead, .dead, .dead, .dead, .dead, .dead, .dead, .dead, .dead, .dead, .dead, .dead, .dead, .dead, .dead, .dead, .dead, .dead, .dead, .dead, .dead, .dead, .dead, .dead, .dead, .dead, .dead, .dead, .dead, .dead, .dead, .dead, .dead, .dead, .dead, .dead, .dead, .dead, .dead, .dead, .dead, .dead, .dead, .dead, .dead, .dead, .dead, .dead, .dead, .dead, .dead, .dead, .dead, .dead, .dead, .dead, .dead, .dead, .dead, .dead, .dead, .dead, .dead, .dead, .dead, .dead, .dead, .dead, .dead, .dead, .dead, .dead, .dead, .dead, .dead, .dead, .dead, .dead, .dead, .dead, .dead, .dead, .dead, .dead, .dead], ofL [(0, .box [.ptr 1 0, .d .bool x5]), (1, .box [.d (.sl (.int .u8)) x6, .d (.int .i64) x7, .d .bool x8]), (64, .box [.d (.int .i64) (0), .d (.int .i64) (0), .d (.int .i64) (0), .d (.int .i64) (0), .d (.int .i64) (0), .d .bool (false), .nilsl]), (65, .box [.d (.int .i64) x9, .d (.int .i64) (0), .d (.int .i64) x10, .d (.int .i64) (0), .d (.int .i64) (0), .d .bool x11, .nilsl]), (66, .box [.d (.int .i64) x12, .d (.int .i64) x13, .d (.int .i64) x14, .d (.int .i64) x15, .d (.int .i64) x16, .d .bool x17, .d (.sl (.pair (.int .i64) (.sl (.int .u8)))) x18])], 2⟩
noncomputable def gen3_reader_one.b8 (bs : List Int) (at0 : Int) (bad : Bool) (wrong : Bool) (last : Int) (base : LR) (A8 : Int → Bool → Bool → (List Int) → Int → Bool → Int → Int → Bool → Int → Int → Int → Int → Int → Bool → LF → Option (Int × Int × Int × Int × Int × Bool × LF × Bool × (List Int) × Int × Bool)) (E12 : Int → Bool → Bool → (List Int) → Int → Bool → Int → Int → Int → Int → Bool → Int → Int → Int → Int → Int → Bool → LF → Option (Int × Int × Int × Int × Int × Bool × LF × Bool × (List Int) × Int × Bool)) (x3 : Int) (x4 : Bool) (x5 : Bool) (x6 : (List Int)) (x7 : Int) (x8 : Bool) (x9 : Int) (x10 : Int) (x11 : Bool) (x12 : Int) (x13 : Int) (x14 : Int) (x15 : Int) (x16 : Int) (x17 : Bool) (x18 : LF) : Option (Int × Int × Int × Int × Int × Bool × LF × Bool × (List Int) × Int × Bool) :=
 (if ((bits Go.BinOp.and .i64 x3 (8 : Int)) != (0 : Int)) then E12 x3 x4 x5 x6 x7 x8 x9 x10 x15 x16 x11 x12 x13 x14 x15 x16 x17 x18 else (match (veil (gen3_reader_span.f BIG x6 x7 x8 x5)) with | none => none | some y40 => (if y40.2.2.1 then E12 x3 x4 true y40.2.2.2.1 y40.2.2.2.2.1 y40.2.2.2.2.2 x9 x10 y40.1 y40.2.1 x11 x12 x13 x14 x15 x16 x17 x18 else (if x4 then E12 x3 x4 (if (y40.1 == x15) then (if (y40.2.1 == x16) then true else false) else false) y40.2.2.2.1 y40.2.2.2.2.1 y40.2.2.2.2.2 x9 x10 y40.1 y40.2.1 x11 x12 x13 x14 x15 x16 x17 x18 else E12 x3 x4 false y40.2.2.2.1 y40.2.2.2.2.1 y40.2.2.2.2.2 x9 x10 y40.1 y40.2.1 x11 x12 x13 x14 x15 x16 x17 x18))))
noncomputable def gen3_reader_one.l8 (fuel : Nat) (bs : List Int) (at0 : Int) (bad : Bool) (wrong : Bool) (last : Int) (base : LR) : Nat → Int → Bool → Bool → (List Int) → Int → Bool → Int → Int → Bool → Int → Int → Int → Int → Int → Bool → LF → Option (Int × Int × Int × Int × Int × Bool × LF × Bool × (List Int) × Int × Bool)
 | 0, _, _, _, _, _, _, _, _, _, _, _, _, _, _, _, _ => none
 | k + 1, x3, x4, x5, x6, x7, x8, x9, x10, x11, x12, x13, x14, x15, x16, x17, x18 => gen3_reader_one.b8 bs at0 bad wrong last base (gen3_reader_one.l8 fuel bs at0 bad wrong last base k) (gen3_reader_one.l12 fuel bs at0 bad wrong last base fuel) x3 x4 x5 x6 x7 x8 x9 x10 x11 x12 x13 x14 x15 x16 x17 x18
noncomputable def gen3_reader_one.b (bs : List Int) (at0 : Int) (bad : Bool) (wrong : Bool) (last : Int) (base : LR) (E8 : Int → Bool → Bool → (List Int) → Int → Bool → Int → Int → Bool → Int → Int → Int → Int → Int → Bool → LF → Option (Int × Int × Int × Int × Int × Bool × LF × Bool × (List Int) × Int × Bool)) : Option (Int × Int × Int × Int × Int × Bool × LF × Bool × (List Int) × Int × Bool) :=
 (match (veil (gen3_reader_form.f BIG bs at0 bad wrong (4095 : Int))) with | none => none | some y0 => (if (atOk y0.2.2.1 y0.2.2.2.1) then (match (veil (Option.some (readF y0.2.2.1 (1 : Int) y0.2.2.2.1 y0.2.2.2.2))) with | none => none | some y1 => (match (veil (rec_Find.f BIG base (Go.IntKind.wrap .i64 ((Go.IntKind.wrap .i64 (last + (1 : Int))) + y0.1)))) with | none => none | some y2 => (if (decide (y1.1 ≥ (32 : Int))) then some ((Go.IntKind.wrap .i64 ((Go.IntKind.wrap .i64 (last + (1 : Int))) + y0.1)), 0, (bits Go.BinOp.and .i64 y1.1 (3 : Int)), 0, 0, ((bits Go.BinOp.and .i64 y1.1 (4 : Int)) != (0 : Int)), ([] : LF), true, y0.2.2.1, y1.2.1, y1.2.2) else (if (!y2.2.2.2.2.2.2.2) then (if (decide (y1.1 ≥ (8 : Int))) then some ((Go.IntKind.wrap .i64 ((Go.IntKind.wrap .i64 (last + (1 : Int))) + y0.1)), 0, (bits Go.BinOp.and .i64 y1.1 (3 : Int)), 0, 0, ((bits Go.BinOp.and .i64 y1.1 (4 : Int)) != (0 : Int)), ([] : LF), true, y0.2.2.1, y1.2.1, y1.2.2) else (if ((bits Go.BinOp.and .i64 y1.1 (4 : Int)) != (0 : Int)) then (if (decide (y1.1 ≥ (16 : Int))) then some ((Go.IntKind.wrap .i64 ((Go.IntKind.wrap .i64 (last + (1 : Int))) + y0.1)), 0, (bits Go.BinOp.and .i64 y1.1 (3 : Int)), 0, 0, ((bits Go.BinOp.and .i64 y1.1 (4 : Int)) != (0 : Int)), ([] : LF), true, y0.2.2.1, y1.2.1, y1.2.2) else E8 y1.1 y2.2.2.2.2.2.2.2 y0.2.1 y0.2.2.1 y1.2.1 y1.2.2 (Go.IntKind.wrap .i64 ((Go.IntKind.wrap .i64 (last + (1 : Int))) + y0.1)) (bits Go.BinOp.and .i64 y1.1 (3 : Int)) ((bits Go.BinOp.and .i64 y1.1 (4 : Int)) != (0 : Int)) y2.1 y2.2.1 y2.2.2.1 y2.2.2.2.1 y2.2.2.2.2.1 y2.2.2.2.2.2.1 y2.2.2.2.2.2.2.1) else E8 y1.1 y2.2.2.2.2.2.2.2 y0.2.1 y0.2.2.1 y1.2.1 y1.2.2 (Go.IntKind.wrap .i64 ((Go.IntKind.wrap .i64 (last + (1 : Int))) + y0.1)) (bits Go.BinOp.and .i64 y1.1 (3 : Int)) ((bits Go.BinOp.and .i64 y1.1 (4 : Int)) != (0 : Int)) y2.1 y2.2.1 y2.2.2.1 y2.2.2.2.1 y2.2.2.2.2.1 y2.2.2.2.2.2.1 y2.2.2.2.2.2.2.1)) else (if ((bits Go.BinOp.and .i64 y1.1 (4 : Int)) != (0 : Int)) then (if (decide (y1.1 ≥ (16 : Int))) then some ((Go.IntKind.wrap .i64 ((Go.IntKind.wrap .i64 (last + (1 : Int))) + y0.1)), 0, (bits Go.BinOp.and .i64 y1.1 (3 : Int)), 0, 0, ((bits Go.BinOp.and .i64 y1.1 (4 : Int)) != (0 : Int)), ([] : LF), true, y0.2.2.1, y1.2.1, y1.2.2) else E8 y1.1 y2.2.2.2.2.2.2.2 y0.2.1 y0.2.2.1 y1.2.1 y1.2.2 (Go.IntKind.wrap .i64 ((Go.IntKind.wrap .i64 (last + (1 : Int))) + y0.1)) (bits Go.BinOp.and .i64 y1.1 (3 : Int)) ((bits Go.BinOp.and .i64 y1.1 (4 : Int)) != (0 : Int)) y2.1 y2.2.1 y2.2.2.1 y2.2.2.2.1 y2.2.2.2.2.1 y2.2.2.2.2.2.1 y2.2.2.2.2.2.2.1) else E8 y1.1 y2.2.2.2.2.2.2.2 y0.2.1 y0.2.2.1 y1.2.1 y1.2.2 (Go.IntKind.wrap .i64 ((Go.IntKind.wrap .i64 (last + (1 : Int))) + y0.1)) (bits Go.BinOp.and .i64 y1.1 (3 : Int)) ((bits Go.BinOp.and .i64 y1.1 (4 : Int)) != (0 : Int)) y2.1 y2.2.1 y2.2.2.1 y2.2.2.2.1 y2.2.2.2.2.1 y2.2.2.2.2.2.1 y2.2.2.2.2.2.2.1))))) else none))
noncomputable def gen3_reader_one.f (fuel : Nat) (bs : List Int) (at0 : Int) (bad : Bool) (wrong : Bool) (last : Int) (base : LR) : Option (Int × Int × Int × Int × Int × Bool × LF × Bool × (List Int) × Int × Bool) := gen3_reader_one.b bs at0 bad wrong last base (gen3_reader_one.l8 fuel bs at0 bad wrong last base fuel)
theorem gen3_reader_one.l12_eq (fuel : Nat) (bs : List Int) (at0 : Int) (bad : Bool) (wrong : Bool) (last : Int) (base : LR) : ∀ (k : Nat) (x19 : Int) (x20 : Bool) (x21 : Bool) (x22 : (List Int)) (x23 : Int) (x24 : Bool) (x25 : Int) (x26 : Int) (x27 : Int) (x28 : Int) (x29 : Bool) (x30 : Int) (x31 : Int) (x32 : Int) (x33 : Int) (x34 : Int) (x35 : Bool) (x36 : LF), lp gen3_reader_one_E fuel Try.f75 [.dat (.pair (.int .i64) (.pair (.int .i64) (.pair (.int .i64) (.pair (.pair (.int .i64) (.int .i64)) (.pair .bool (.sl (.pair (.int .i64) (.sl (.int .u8))))))))) true] 2 gen3_reader_one.k 12 [] k (gen3_reader_one.s12 bs at0 bad wrong last base x19 x20 x21 x22 x23 x24 x25 x26 x27 x28 x29 x30 x31 x32 x33 x34 x35 x36) = gen3_reader_one.l12 fuel bs at0 bad wrong last base k x19 x20 x21 x22 x23 x24 x25 x26 x27 x28 x29 x30 x31 x32 x33 x34 x35 x36 := by
 intro k
 induction k with
 | zero => intro x19 x20 x21 x22 x23 x24 x25 x26 x27 x28 x29 x30 x31 x32 x33 x34 x35 x36; rfl
 | succ k ih =>
  intro x19 x20 x21 x22 x23 x24 x25 x26 x27 x28 x29 x30 x31 x32 x33 x34 x35 x36
  have h : lp gen3_reader_one_E fuel Try.f75 [.dat (.pair (.int .i64) (.pair (.int .i64) (.pair (.int .i64) (.pair (.pair (.int .i64) (.int .i64)) (.pair .bool (.sl (.pair (.int .i64) (.sl (.int .u8))))))))) true] 2 gen3_reader_one.k 12 [] (k + 1) (gen3_reader_one.s12 bs at0 bad wrong last base x19 x20 x21 x22 x23 x24 x25 x26 x27 x28 x29 x30 x31 x32 x33 x34 x35 x36) = gen3_reader_one.b12 bs at0 bad wrong last base (fun x19 x20 x21 x22 x23 x24 x25 x26 x27 x28 x29 x30 x31 x32 x33 x34 x35 x36 => lp gen3_reader_one_E fuel Try.f75 [.dat (.pair (.int .i64) (.pair (.int .i64) (.pair (.int .i64) (.pair (.pair (.int .i64) (.int .i64)) (.pair .bool (.sl (.pair (.int .i64) (.sl (.int .u8))))))))) true] 2 gen3_reader_one.k 12 [] k (gen3_reader_one.s12 bs at0 bad wrong last base x19 x20 x21 x22 x23 x24 x25 x26 x27 x28 x29 x30 x31 x32 x33 x34 x35 x36)) x19 x20 x21 x22 x23 x24 x25 x26 x27 x28 x29 x30 x31 x32 x33 x34 x35 x36 := by kernel_rfl
  rw [h]
  have e12 : (fun x19 x20 x21 x22 x23 x24 x25 x26 x27 x28 x29 x30 x31 x32 x33 x34 x35 x36 => lp gen3_reader_one_E fuel Try.f75 [.dat (.pair (.int .i64) (.pair (.int .i64) (.pair (.int .i64) (.pair (.pair (.int .i64) (.int .i64)) (.pair .bool (.sl (.pair (.int .i64) (.sl (.int .u8))))))))) true] 2 gen3_reader_one.k 12 [] k (gen3_reader_one.s12 bs at0 bad wrong last base x19 x20 x21 x22 x23 x24 x25 x26 x27 x28 x29 x30 x31 x32 x33 x34 x35 x36)) = gen3_reader_one.l12 fuel bs at0 bad wrong last base k := (funext fun x19 => (funext fun x20 => (funext fun x21 => (funext fun x22 => (funext fun x23 => (funext fun x24 => (funext fun x25 => (funext fun x26 => (funext fun x27 => (funext fun x28 => (funext fun x29 => (funext fun x30 => (funext fun x31 => (funext fun x32 => (funext fun x33 => (funext fun x34 => (funext fun x35 => (funext fun x36 => ih x19 x20 x21 x22 x23 x24 x25 x26 x27 x28 x29 x30 x31 x32 x33 x34 x35 x36))))))))))))))))))
  rw [e12]
  rfl
theorem gen3_reader_one.l8_eq (fuel : Nat) (bs : List Int) (at0 : Int) (bad : Bool) (wrong : Bool) (last : Int) (base : LR) : ∀ (k : Nat) (x3 : Int) (x4 : Bool) (x5 : Bool) (x6 : (List Int)) (x7 : Int) (x8 : Bool) (x9 : Int) (x10 : Int) (x11 : Bool) (x12 : Int) (x13 : Int) (x14 : Int) (x15 : Int) (x16 : Int) (x17 : Bool) (x18 : LF), lp gen3_reader_one_E fuel Try.f75 [.dat (.pair (.int .i64) (.pair (.int .i64) (.pair (.int .i64) (.pair (.pair (.int .i64) (.int .i64)) (.pair .bool (.sl (.pair (.int .i64) (.sl (.int .u8))))))))) true] 2 gen3_reader_one.k 8 [] k (gen3_reader_one.s8 bs at0 bad wrong last base x3 x4 x5 x6 x7 x8 x9 x10 x11 x12 x13 x14 x15 x16 x17 x18) = gen3_reader_one.l8 fuel bs at0 bad wrong last base k x3 x4 x5 x6 x7 x8 x9 x10 x11 x12 x13 x14 x15 x16 x17 x18 := by
 intro k
 induction k with
 | zero => intro x3 x4 x5 x6 x7 x8 x9 x10 x11 x12 x13 x14 x15 x16 x17 x18; rfl
 | succ k ih =>
  intro x3 x4 x5 x6 x7 x8 x9 x10 x11 x12 x13 x14 x15 x16 x17 x18
  have h : lp gen3_reader_one_E fuel Try.f75 [.dat (.pair (.int .i64) (.pair (.int .i64) (.pair (.int .i64) (.pair (.pair (.int .i64) (.int .i64)) (.pair .bool (.sl (.pair (.int .i64) (.sl (.int .u8))))))))) true] 2 gen3_reader_one.k 8 [] (k + 1) (gen3_reader_one.s8 bs at0 bad wrong last base x3 x4 x5 x6 x7 x8 x9 x10 x11 x12 x13 x14 x15 x16 x17 x18) = gen3_reader_one.b8 bs at0 bad wrong last base (fun x3 x4 x5 x6 x7 x8 x9 x10 x11 x12 x13 x14 x15 x16 x17 x18 => lp gen3_reader_one_E fuel Try.f75 [.dat (.pair (.int .i64) (.pair (.int .i64) (.pair (.int .i64) (.pair (.pair (.int .i64) (.int .i64)) (.pair .bool (.sl (.pair (.int .i64) (.sl (.int .u8))))))))) true] 2 gen3_reader_one.k 8 [] k (gen3_reader_one.s8 bs at0 bad wrong last base x3 x4 x5 x6 x7 x8 x9 x10 x11 x12 x13 x14 x15 x16 x17 x18)) (fun x19 x20 x21 x22 x23 x24 x25 x26 x27 x28 x29 x30 x31 x32 x33 x34 x35 x36 => lp gen3_reader_one_E fuel Try.f75 [.dat (.pair (.int .i64) (.pair (.int .i64) (.pair (.int .i64) (.pair (.pair (.int .i64) (.int .i64)) (.pair .bool (.sl (.pair (.int .i64) (.sl (.int .u8))))))))) true] 2 gen3_reader_one.k 12 [] fuel (gen3_reader_one.s12 bs at0 bad wrong last base x19 x20 x21 x22 x23 x24 x25 x26 x27 x28 x29 x30 x31 x32 x33 x34 x35 x36)) x3 x4 x5 x6 x7 x8 x9 x10 x11 x12 x13 x14 x15 x16 x17 x18 := by kernel_rfl
  rw [h]
  have e8 : (fun x3 x4 x5 x6 x7 x8 x9 x10 x11 x12 x13 x14 x15 x16 x17 x18 => lp gen3_reader_one_E fuel Try.f75 [.dat (.pair (.int .i64) (.pair (.int .i64) (.pair (.int .i64) (.pair (.pair (.int .i64) (.int .i64)) (.pair .bool (.sl (.pair (.int .i64) (.sl (.int .u8))))))))) true] 2 gen3_reader_one.k 8 [] k (gen3_reader_one.s8 bs at0 bad wrong last base x3 x4 x5 x6 x7 x8 x9 x10 x11 x12 x13 x14 x15 x16 x17 x18)) = gen3_reader_one.l8 fuel bs at0 bad wrong last base k := (funext fun x3 => (funext fun x4 => (funext fun x5 => (funext fun x6 => (funext fun x7 => (funext fun x8 => (funext fun x9 => (funext fun x10 => (funext fun x11 => (funext fun x12 => (funext fun x13 => (funext fun x14 => (funext fun x15 => (funext fun x16 => (funext fun x17 => (funext fun x18 => ih x3 x4 x5 x6 x7 x8 x9 x10 x11 x12 x13 x14 x15 x16 x17 x18))))))))))))))))
  rw [e8]
  have e12 : (fun x19 x20 x21 x22 x23 x24 x25 x26 x27 x28 x29 x30 x31 x32 x33 x34 x35 x36 => lp gen3_reader_one_E fuel Try.f75 [.dat (.pair (.int .i64) (.pair (.int .i64) (.pair (.int .i64) (.pair (.pair (.int .i64) (.int .i64)) (.pair .bool (.sl (.pair (.int .i64) (.sl (.int .u8))))))))) true] 2 gen3_reader_one.k 12 [] fuel (gen3_reader_one.s12 bs at0 bad wrong last base x19 x20 x21 x22 x23 x24 x25 x26 x27 x28 x29 x30 x31 x32 x33 x34 x35 x36)) = gen3_reader_one.l12 fuel bs at0 bad wrong last base fuel := (funext fun x19 => (funext fun x20 => (funext fun x21 => (funext fun x22 => (funext fun x23 => (funext fun x24 => (funext fun x25 => (funext fun x26 => (funext fun x27 => (funext fun x28 => (funext fun x29 => (funext fun x30 => (funext fun x31 => (funext fun x32 => (funext fun x33 => (funext fun x34 => (funext fun x35 => (funext fun x36 => gen3_reader_one.l12_eq fuel bs at0 bad wrong last base fuel x19 x20 x21 x22 x23 x24 x25 x26 x27 x28 x29 x30 x31 x32 x33 x34 x35 x36))))))))))))))))))
  rw [e12]
  rfl
theorem gen3_reader_one.eq (fuel : Nat) (bs : List Int) (at0 : Int) (bad : Bool) (wrong : Bool) (last : Int) (base : LR) : (denF gen3_reader_one_E loopN fuel Try.f75 [.dat (.pair (.int .i64) (.pair (.int .i64) (.pair (.int .i64) (.pair (.pair (.int .i64) (.int .i64)) (.pair .bool (.sl (.pair (.int .i64) (.sl (.int .u8))))))))) true] [.ptr 0 0, .d (.int .i64) last, .d (.sl (.pair (.int .i64) (.pair (.int .i64) (.pair (.int .i64) (.pair (.pair (.int .i64) (.int .i64)) (.pair .bool (.sl (.pair (.int .i64) (.sl (.int .u8)))))))))) base] [.box [.ptr 1 0, .d .bool wrong], .box [.d (.sl (.int .u8)) bs, .d (.int .i64) at0, .d .bool bad]] gen3_reader_one.k) = gen3_reader_one.f fuel bs at0 bad wrong last base := by
 have h : (denF gen3_reader_one_E loopN fuel Try.f75 [.dat (.pair (.int .i64) (.pair (.int .i64) (.pair (.int .i64) (.pair (.pair (.int .i64) (.int .i64)) (.pair .bool (.sl (.pair (.int .i64) (.sl (.int .u8))))))))) true] [.ptr 0 0, .d (.int .i64) last, .d (.sl (.pair (.int .i64) (.pair (.int .i64) (.pair (.int .i64) (.pair (.pair (.int .i64) (.int .i64)) (.pair .bool (.sl (.pair (.int .i64) (.sl (.int .u8)))))))))) base] [.box [.ptr 1 0, .d .bool wrong], .box [.d (.sl (.int .u8)) bs, .d (.int .i64) at0, .d .bool bad]] gen3_reader_one.k) = gen3_reader_one.b bs at0 bad wrong last base (fun x3 x4 x5 x6 x7 x8 x9 x10 x11 x12 x13 x14 x15 x16 x17 x18 => lp gen3_reader_one_E fuel Try.f75 [.dat (.pair (.int .i64) (.pair (.int .i64) (.pair (.int .i64) (.pair (.pair (.int .i64) (.int .i64)) (.pair .bool (.sl (.pair (.int .i64) (.sl (.int .u8))))))))) true] 2 gen3_reader_one.k 8 [] fuel (gen3_reader_one.s8 bs at0 bad wrong last base x3 x4 x5 x6 x7 x8 x9 x10 x11 x12 x13 x14 x15 x16 x17 x18)) := by kernel_rfl
 rw [h]
 have e8 : (fun x3 x4 x5 x6 x7 x8 x9 x10 x11 x12 x13 x14 x15 x16 x17 x18 => lp gen3_reader_one_E fuel Try.f75 [.dat (.pair (.int .i64) (.pair (.int .i64) (.pair (.int .i64) (.pair (.pair (.int .i64) (.int .i64)) (.pair .bool (.sl (.pair (.int .i64) (.sl (.int .u8))))))))) true] 2 gen3_reader_one.k 8 [] fuel (gen3_reader_one.s8 bs at0 bad wrong last base x3 x4 x5 x6 x7 x8 x9 x10 x11 x12 x13 x14 x15 x16 x17 x18)) = gen3_reader_one.l8 fuel bs at0 bad wrong last base fuel := (funext fun x3 => (funext fun x4 => (funext fun x5 => (funext fun x6 => (funext fun x7 => (funext fun x8 => (funext fun x9 => (funext fun x10 => (funext fun x11 => (funext fun x12 => (funext fun x13 => (funext fun x14 => (funext fun x15 => (funext fun x16 => (funext fun x17 => (funext fun x18 => gen3_reader_one.l8_eq fuel bs at0 bad wrong last base fuel x3 x4 x5 x6 x7 x8 x9 x10 x11 x12 x13 x14 x15 x16 x17 x18))))))))))))))))
 rw [e8]
 rfl
theorem gen3_reader_one.l12_at (fuel nN kK : Nat) (hN : nN = kK + 1) (bs : List Int) (at0 : Int) (bad : Bool) (wrong : Bool) (last : Int) (base : LR) (x19 : Int) (x20 : Bool) (x21 : Bool) (x22 : (List Int)) (x23 : Int) (x24 : Bool) (x25 : Int) (x26 : Int) (x27 : Int) (x28 : Int) (x29 : Bool) (x30 : Int) (x31 : Int) (x32 : Int) (x33 : Int) (x34 : Int) (x35 : Bool) (x36 : LF) : gen3_reader_one.l12 fuel bs at0 bad wrong last base nN x19 x20 x21 x22 x23 x24 x25 x26 x27 x28 x29 x30 x31 x32 x33 x34 x35 x36 = gen3_reader_one.b12 bs at0 bad wrong last base (gen3_reader_one.l12 fuel bs at0 bad wrong last base kK) x19 x20 x21 x22 x23 x24 x25 x26 x27 x28 x29 x30 x31 x32 x33 x34 x35 x36 := by
 subst hN
 rfl
theorem gen3_reader_one.l8_at (fuel nN kK : Nat) (hN : nN = kK + 1) (bs : List Int) (at0 : Int) (bad : Bool) (wrong : Bool) (last : Int) (base : LR) (x3 : Int) (x4 : Bool) (x5 : Bool) (x6 : (List Int)) (x7 : Int) (x8 : Bool) (x9 : Int) (x10 : Int) (x11 : Bool) (x12 : Int) (x13 : Int) (x14 : Int) (x15 : Int) (x16 : Int) (x17 : Bool) (x18 : LF) : gen3_reader_one.l8 fuel bs at0 bad wrong last base nN x3 x4 x5 x6 x7 x8 x9 x10 x11 x12 x13 x14 x15 x16 x17 x18 = gen3_reader_one.b8 bs at0 bad wrong last base (gen3_reader_one.l8 fuel bs at0 bad wrong last base kK) (gen3_reader_one.l12 fuel bs at0 bad wrong last base fuel) x3 x4 x5 x6 x7 x8 x9 x10 x11 x12 x13 x14 x15 x16 x17 x18 := by
 subst hN
 rfl
noncomputable def s_gen3_reader_one : Den.Sum := ⟨[.pb [.frz none [0] 0 (.int .u8)], .raw, .dat (.sl (.pair (.int .i64) (.pair (.int .i64) (.pair (.int .i64) (.pair (.pair (.int .i64) (.int .i64)) (.pair .bool (.sl (.pair (.int .i64) (.sl (.int .u8)))))))))) false], fun args objs κ => match args, objs with
 | [.ptr 0 0, .d (.int .i64) last, .d (.sl (.pair (.int .i64) (.pair (.int .i64) (.pair (.int .i64) (.pair (.pair (.int .i64) (.int .i64)) (.pair .bool (.sl (.pair (.int .i64) (.sl (.int .u8)))))))))) base], [.box [.ptr 1 0, .d .bool wrong], .box [.d (.sl (.int .u8)) bs, .d (.int .i64) at0, .d .bool bad]] => (match veil (gen3_reader_one.f BIG bs at0 bad wrong last base) with | none => none | some y => κ [.agg [.d (.int .i64) y.1, .d (.int .i64) y.2.1, .d (.int .i64) y.2.2.1, .d (.int .i64) y.2.2.2.1, .d (.int .i64) y.2.2.2.2.1, .d .bool y.2.2.2.2.2.1, .d (.sl (.pair (.int .i64) (.sl (.int .u8)))) y.2.2.2.2.2.2.1]] [.box [.ptr 1 0, .d .bool y.2.2.2.2.2.2.2.1], .box [.d (.sl (.int .u8)) y.2.2.2.2.2.2.2.2.1, .d (.int .i64) y.2.2.2.2.2.2.2.2.2.1, .d .bool y.2.2.2.2.2.2.2.2.2.2]])
 | _, _ => none⟩
theorem s_gen3_reader_one_det : SumDet s_gen3_reader_one := fun avs objs R κ => by
 show s_gen3_reader_one.run avs objs (two κ) = (s_gen3_reader_one.run avs objs (two some)).bind κ
 unfold s_gen3_reader_one
 simp only [veil_eq]
 split
 ·split <;> rfl
 ·rfl
theorem s_gen3_reader_one_ok : SumOk Try.prog 75 s_gen3_reader_one := by
 have hE : EnvOk Try.prog gen3_reader_one_E := env_ok (l := [(74, s_gen3_reader_form), (97, s_rec_Find), (98, s_bsame), (101, s_rnumb), (102, s_gen3_reader_span), (106, s_varint_Zag), (107, s_gen3_reader_fields)]) th_ok any_ok ⟨⟨s_gen3_reader_form_ok, s_gen3_reader_form_det⟩, ⟨s_rec_Find_ok, s_rec_Find_det⟩, ⟨s_bsame_ok, s_bsame_det⟩, ⟨s_rnumb_ok, s_rnumb_det⟩, ⟨s_gen3_reader_span_ok, s_gen3_reader_span_det⟩, ⟨s_varint_Zag_ok, s_varint_Zag_det⟩, ⟨s_gen3_reader_fields_ok, s_gen3_reader_fields_det⟩, trivial⟩ _
 refine sum_ok hE Try.func75 rfl (by kernel_rfl) s_gen3_reader_one [.dat (.pair (.int .i64) (.pair (.int .i64) (.pair (.int .i64) (.pair (.pair (.int .i64) (.int .i64)) (.pair .bool (.sl (.pair (.int .i64) (.sl (.int .u8))))))))) true] gen3_reader_one.k ?_
 intro R avs objs κ r h
 unfold s_gen3_reader_one at h
 simp only [veil_eq] at h
 split at h
 ·rename_i last base wrong bs at0 bad
  split at h
  ·cases h
  ·rename_i y hy
   refine ⟨BIG, _, _, _, (gen3_reader_one.eq BIG bs at0 bad wrong last base).trans hy, ?_, h⟩
   intro rs ros hk
   unfold gen3_reader_one.k at hk
   split at hk
   ·first | (cases hk; exact ⟨rfl, rfl⟩) | (have e := Option.some.inj hk; rw [← e]; exact ⟨rfl, rfl⟩)
   ·cases hk
 ·cases h
theorem flags_tab : (List.range 256).all (fun n => (bits Go.BinOp.and .i64 (n : Int) 3 == (n : Int) % 4) && (((bits Go.BinOp.and .i64 (n : Int) 4 != 0) == ((n : Int) / 4 % 2 == 1)) && (((bits Go.BinOp.and .i64 (n : Int) 8 != 0) == ((n : Int) / 8 % 2 == 1)) && ((bits Go.BinOp.and .i64 (n : Int) 16 != 0) == ((n : Int) / 16 % 2 == 1))))) = true := by kernel_rfl
theorem flags_at (v : Int) (h0 : 0 ≤ v) (h1 : v ≤ 255) : bits Go.BinOp.and .i64 v 3 = v % 4 ∧ (bits Go.BinOp.and .i64 v 4 != 0) = (v / 4 % 2 == 1) ∧ (bits Go.BinOp.and .i64 v 8 != 0) = (v / 8 % 2 == 1) ∧ (bits Go.BinOp.and .i64 v 16 != 0) = (v / 16 % 2 == 1) := by
 have := List.all_eq_true.1 flags_tab v.toNat (by simp; omega)
 rw [show ((v.toNat : Nat) : Int) = v from by omega] at this
 simp only [Bool.and_eq_true] at this
 obtain ⟨a, b, c, d⟩ := this
 exact ⟨by simpa using a, eq_of_beq b, eq_of_beq c, eq_of_beq d⟩
theorem xor64_zero (a : Int) (h0 : 0 ≤ a) (h1 : a < 9223372036854775808) : bits Go.BinOp.xor .i64 a 0 = a := by
 have e : bits Go.BinOp.xor .i64 a 0 = Go.IntKind.wrap .i64 ((BitVec.ofInt 64 a ^^^ 0#64).toNat : Int) := rfl
 rw [e, BitVec.xor_zero, BitVec.toNat_ofInt, wrap_small]
 ·omega
 ·omega
 ·omega
theorem xor64_ones (a : Int) (h0 : 0 ≤ a) (h1 : a < 9223372036854775808) : bits Go.BinOp.xor .i64 a (-1) = -a - 1 := by
 have e : bits Go.BinOp.xor .i64 a (-1) = Go.IntKind.wrap .i64 ((BitVec.ofInt 64 a ^^^ BitVec.ofInt 64 (-1)).toNat : Int) := rfl
 rw [e, show BitVec.ofInt 64 (-1) = BitVec.allOnes 64 from by decide +kernel, BitVec.xor_allOnes, BitVec.toNat_not, BitVec.toNat_ofInt, Go.IntKind.wrap_i64]
 omega
theorem and64_one (z : Int) (h0 : 0 ≤ z) (h1 : z < 18446744073709551616) : bits Go.BinOp.and .u64 z 1 = z % 2 := by
 obtain ⟨a, rfl⟩ := Int.eq_ofNat_of_zero_le h0
 have e : bits Go.BinOp.and .u64 (a : Int) 1 = Go.IntKind.wrap .u64 ((BitVec.ofInt 64 (a : Int) &&& 1#64).toNat : Int) := rfl
 rw [e, BitVec.toNat_and, BitVec.ofInt_natCast, BitVec.toNat_ofNat, Nat.mod_eq_of_lt (by omega), show (1#64 : BitVec 64).toNat = 1 from rfl, Nat.and_one_is_mod, wrapU64 _ (by omega) (by omega)]
 omega
theorem Zag.pure (z : Int) (h0 : 0 ≤ z) (h1 : z < 4611686018427387904) : varint_Zag.f BIG z = some (zagF z) := by
 unfold varint_Zag.f varint_Zag.b zagF
 rw [show ((2 : Int) ^ (Min.min (Int.toNat (1 : Int)) (Go.IntKind.bits .u64))) = 2 from rfl, Int.fdiv_eq_ediv_of_nonneg _ (by omega), and64_one z h0 (by omega), wrap_small (z / 2) (by omega) (by omega), wrap_small (z % 2) (by omega) (by omega)]
 by_cases h : z % 2 = 0
 ·rw [if_pos h, h, show Go.IntKind.wrap .i64 (0 - 0) = 0 from by decide, xor64_zero _ (by omega) (by omega)]
 ·rw [if_neg h, show z % 2 = 1 from by omega, show Go.IntKind.wrap .i64 (0 - 1) = -1 from by decide, xor64_ones _ (by omega) (by omega)]
  congr 1
  omega
theorem one12_wrong (bs : List Int) (a0 : Int) (bad0 wr0 : Bool) (last : Int) (base : LR) (v : Int) (ok : Bool) (a : Int) (bad : Bool) (id st lo hi : Int) (cut : Bool) (oid oinc ost olo ohi : Int) (ocut : Bool) (obag : LF) :
  ∃ inc bag, gen3_reader_one.l12 BIG bs a0 bad0 wr0 last base BIG v ok true bs a bad id st lo hi cut oid oinc ost olo ohi ocut obag = some (id, inc, st, lo, hi, cut, bag, true, bs, a, bad) := by
 rw [gen3_reader_one.l12_at BIG BIG (BIG - 1) big_eq]
 unfold gen3_reader_one.b12
 simp only [veil_eq]
 rw [form_wrong]
 dsimp only
 obtain ⟨y, hy⟩ : ∃ y, varint_Zag.f BIG (Go.IntKind.wrap .u64 0) = some y := ⟨_, rfl⟩
 rw [hy]
 dsimp only
 cases cut with
 | true => exact ⟨_, _, rfl⟩
 | false =>
  rw [if_neg (c := false = true) (by simp)]
  split
  ·exact ⟨_, _, rfl⟩
  ·rw [fields_wrong]
   exact ⟨_, _, rfl⟩
def OneBad (bs : List Int) (o : Option (Int × Int × Int × Int × Int × Bool × LF × Bool × List Int × Int × Bool)) : Prop :=
 ∃ id inc st lo hi cut bag, ∃ (a' : Nat) (bad' : Bool), o = some (id, inc, st, lo, hi, cut, bag, true, bs, (a' : Int), bad') ∧ a' ≤ bs.length
theorem one12_bad (bs : List Int) (a0 : Int) (bad0 wr0 : Bool) (last : Int) (base : LR) (v : Int) (ok : Bool) (a : Nat) (bad : Bool) (id st lo hi : Int) (cut : Bool) (oid oinc ost olo ohi : Int) (ocut : Bool) (obag : LF) (ha : a ≤ bs.length) :
  OneBad bs (gen3_reader_one.l12 BIG bs a0 bad0 wr0 last base BIG v ok true bs (a : Int) bad id st lo hi cut oid oinc ost olo ohi ocut obag) := by
 obtain ⟨inc, bag, h⟩ := one12_wrong bs a0 bad0 wr0 last base v ok a bad id st lo hi cut oid oinc ost olo ohi ocut obag
 exact ⟨id, inc, st, lo, hi, cut, bag, a, bad, h, ha⟩
theorem bag_small {b : LF} (h1 : b.length ≤ 32) (h2 : ∀ x ∈ b, x.2.length ≤ 4096) : smallBag b = true := (smallBag_iff _).2 ⟨by omega, fun x hx => by have := h2 x hx; omega⟩
theorem old_small {base : LR} (hbase : ∀ x ∈ base, recOkT x = true) (id : Int) : smallBag (oldR base id).1.2.2.2.2.2 = true := by
 rcases oldR_mem (base := base) (id := id) with ⟨_, h⟩ | ⟨_, h, _⟩
 ·rw [h]; all_goals rfl
 ·have := recOk_facts (hbase _ h)
  have hb2 := bagOk_len this.2.2.2.2.2.2.2.1
  exact bag_small hb2.1 (fun x hx => (bag_tags this.2.2.2.2.2.2.2.1 x hx).2.2)
theorem one12_good (bs : List Int) (hb : inB bs = true) (a0 : Int) (bad0 wr0 : Bool) (last : Int) (base : LR) (hbase : ∀ x ∈ base, recOkT x = true) (id0 : Int) (v : Int) (v0 : 0 ≤ v) (hv : flagBad (oldR base id0) v = false) (a : Nat) (ha : a ≤ bs.length) (id st lo hi oid ost olo ohi : Int) (ocut : Bool) :
  match (match tk bs a 562949953421310 with
   | none => none
   | some (z, a3) => match bagsS bs (oldR base id0) v a3 with
    | none => none
    | some (b, a4) => some ((oldR base id0).1.2.1 + zagF z, b, a4)) with
  | some (inc, b, a4) => gen3_reader_one.l12 BIG bs a0 bad0 wr0 last base BIG v (oldR base id0).2 false bs (a : Int) false id st lo hi (v / 4 % 2 == 1) oid (oldR base id0).1.2.1 ost olo ohi ocut (oldR base id0).1.2.2.2.2.2 = some (id, inc, st, lo, hi, (v / 4 % 2 == 1), b, false, bs, (a4 : Int), false)
  | none => OneBad bs (gen3_reader_one.l12 BIG bs a0 bad0 wr0 last base BIG v (oldR base id0).2 false bs (a : Int) false id st lo hi (v / 4 % 2 == 1) oid (oldR base id0).1.2.1 ost olo ohi ocut (oldR base id0).1.2.2.2.2.2) := by
 obtain ⟨hl, hc⟩ := (inB_iff bs).1 hb
 obtain ⟨f1, f2, f3⟩ := flagBad_no hv
 obtain ⟨o0, o1⟩ := old_inc hbase id0
 have hos := old_small hbase id0
 obtain ⟨_, _, _, b16⟩ := flags_at v v0 (by omega)
 have hg := form_good bs a 562949953421310 hb (by decide) (by decide) ha
 rw [gen3_reader_one.l12_at BIG BIG (BIG - 1) big_eq]
 unfold gen3_reader_one.b12
 simp only [veil_eq]
 generalize oldR base id0 = o at *
 cases ht : tk bs a 562949953421310 with
 | none =>
  rw [ht] at hg
  obtain ⟨a', bad, hg, h2⟩ := hg
  rw [hg]
  dsimp only
  obtain ⟨y, hy⟩ : ∃ y, varint_Zag.f BIG (Go.IntKind.wrap .u64 0) = some y := ⟨_, rfl⟩
  rw [hy]
  dsimp only
  cases (v / 4 % 2 == 1) with
  | true => exact ⟨_, _, _, _, _, _, _, a', bad, rfl, h2⟩
  | false =>
   rw [if_neg (c := false = true) (by simp)]
   split
   ·exact ⟨_, _, _, _, _, _, _, a', bad, rfl, h2⟩
   ·rw [fields_wrong]
    exact ⟨_, _, _, _, _, _, _, a', bad, rfl, h2⟩
 | some p =>
  obtain ⟨z, a3⟩ := p
  rw [ht] at hg
  dsimp only at hg ⊢
  obtain ⟨e1, z0, z1, _, _, l3⟩ := tk_facts hc ht
  have hz : -300000000000000 ≤ zagF z ∧ zagF z ≤ 300000000000000 := by unfold zagF; split <;> omega
  rw [hg]
  dsimp only
  rw [wrapU64 z z0 (by omega), Zag.pure z z0 (by omega)]
  dsimp only
  rw [wrap_small _ (by omega) (by omega), b16]
  unfold bagsS
  by_cases h4 : v / 4 % 2 = 1
  ·rw [if_pos h4]
   have e4 : (v / 4 % 2 == 1) = true := by simpa using h4
   rw [e4]
   all_goals rfl
  ·rw [if_neg h4]
   have e4 : (v / 4 % 2 == 1) = false := by simpa using h4
   rw [e4, if_neg (c := false = true) (by simp)]
   by_cases h16 : 16 ≤ v
   ·rw [if_pos h16, if_pos (c := (v / 16 % 2 == 1) = true) (by simp; omega)]
   ·rw [if_neg h16, if_neg (c := (v / 16 % 2 == 1) = true) (by simp; omega)]
    have hf := fields_good bs a3 hb l3
    cases hbg : bagS bs a3 with
    | none =>
     rw [hbg] at hf
     obtain ⟨a', bad', l, hf, h2⟩ := hf
     rw [hf]
     exact ⟨_, _, _, _, _, _, _, a', bad', rfl, h2⟩
    | some q =>
     obtain ⟨b, a4⟩ := q
     rw [hbg] at hf
     dsimp only at hf ⊢
     rw [hf]
     dsimp only
     obtain ⟨_, l4, n4, s4⟩ := bagS_sound hc hbg
     rw [if_neg (c := false = true) (by simp)]
     cases ho : o.2 with
     | false =>
      rw [if_neg (c := false = true) (by simp)]
      simp
     | true =>
      cases hcm : cmpGo b o.1.2.2.2.2.2 == 0 with
      | true =>
       simp only [bag_small n4 s4, hos, Bool.and_self, if_true]
       exact ⟨_, _, _, _, _, _, _, a4, false, rfl, l4⟩
      | false =>
       simp only [bag_small n4 s4, hos, Bool.and_self, Bool.and_false, if_true, Bool.false_eq_true, if_false]
theorem one8_bad (bs : List Int) (a0 : Int) (bad0 wr0 : Bool) (last : Int) (base : LR) (v : Int) (ok : Bool) (a : Nat) (bad : Bool) (id st : Int) (cut : Bool) (oid oinc ost olo ohi : Int) (ocut : Bool) (obag : LF) (hb : inB bs = true) (ha : a ≤ bs.length) (wr : Bool) (hw : wr = true ∨ (bad = true ∧ v = 0)) :
  OneBad bs (gen3_reader_one.l8 BIG bs a0 bad0 wr0 last base BIG v ok wr bs (a : Int) bad id st cut oid oinc ost olo ohi ocut obag) := by
 rw [gen3_reader_one.l8_at BIG BIG (BIG - 1) big_eq]
 unfold gen3_reader_one.b8
 simp only [veil_eq]
 by_cases h8 : (bits Go.BinOp.and .i64 v 8 != 0) = true
 ·rw [if_pos h8]
  rcases hw with rfl | ⟨_, rfl⟩
  ·exact one12_bad bs a0 bad0 wr0 last base v ok a bad id st _ _ cut oid oinc ost olo ohi ocut obag ha
  ·exact absurd h8 (by decide)
 ·rw [if_neg h8]
  have hr : Rel bs none wr (a : Int) bad := ⟨⟨a, rfl, ha⟩, by
   rcases hw with h | h
   ·exact Or.inl h
   ·exact Or.inr h.1⟩
  obtain ⟨lo, hi, wr', a', bad', e1, r1, _⟩ := span_rel hb hr
  rw [e1]
  dsimp only
  obtain ⟨⟨n, rfl, hn⟩, hor⟩ := r1
  have hwr : wr' = true := by
   -- a span that is not read is wrong
   have := e1
   unfold gen3_reader_span.f gen3_reader_span.b at this
   simp only [veil_eq] at this
   rw [if_pos ((atOk_iff _ _).2 ⟨hb, by omega, by omega⟩)] at this
   rcases hw with rfl | ⟨rfl, _⟩
   ·have := (Option.some.inj this)
    simp only [Prod.mk.injEq] at this
    rw [← this.2.2.1]
   ·rw [readF_bad] at this
    cases wr with
    | true =>
     have := (Option.some.inj this)
     simp only [Prod.mk.injEq] at this
     rw [← this.2.2.1]
    | false =>
     rw [if_neg (by simp)] at this
     have := (Option.some.inj this)
     simp only [Prod.mk.injEq] at this
     rw [← this.2.2.1, ofGo_ok3 0 (by omega) (by omega)]
     all_goals rfl
  subst hwr
  rw [if_pos rfl]
  exact one12_bad bs a0 bad0 wr0 last base v ok n bad' id st _ _ cut oid oinc ost olo ohi ocut obag hn
theorem span_good (bs : List Int) (a : Nat) (hb : inB bs = true) (ha : a ≤ bs.length) :
  match bs[a]? with
  | none => ∃ lo hi bad, gen3_reader_span.f BIG bs (a : Int) false false = some (lo, hi, true, bs, (a : Int), bad)
  | some c => if okS (c / 16) (c % 16) = true then gen3_reader_span.f BIG bs (a : Int) false false = some (c / 16, c % 16, false, bs, ((a + 1 : Nat) : Int), false)
   else ∃ lo hi, gen3_reader_span.f BIG bs (a : Int) false false = some (lo, hi, true, bs, ((a + 1 : Nat) : Int), false) := by
 obtain ⟨hl, hc⟩ := (inB_iff bs).1 hb
 unfold gen3_reader_span.f gen3_reader_span.b
 simp only [veil_eq]
 rw [if_pos ((atOk_iff _ _).2 ⟨hb, by omega, by omega⟩)]
 by_cases hlt : a < bs.length
 ·rw [readF_one bs a hlt, List.getElem?_eq_getElem hlt]
  dsimp only
  obtain ⟨c0, c1⟩ := hc _ (List.getElem_mem hlt)
  have ht := ofGo_ok3 _ c0 c1
  have hd := ofGo_div _ c0 c1
  generalize bs[a] = c at c0 c1 ht hd ⊢
  rw [if_neg (c := false = true) (by simp), ht]
  cases ho : okS (c / 16) (c % 16) with
  | true => rw [if_pos rfl, hd.1 ho]; all_goals rfl
  | false => rw [if_neg (c := false = true) (by simp)]; exact ⟨_, _, rfl⟩
 ·rw [readF_end bs a (by omega), List.getElem?_eq_none (by omega)]
  dsimp only
  rw [if_neg (c := false = true) (by simp), ofGo_ok3 0 (by omega) (by omega)]
  exact ⟨_, _, _, rfl⟩
theorem one8_good (bs : List Int) (hb : inB bs = true) (a0 : Int) (bad0 wr0 : Bool) (last : Int) (base : LR) (o : REC × Bool) (v : Int) (v0 : 0 ≤ v) (v1 : v ≤ 255) (a : Nat) (ha : a ≤ bs.length) (id st : Int) (cut : Bool) :
  match spanS bs o v a with
  | some (sp, a2) => gen3_reader_one.l8 BIG bs a0 bad0 wr0 last base BIG v o.2 false bs (a : Int) false id st cut o.1.1 o.1.2.1 o.1.2.2.1 o.1.2.2.2.1.1 o.1.2.2.2.1.2 o.1.2.2.2.2.1 o.1.2.2.2.2.2 =
    gen3_reader_one.l12 BIG bs a0 bad0 wr0 last base BIG v o.2 false bs (a2 : Int) false id st sp.1 sp.2 cut o.1.1 o.1.2.1 o.1.2.2.1 o.1.2.2.2.1.1 o.1.2.2.2.1.2 o.1.2.2.2.2.1 o.1.2.2.2.2.2 ∧ a2 ≤ bs.length
  | none => OneBad bs (gen3_reader_one.l8 BIG bs a0 bad0 wr0 last base BIG v o.2 false bs (a : Int) false id st cut o.1.1 o.1.2.1 o.1.2.2.1 o.1.2.2.2.1.1 o.1.2.2.2.1.2 o.1.2.2.2.2.1 o.1.2.2.2.2.2) := by
 obtain ⟨_, _, b8, _⟩ := flags_at v v0 v1
 have hs := span_good bs a hb ha
 rw [gen3_reader_one.l8_at BIG BIG (BIG - 1) big_eq]
 unfold gen3_reader_one.b8 spanS
 simp only [veil_eq]
 rw [b8]
 by_cases h8 : v / 8 % 2 = 1
 ·rw [if_pos h8, if_pos (c := (v / 8 % 2 == 1) = true) (by simpa using h8)]
  exact ⟨rfl, ha⟩
 ·rw [if_neg h8, if_neg (c := (v / 8 % 2 == 1) = true) (by simpa using h8)]
  cases hc : bs[a]? with
  | none =>
   rw [hc] at hs
   obtain ⟨lo, hi, bad, hs⟩ := hs
   rw [hs]
   dsimp only
   rw [if_pos rfl]
   exact one12_bad bs a0 bad0 wr0 last base v _ a bad id st _ _ cut _ _ _ _ _ _ _ ha
  | some c =>
   rw [hc] at hs
   dsimp only at hs ⊢
   have hlt := (get_drop hc).2
   cases ho : okS (c / 16) (c % 16) with
   | false =>
    rw [ho, if_neg (by simp)] at hs
    obtain ⟨lo, hi, hs⟩ := hs
    rw [hs]
    dsimp only
    rw [if_pos (c := true = true) rfl, if_neg (by simp)]
    exact one12_bad bs a0 bad0 wr0 last base v _ (a + 1) false id st _ _ cut _ _ _ _ _ _ _ hlt
   | true =>
    rw [ho, if_pos rfl] at hs
    rw [hs]
    dsimp only
    rw [if_neg (c := false = true) (by simp)]
    cases h2 : o.2 with
    | false =>
     simp only [Bool.false_and, and_self, if_true, Bool.false_eq_true, if_false]
     first | exact hlt | exact ⟨rfl, hlt⟩ | exact ⟨trivial, hlt⟩
    | true =>
     rw [if_pos (c := true = true) rfl]
     cases h3 : (c / 16 == o.1.2.2.2.1.1) <;> cases h4 : (c % 16 == o.1.2.2.2.1.2) <;> simp only [Bool.true_and, Bool.and_self, Bool.and_true, Bool.and_false, Bool.false_eq_true, and_self, and_false, true_and, Bool.true_eq_false, if_true, if_false]
     ·first | exact hlt | exact ⟨rfl, hlt⟩ | exact ⟨trivial, hlt⟩
     ·first | exact hlt | exact ⟨rfl, hlt⟩ | exact ⟨trivial, hlt⟩
     ·first | exact hlt | exact ⟨rfl, hlt⟩ | exact ⟨trivial, hlt⟩
     ·exact one12_bad bs a0 bad0 wr0 last base v _ (a + 1) false id st _ _ cut _ _ _ _ _ _ _ hlt
theorem flag_ite {α : Type} (o : REC × Bool) (v : Int) (B E : α) : (if decide (v ≥ 32) = true then B else if (!o.2) = true then (if decide (v ≥ 8) = true then B else if (v / 4 % 2 == 1) = true then (if decide (v ≥ 16) = true then B else E) else E) else (if (v / 4 % 2 == 1) = true then (if decide (v ≥ 16) = true then B else E) else E)) = if flagBad o v = true then B else E := by
 unfold flagBad
 have e1 : (v / 4 % 2 == 1) = decide (v / 4 % 2 = 1) := rfl
 rw [e1]
 have g32 : decide (v ≥ 32) = decide (32 ≤ v) := rfl
 have g8 : decide (v ≥ 8) = decide (8 ≤ v) := rfl
 have g16 : decide (v ≥ 16) = decide (16 ≤ v) := rfl
 rw [g32, g8, g16]
 generalize decide (32 ≤ v) = p
 generalize decide (8 ≤ v) = q
 generalize decide (16 ≤ v) = s
 generalize decide (v / 4 % 2 = 1) = t
 generalize o.2 = u
 cases p <;> cases q <;> cases s <;> cases t <;> cases u <;> rfl
theorem one_good (bs : List Int) (hb : inB bs = true) (last : Int) (h1 : -1 ≤ last) (h2 : last ≤ 100000000) (base : LR) (hbase : ∀ x ∈ base, recOkT x = true) (hbn : base.length < 1000000000) (a : Nat) (ha : a ≤ bs.length) :
  match recS bs base last a with
  | some (r, a2) => gen3_reader_one.f BIG bs (a : Int) false false last base = some (r.1, r.2.1, r.2.2.1, r.2.2.2.1.1, r.2.2.2.1.2, r.2.2.2.2.1, r.2.2.2.2.2, false, bs, (a2 : Int), false)
  | none => OneBad bs (gen3_reader_one.f BIG bs (a : Int) false false last base) := by
 obtain ⟨hl, hc⟩ := (inB_iff bs).1 hb
 have hg := form_good bs a 4095 hb (by decide) (by decide) ha
 have hfine := fine_of hbase hbn
 unfold gen3_reader_one.f gen3_reader_one.b recS
 simp only [veil_eq]
 cases ht : tk bs a 4095 with
 | none =>
  rw [ht] at hg
  obtain ⟨a', bad, hg, l1⟩ := hg
  rw [hg]
  dsimp only
  have hat : atOk bs (a' : Int) = true := (atOk_iff _ _).2 ⟨hb, by omega, by omega⟩
  have hr := (atOk_iff _ _).1 (readF_at bs 1 (a' : Int) bad hat)
  obtain ⟨m, hm1, hm2⟩ : ∃ m : Nat, (readF bs 1 (a' : Int) bad).2.1 = (m : Int) ∧ m ≤ bs.length := ⟨(readF bs 1 (a' : Int) bad).2.1.toNat, by omega, by omega⟩
  rw [if_pos (c := atOk bs (a' : Int) = true) hat, Find.pure base _ hfine, hm1]
  dsimp only
  repeat' split
  all_goals first
   | exact ⟨_, _, _, _, _, _, _, m, _, rfl, hm2⟩
   | exact one8_bad bs a false false last base _ _ m _ _ _ _ _ _ _ _ _ _ _ hb hm2 true (Or.inl rfl)
 | some p =>
  obtain ⟨d, a1⟩ := p
  rw [ht] at hg
  dsimp only at hg ⊢
  obtain ⟨_, d0, d1, _, _, l1⟩ := tk_facts hc ht
  rw [hg]
  dsimp only
  have hid : Go.IntKind.wrap .i64 (Go.IntKind.wrap .i64 (last + 1) + d) = last + 1 + d := by rw [wrap_small (last + 1) (by omega) (by omega), wrap_small _ (by omega) (by omega)]
  rw [if_pos (c := atOk bs (a1 : Int) = true) ((atOk_iff _ _).2 ⟨hb, by omega, by omega⟩), hid, Find.pure base _ hfine]
  dsimp only
  by_cases hlt : a1 < bs.length
  ·rw [readF_one bs a1 hlt, List.getElem?_eq_getElem hlt]
   dsimp only
   obtain ⟨c0, c1⟩ := hc _ (List.getElem_mem hlt)
   generalize bs[a1] = v at c0 c1 ⊢
   obtain ⟨b3, b4, _, _⟩ := flags_at v c0 c1
   rw [b3, b4, flag_ite]
   cases hf : flagBad (oldR base (last + 1 + d)) v with
   | true =>
    rw [if_pos rfl, if_pos rfl]
    exact ⟨_, _, _, _, _, _, _, a1 + 1, _, rfl, hlt⟩
   | false =>
    rw [if_neg (c := false = true) (by simp), if_neg (c := false = true) (by simp)]
    have h8 := one8_good bs hb a false false last base (oldR base (last + 1 + d)) v c0 c1 (a1 + 1) hlt (last + 1 + d) (v % 4) (v / 4 % 2 == 1)
    cases hs : spanS bs (oldR base (last + 1 + d)) v (a1 + 1) with
    | none =>
     rw [hs] at h8
     exact h8
    | some q =>
     obtain ⟨sp, a2⟩ := q
     rw [hs] at h8
     dsimp only at h8 ⊢
     rw [h8.1]
     have h12 := one12_good bs hb a false false last base hbase (last + 1 + d) v c0 hf a2 h8.2 (last + 1 + d) (v % 4) sp.1 sp.2 (oldR base (last + 1 + d)).1.1 (oldR base (last + 1 + d)).1.2.2.1 (oldR base (last + 1 + d)).1.2.2.2.1.1 (oldR base (last + 1 + d)).1.2.2.2.1.2 (oldR base (last + 1 + d)).1.2.2.2.2.1
     revert h12
     cases tk bs a2 562949953421310 with
     | none => intro h12; exact h12
     | some w =>
      obtain ⟨z, a3⟩ := w
      dsimp only
      cases bagsS bs (oldR base (last + 1 + d)) v a3 with
      | none => intro h12; exact h12
      | some u =>
       obtain ⟨b, a4⟩ := u
       intro h12
       exact h12
  ·rw [readF_end bs a1 (by omega), List.getElem?_eq_none (by omega)]
   dsimp only
   rw [show (bits Go.BinOp.and .i64 0 4 != 0) = ((0 : Int) / 4 % 2 == 1) from by decide, flag_ite]
   split
   ·exact ⟨_, _, _, _, _, _, _, a1, _, rfl, l1⟩
   ·exact one8_bad bs a false false last base 0 _ a1 true _ _ _ _ _ _ _ _ _ _ hb l1 false (Or.inr ⟨rfl, rfl⟩)
theorem recS_small {bs : List Int} (hb : ∀ c ∈ bs, 0 ≤ c ∧ c ≤ 255) {base : LR} (hbase : ∀ x ∈ base, recOkT x = true) {last : Int} {a : Nat} {r : REC} {a2 : Nat} (h : recS bs base last a = some (r, a2)) : smallBag r.2.2.2.2.2 = true := by
 unfold recS at h
 cases ht : tk bs a 4095 with
 | none => rw [ht] at h; cases h
 | some p =>
  obtain ⟨d, a1⟩ := p
  rw [ht] at h
  dsimp only at h
  cases hc : bs[a1]? with
  | none => rw [hc] at h; cases h
  | some v =>
   rw [hc] at h
   dsimp only at h
   cases hf : flagBad (oldR base (last + 1 + d)) v with
   | true => rw [hf] at h; cases h
   | false =>
    rw [hf, if_neg (by simp)] at h
    cases hs : spanS bs (oldR base (last + 1 + d)) v (a1 + 1) with
    | none => rw [hs] at h; cases h
    | some q =>
     rw [hs] at h
     dsimp only at h
     cases hz : tk bs q.2 562949953421310 with
     | none => rw [hz] at h; cases h
     | some w =>
      rw [hz] at h
      dsimp only at h
      cases hg : bagsS bs (oldR base (last + 1 + d)) v w.2 with
      | none => rw [hg] at h; cases h
      | some u =>
       rw [hg] at h
       cases h
       unfold bagsS at hg
       dsimp only
       split at hg
       ·cases hg; rfl
       ·split at hg
        ·cases hg; exact old_small hbase _
        ·cases hk : bagS bs w.2 with
         | none => rw [hk] at hg; cases hg
         | some y =>
          rw [hk] at hg
          dsimp only at hg
          split at hg
          ·cases hg
          ·cases hg
           obtain ⟨_, _, n4, s4⟩ := bagS_sound hb (l := y.1) (a2 := y.2) hk
           exact bag_small n4 s4
def enc : Option Nat → Int
 | some a => (a : Int)
 | none => -1
theorem Head3.pure {bs : List Int} (hb : inB bs = true) : gen3_Head.f BIG bs = some (match hdS bs with
  | none => (0, 0, 0, 0, 0, 0, 0, 0, 0, 0, [], 4)
  | some (k, f, i, lo, hi, s, t, l, e, b, _) => (k, f, i, lo, hi, s, t, l, e, b, [], 0)) := by
 unfold gen3_Head.f gen3_Head.b
 simp only [veil_eq]
 rw [if_pos hb]
 have h := head.pure bs hb
 cases hs : hdS bs with
 | none =>
  rw [hs] at h
  obtain ⟨k, f, i, lo, hi, s, t, l, e, b, a, bad, h⟩ := h
  rw [h]
  rfl
 | some x =>
  obtain ⟨k, f, i, lo, hi, s, t, l, e, b, a⟩ := x
  rw [hs] at h
  dsimp only at h
  rw [h.1]
  rfl
abbrev M12 := Int × Int × Int × Int × Int × Int × Int × Int × Int × Int × LR × Int
noncomputable def z12 (e : Int) : M12 := (0, 0, 0, 0, 0, 0, 0, 0, 0, 0, [], e)
noncomputable def bareX (m : M12) : M12 := (m.1, m.2.1, m.2.2.1, m.2.2.2.1, m.2.2.2.2.1, m.2.2.2.2.2.1, m.2.2.2.2.2.2.1, m.2.2.2.2.2.2.2.1, m.2.2.2.2.2.2.2.2.1, m.2.2.2.2.2.2.2.2.2.1, [], m.2.2.2.2.2.2.2.2.2.2.2)
noncomputable def errX (m : M12) : Int := m.2.2.2.2.2.2.2.2.2.2.2
noncomputable def baseX (m : M12) : Int := m.2.2.2.2.2.2.2.2.2.1
noncomputable def recsX (m : M12) : LR := m.2.2.2.2.2.2.2.2.2.2.1
def validX (m : M12) : Prop := validF m.1 m.2.1 m.2.2.1 m.2.2.2.1 m.2.2.2.2.1 m.2.2.2.2.2.1 m.2.2.2.2.2.2.1 m.2.2.2.2.2.2.2.1 m.2.2.2.2.2.2.2.2.1 m.2.2.2.2.2.2.2.2.2.1 m.2.2.2.2.2.2.2.2.2.2.1 = true
noncomputable def okM (m : MSG3) : M12 := (m.1, m.2.1, m.2.2.1, m.2.2.2.1, m.2.2.2.2.1, m.2.2.2.2.2.1, m.2.2.2.2.2.2.1, m.2.2.2.2.2.2.2.1, m.2.2.2.2.2.2.2.2.1, m.2.2.2.2.2.2.2.2.2.1, m.2.2.2.2.2.2.2.2.2.2, 0)
noncomputable def dec3 (b : List Int) (base : LR) : M12 :=
 if sortedF base = true then (match decS b base with
  | none => z12 4
  | some m => okM m) else z12 1
noncomputable def head3X (b : List Int) : M12 := match hdS b with
 | none => z12 4
 | some (k, f, i, lo, hi, s, t, l, e, b, _) => (k, f, i, lo, hi, s, t, l, e, b, [], 0)
theorem dec3_ok {b : List Int} {base : LR} (hb : ∀ c ∈ b, 0 ≤ c ∧ c ≤ 255) (h : errX (dec3 b base) = 0) :
  validX (dec3 b base) ∧ enc3 (dec3 b base).1 (dec3 b base).2.1 (dec3 b base).2.2.1 (dec3 b base).2.2.2.1 (dec3 b base).2.2.2.2.1 (dec3 b base).2.2.2.2.2.1 (dec3 b base).2.2.2.2.2.2.1 (dec3 b base).2.2.2.2.2.2.2.1 (dec3 b base).2.2.2.2.2.2.2.2.1 (dec3 b base).2.2.2.2.2.2.2.2.2.1 (dec3 b base).2.2.2.2.2.2.2.2.2.2.1 base = (b, 0) ∧ head3X b = bareX (dec3 b base) := by
 unfold dec3 at h ⊢
 by_cases hs : sortedF base = true
 ·rw [if_pos hs] at h ⊢
  cases hd : decS b base with
  | none => rw [hd] at h; exact absurd h (by unfold errX z12; decide)
  | some m =>
   obtain ⟨k, f, i, lo, hi, s, t, l, e, b', rs⟩ := m
   obtain ⟨e1, e2, e3, a, e4⟩ := decS_sound hb hd
   dsimp only [okM]
   refine ⟨e2, ?_, ?_⟩
   ·unfold enc3
    rw [e2, hs, e1]
    simp only [Bool.and_self, if_true]
    rw [if_neg (by omega)]
   ·unfold head3X
    rw [e4]
    all_goals rfl
 ·rw [if_neg hs] at h
  exact absurd h (by unfold errX z12; decide)
theorem dec3_no {b : List Int} {base : LR} (h : errX (dec3 b base) ≠ 0) : dec3 b base = z12 (errX (dec3 b base)) := by
 unfold dec3 at h ⊢
 by_cases hs : sortedF base = true
 ·rw [if_pos hs] at h ⊢
  cases hd : decS b base with
  | none => rfl
  | some m => rw [hd] at h; exact absurd rfl h
 ·rw [if_neg hs]; all_goals rfl
theorem enc3_back {k f i lo hi s t l e b : Int} {recs base : LR} (hs : sortedF base = true) (h : (enc3 k f i lo hi s t l e b recs base).2 = 0) :
  dec3 (enc3 k f i lo hi s t l e b recs base).1 base = (k, f, i, lo, hi, s, t, l, e, b, recs, 0) ∧ validF k f i lo hi s t l e b recs = true ∧ (enc3 k f i lo hi s t l e b recs base).1.length ≤ 65499 := by
 unfold enc3 at h ⊢
 cases hv : validF k f i lo hi s t l e b recs with
 | false => rw [hv] at h; exact absurd h (by simp)
 | true =>
  rw [hv, hs] at h
  rw [hs]
  simp only [Bool.and_self, if_true] at h ⊢
  by_cases hl : (body3 k f i lo hi s t l e b recs base).length > 65499
  ·rw [if_pos hl] at h; exact absurd h (by decide)
  ·rw [if_neg hl]
   dsimp only
   refine ⟨?_, trivial, by omega⟩
   unfold dec3
   rw [if_pos hs, decS_back (sorted_facts hs).1 hv (by omega)]
   all_goals rfl
noncomputable def roomF (gen : Int) : Int := if gen == 1 then 65535 else if gen == 2 then 4294967295 else 281474976710655
noncomputable def bagsF (recs : LR) : Bool := recs.any fun r => decide ((r.2.2.2.2.2.length : Int) > 0)
noncomputable def incsF (gen : Int) (recs : LR) : Bool := recs.any fun r => decide (r.2.1 > roomF gen)
noncomputable def optL (b : Bool) (x : Int) : List Int := if b then [x] else []
noncomputable def tailF (kind from0 inc lo hi seq target life epoch base : Int) (recs : LR) (gen : Int) (bags incs : Bool) : List Int :=
 optL (decide (gen < 3) && kind == 9) 1 ++ (optL (decide (gen < 3) && epoch != 0) 2 ++ (optL (gen == 1 && bags) 3 ++ (optL incs 4 ++ optL (decide (bytesF kind from0 inc lo hi seq target life epoch base recs gen > 65499)) 5)))
noncomputable def whyF (kind from0 inc lo hi seq target life epoch base : Int) (recs : LR) (gen : Int) : List Int := if shapedF kind from0 inc lo hi seq target life epoch base recs gen then tailF kind from0 inc lo hi seq target life epoch base recs gen (bagsF recs) (incsF gen recs) else [0]
theorem WhyC.pure (b : Bool) (x : Int) (l : List Int) (h : l.length ≤ 100) : fit_Why_c1.f BIG b x l = some (l ++ optL b x) := by
 unfold fit_Why_c1.f fit_Why_c1.b optL
 cases b
 ·simp
 ·rw [if_pos rfl, if_pos (by simp [lim]; omega)]
  rfl
theorem optL_len (b : Bool) (x : Int) : (optL b x).length ≤ 1 := by unfold optL; split <;> simp
theorem Room.pure (gen : Int) : fit_room.f BIG gen = some (roomF gen) := by
 unfold fit_room.f fit_room.b roomF
 simp only [veil_eq]
 split
 ·rfl
 ·split <;> rfl
theorem Why.last (kind from0 inc lo hi seq target life epoch base : Int) (recs : LR) (gen : Int) (hs : shapedF kind from0 inc lo hi seq target life epoch base recs gen = true) (hr : smallRecs recs = true) (hn : recs.length < 1000000000) (bags incs : Bool) (fuel k : Nat) :
  fit_Why.l5 BIG kind from0 inc lo hi seq target life epoch base recs gen (k + 1) bags incs (recs.length : Int) (recs.length : Int) = some (tailF kind from0 inc lo hi seq target life epoch base recs gen bags incs) := by
 rw [fit_Why.l5]
 unfold fit_Why.b5
 simp only [veil_eq]
 rw [if_neg (by simp)]
 have l1 := fun b => optL_len b 1
 have l2 := fun b => optL_len b 2
 have l3 := fun b => optL_len b 3
 have l4 := fun b => optL_len b 4
 rw [FitBytes.pure kind from0 inc lo hi seq target life epoch base recs gen hr hn, hs]
 unfold tailF
 cases h3 : decide (gen < 3)
 ·have hg1 : (gen == 1) = false := by simp at h3 ⊢; omega
  simp only [Bool.false_eq_true, if_false, if_true, hg1, Bool.false_and]
  rw [WhyC.pure _ _ _ (by simp)]
  dsimp only
  rw [WhyC.pure _ _ _ (by have := l1 false; simp; omega)]
  dsimp only
  rw [WhyC.pure _ _ _ (by have := l1 false; have := l2 false; simp; omega)]
  dsimp only
  rw [WhyC.pure _ _ _ (by have := l1 false; have := l2 false; have := l3 false; simp; omega)]
  dsimp only
  rw [WhyC.pure _ _ _ (by have := l1 false; have := l2 false; have := l3 false; have := l4 incs; simp; omega)]
  simp
 ·simp only [if_true, Bool.true_and]
  rw [WhyC.pure _ _ _ (by simp)]
  dsimp only
  rw [WhyC.pure _ _ _ (by have := l1 (kind == 9); simp; omega)]
  dsimp only
  cases hg : (gen == 1)
  ·simp only [Bool.false_eq_true, if_false, Bool.false_and]
   rw [WhyC.pure _ _ _ (by have := l1 (kind == 9); have := l2 (epoch != 0); simp; omega)]
   dsimp only
   rw [WhyC.pure _ _ _ (by have := l1 (kind == 9); have := l2 (epoch != 0); have := l3 false; simp; omega)]
   dsimp only
   rw [WhyC.pure _ _ _ (by have := l1 (kind == 9); have := l2 (epoch != 0); have := l3 false; have := l4 incs; simp; omega)]
   simp
  ·simp only [if_true, Bool.true_and]
   rw [WhyC.pure _ _ _ (by have := l1 (kind == 9); have := l2 (epoch != 0); simp; omega)]
   dsimp only
   rw [WhyC.pure _ _ _ (by have := l1 (kind == 9); have := l2 (epoch != 0); have := l3 bags; simp; omega)]
   dsimp only
   rw [WhyC.pure _ _ _ (by have := l1 (kind == 9); have := l2 (epoch != 0); have := l3 bags; have := l4 incs; simp; omega)]
   simp
theorem Why.loop (kind from0 inc lo hi seq target life epoch base : Int) (recs : LR) (gen : Int) (hs : shapedF kind from0 inc lo hi seq target life epoch base recs gen = true) (hr : smallRecs recs = true) (hn : recs.length < 1000000000) :
  ∀ (k i : Nat) (bags incs : Bool), i ≤ recs.length → recs.length - i < k →
  fit_Why.l5 BIG kind from0 inc lo hi seq target life epoch base recs gen k bags incs (recs.length : Int) (i : Int) = some (tailF kind from0 inc lo hi seq target life epoch base recs gen (bags || bagsF (recs.drop i)) (incs || incsF gen (recs.drop i))) := by
 intro k
 induction k with
 | zero => intro i bags incs h1 h2; omega
 | succ k ih =>
  intro i bags incs h1 h2
  by_cases hI : i < recs.length
  ·rw [fit_Why.l5]
   unfold fit_Why.b5
   simp only [veil_eq]
   rw [if_pos (by simp; omega), idx_at, List.getElem?_eq_getElem hI]
   dsimp only
   have hb : bagsF (recs.drop i) = (decide ((recs[i].2.2.2.2.2.length : Int) > 0) || bagsF (recs.drop (i + 1))) := by
    rw [List.drop_eq_getElem_cons hI]
    rfl
   have hc : incsF gen (recs.drop i) = (decide (recs[i].2.1 > roomF gen) || incsF gen (recs.drop (i + 1))) := by
    rw [List.drop_eq_getElem_cons hI]
    rfl
   rw [hb, hc, Room.pure, wrap_small _ (by omega) (by omega), show ((i : Int) + 1) = ((i + 1 : Nat) : Int) from by omega]
   dsimp only
   generalize recs[i] = r
   cases bags
   ·cases incs
    ·simp only [Bool.false_eq_true, if_false, Bool.false_or]
     rw [ih (i + 1) _ _ (by omega) (by omega)]
    ·simp only [Bool.false_eq_true, if_false, if_true, Bool.false_or, Bool.true_or]
     rw [ih (i + 1) _ _ (by omega) (by omega)]
     simp
   ·cases incs
    ·simp only [Bool.false_eq_true, if_false, if_true, Bool.false_or, Bool.true_or]
     rw [ih (i + 1) _ _ (by omega) (by omega)]
     simp
    ·simp only [if_true, Bool.true_or]
     rw [ih (i + 1) _ _ (by omega) (by omega)]
     simp
  ·have : i = recs.length := by omega
   subst this
   rw [Why.last kind from0 inc lo hi seq target life epoch base recs gen hs hr hn bags incs 0 k, List.drop_length]
   simp [bagsF, incsF]
theorem Why.pure (kind from0 inc lo hi seq target life epoch base : Int) (recs : LR) (gen : Int) (hr : smallRecs recs = true) : fit_Why.f BIG kind from0 inc lo hi seq target life epoch base recs gen = some (whyF kind from0 inc lo hi seq target life epoch base recs gen) := by
 unfold fit_Why.f fit_Why.b whyF
 simp only [veil_eq]
 rw [Shaped.pure kind from0 inc lo hi seq target life epoch base recs gen hr]
 cases hs : shapedF kind from0 inc lo hi seq target life epoch base recs gen
 ·rfl
 ·have hv : validF kind from0 inc lo hi seq target life epoch base recs = true := by unfold shapedF at hs; simp at hs; exact hs.1
  have hn := (valid_facts hv).2.2.2.2.2.2.2.2.2.2.2.2.1
  have := Why.loop kind from0 inc lo hi seq target life epoch base recs gen hs hr (by omega) BIG 0 false false (by omega) (by rw [BIG_eq]; omega)
  rw [show ((0 : Nat) : Int) = 0 from rfl, List.drop_zero] at this
  simp only [Bool.not_true, Bool.false_eq_true, if_false, if_true]
  rw [this]
  simp
noncomputable def fitF (kind from0 inc lo hi seq target life epoch base : Int) (recs : LR) (gen : Int) : Bool := ((whyF kind from0 inc lo hi seq target life epoch base recs gen).length : Int) == 0
theorem Fits.pure (kind from0 inc lo hi seq target life epoch base : Int) (recs : LR) (gen : Int) (hr : smallRecs recs = true) : fit_Fits.f BIG kind from0 inc lo hi seq target life epoch base recs gen = some (fitF kind from0 inc lo hi seq target life epoch base recs gen) := by
 unfold fit_Fits.f fit_Fits.b fitF
 simp only [veil_eq]
 rw [Why.pure kind from0 inc lo hi seq target life epoch base recs gen hr]
theorem optL_nil (b : Bool) (x : Int) : optL b x = [] ↔ b = false := by unfold optL; cases b <;> simp
theorem fitF_iff (kind from0 inc lo hi seq target life epoch base : Int) (recs : LR) (gen : Int) : fitF kind from0 inc lo hi seq target life epoch base recs gen = true ↔ shapedF kind from0 inc lo hi seq target life epoch base recs gen = true ∧ (gen < 3 → kind ≠ 9) ∧ (gen < 3 → epoch = 0) ∧ (gen = 1 → bagsF recs = false) ∧ incsF gen recs = false ∧ bytesF kind from0 inc lo hi seq target life epoch base recs gen ≤ 65499 := by
 unfold fitF whyF
 cases hs : shapedF kind from0 inc lo hi seq target life epoch base recs gen
 ·simp
 ·simp only [if_true, true_and]
  have e : (((tailF kind from0 inc lo hi seq target life epoch base recs gen (bagsF recs) (incsF gen recs)).length : Int) == 0) = true ↔ tailF kind from0 inc lo hi seq target life epoch base recs gen (bagsF recs) (incsF gen recs) = [] := by
   rw [beq_iff_eq]
   constructor
   ·intro h; exact List.eq_nil_of_length_eq_zero (by omega)
   ·intro h; rw [h]; rfl
  rw [e]
  unfold tailF
  rw [List.append_eq_nil_iff, List.append_eq_nil_iff, List.append_eq_nil_iff, List.append_eq_nil_iff, optL_nil, optL_nil, optL_nil, optL_nil, optL_nil]
  constructor
  ·rintro ⟨a, b, c, d, e⟩
   refine ⟨fun h => ?_, fun h => ?_, fun h => ?_, d, by simpa using e⟩
   ·simpa [h] using a
   ·simpa [h] using b
   ·simpa [h] using c
  ·rintro ⟨a, b, c, d, e⟩
   refine ⟨?_, ?_, ?_, d, by simpa using e⟩
   ·by_cases h : gen < 3
    ·simp [h, a h]
    ·simp [h]
   ·by_cases h : gen < 3
    ·simp [h, b h]
    ·simp [h]
   ·by_cases h : gen = 1
    ·simp [h, c h]
    ·simp [h]
theorem shaped_valid (kind from0 inc lo hi seq target life epoch base : Int) (recs : LR) {gen : Int} (h1 : 1 ≤ gen) (h3 : gen ≤ 3) : shapedF kind from0 inc lo hi seq target life epoch base recs gen = validF kind from0 inc lo hi seq target life epoch base recs := by
 unfold shapedF
 rw [show decide (gen ≥ 1) = true from by simpa using h1, show decide (gen ≤ 3) = true from by simpa using h3]
 simp
theorem bags_nil {recs : LR} : bagsF recs = false ↔ ∀ r ∈ recs, r.2.2.2.2.2 = [] := by
 unfold bagsF
 rw [List.any_eq_false]
 constructor
 ·intro h r hr
  have := h r hr
  exact List.eq_nil_of_length_eq_zero (by simp at this; simpa using this)
 ·intro h r hr
  rw [h r hr]
  simp
theorem incs_le {gen : Int} {recs : LR} : incsF gen recs = false ↔ ∀ r ∈ recs, r.2.1 ≤ roomF gen := by
 unfold incsF
 rw [List.any_eq_false]
 constructor
 ·intro h r hr; simpa using h r hr
 ·intro h r hr; simpa using h r hr
theorem fit1 (kind from0 inc lo hi seq target life epoch base : Int) (recs : LR) : fitF kind from0 inc lo hi seq target life epoch base recs 1 = true ↔ validF kind from0 inc lo hi seq target life epoch base recs = true ∧ kind ≠ 9 ∧ epoch = 0 ∧ (∀ r ∈ recs, r.2.2.2.2.2 = []) ∧ (∀ r ∈ recs, r.2.1 ≤ 65535) := by
 rw [fitF_iff, shaped_valid kind from0 inc lo hi seq target life epoch base recs (by omega) (by omega), bags_nil, incs_le]
 constructor
 ·rintro ⟨a, b, c, d, e, f⟩
  exact ⟨a, b (by omega), c (by omega), d rfl, e⟩
 ·rintro ⟨a, b, c, d, e⟩
  have := (valid_facts a).2.2.2.2.2.2.2.2.2.2.2.2.1
  exact ⟨a, fun _ => b, fun _ => c, fun _ => d, e, by unfold bytesF; rw [if_pos (by rfl)]; omega⟩
theorem fit2G : ∀ (recs : LR), fit2Go recs = true ↔ ∀ r ∈ recs, r.2.1 ≤ 4294967295 := fun recs => ⟨fit2_all recs, fit2_of recs⟩
theorem fit2 (kind from0 inc lo hi seq target life epoch base : Int) (recs : LR) : fitF kind from0 inc lo hi seq target life epoch base recs 2 = true ↔ fits2 kind from0 inc lo hi seq target life epoch base recs = true := by
 rw [fitF_iff, shaped_valid kind from0 inc lo hi seq target life epoch base recs (by omega) (by omega), incs_le]
 have hr : roomF 2 = 4294967295 := rfl
 have hb : bytesF kind from0 inc lo hi seq target life epoch base recs 2 = size2 kind from0 inc lo hi seq target life epoch base recs := rfl
 rw [hr, hb]
 constructor
 ·rintro ⟨a, b, c, d, e, f⟩
  obtain rfl := c (by omega)
  unfold fits2
  rw [a, if_neg, (fit2G recs).2 e]
  simp [b (by omega)]
  omega
 ·intro h
  obtain ⟨a, b, c, d, e⟩ := fits2_facts h
  exact ⟨a, fun _ => b, fun _ => c, fun h => by omega, (fit2G recs).1 e, d⟩
theorem fit3 (kind from0 inc lo hi seq target life epoch base : Int) (recs : LR) : fitF kind from0 inc lo hi seq target life epoch base recs 3 = true ↔ validF kind from0 inc lo hi seq target life epoch base recs = true ∧ size3 kind from0 inc lo hi seq target life epoch base recs [] ≤ 65499 := by
 rw [fitF_iff, shaped_valid kind from0 inc lo hi seq target life epoch base recs (by omega) (by omega), incs_le]
 have hr : roomF 3 = 281474976710655 := rfl
 have hb : bytesF kind from0 inc lo hi seq target life epoch base recs 3 = size3 kind from0 inc lo hi seq target life epoch base recs [] := rfl
 rw [hr, hb]
 constructor
 ·rintro ⟨a, _, _, _, _, f⟩
  exact ⟨a, f⟩
 ·rintro ⟨a, f⟩
  exact ⟨a, fun h => by omega, fun h => by omega, fun h => by omega, fun r hr => (recOk_facts ((valid_facts a).2.2.2.2.2.2.2.2.2.2.2.2.2 r hr)).2.2.2.1, f⟩
theorem fitGo_iff : ∀ (recs : LR), fitGo recs = true ↔ ∀ r ∈ recs, r.2.1 ≤ 65535 ∧ r.2.2.2.2.2 = []
 | [] => by simp [fitGo]
 | r :: recs => by
  rw [fitGo]
  have ih := fitGo_iff recs
  by_cases h1 : r.2.1 > 65535
  ·rw [if_pos (by simp [h1])]
   constructor
   ·intro h; cases h
   ·intro h
    have := (h r (by simp)).1
    omega
  ·by_cases h2 : r.2.2.2.2.2 = []
   ·rw [if_neg (by simp [h1, h2]), ih]
    constructor
    ·intro h x hx
     rcases List.mem_cons.1 hx with rfl | hx
     ·exact ⟨by omega, h2⟩
     ·exact h x hx
    ·intro h x hx; exact h x (by simp [hx])
   ·have : 0 < r.2.2.2.2.2.length := by
     cases hb : r.2.2.2.2.2 with
     | nil => exact absurd hb h2
     | cons a b => simp
    rw [if_pos (by simp; omega)]
    constructor
    ·intro h; cases h
    ·intro h; exact absurd (h r (by simp)).2 h2
theorem fit1E (kind from0 inc lo hi seq target life epoch base : Int) (recs : LR) : fitF kind from0 inc lo hi seq target life epoch base recs 1 = fits1 kind from0 inc lo hi seq target life epoch base recs := by
 have h : fitF kind from0 inc lo hi seq target life epoch base recs 1 = true ↔ fits1 kind from0 inc lo hi seq target life epoch base recs = true := by
  rw [fit1]
  unfold fits1
  cases hv : validF kind from0 inc lo hi seq target life epoch base recs
  ·simp
  ·by_cases h9 : kind = 9
   ·simp [h9]
   ·by_cases he : epoch = 0
    ·rw [if_neg (by simp [h9, he]), fitGo_iff]
     constructor
     ·rintro ⟨_, _, _, a, b⟩ r hr; exact ⟨b r hr, a r hr⟩
     ·intro h; exact ⟨rfl, h9, he, fun r hr => (h r hr).2, fun r hr => (h r hr).1⟩
    ·simp [he]
 cases h1 : fitF kind from0 inc lo hi seq target life epoch base recs 1 <;> cases h2 : fits1 kind from0 inc lo hi seq target life epoch base recs <;> simp [h1, h2] at h <;> rfl
theorem fit2E (kind from0 inc lo hi seq target life epoch base : Int) (recs : LR) : fitF kind from0 inc lo hi seq target life epoch base recs 2 = fits2 kind from0 inc lo hi seq target life epoch base recs := by
 have h := fit2 kind from0 inc lo hi seq target life epoch base recs
 cases h1 : fitF kind from0 inc lo hi seq target life epoch base recs 2 <;> cases h2 : fits2 kind from0 inc lo hi seq target life epoch base recs <;> simp [h1, h2] at h <;> rfl
noncomputable def readX (gen : Int) (b : List Int) (base : LR) : M12 :=
 if gen == 1 then ((decF b).1, (decF b).2.1, (decF b).2.2.1, (decF b).2.2.2.1, (decF b).2.2.2.2.1, (decF b).2.2.2.2.2.1, (decF b).2.2.2.2.2.2.1, 0, 0, 0, (decF b).2.2.2.2.2.2.2.1, (decF b).2.2.2.2.2.2.2.2)
 else if gen == 2 then ((decF2 b).1, (decF2 b).2.1, (decF2 b).2.2.1, (decF2 b).2.2.2.1, (decF2 b).2.2.2.2.1, (decF2 b).2.2.2.2.2.1, (decF2 b).2.2.2.2.2.2.1, 0, 0, 0, (decF2 b).2.2.2.2.2.2.2.1, (decF2 b).2.2.2.2.2.2.2.2)
 else if gen == 3 then dec3 b base else z12 5
noncomputable def writeX (gen : Int) (k f i lo hi s t l e b : Int) (recs base : LR) : List Int × Int :=
 if gen == 1 then encF k f i lo hi s t l e b recs else if gen == 2 then enc2 k f i lo hi s t l e b recs else if gen == 3 then enc3 k f i lo hi s t l e b recs base else ([], 5)
noncomputable def peekX (gen : Int) (b : List Int) : M12 := if gen == 3 then head3X b else bareX (readX gen b [])
noncomputable def putX (gen : Int) (m : M12) (base : LR) : List Int × Int :=
 writeX gen m.1 m.2.1 m.2.2.1 m.2.2.2.1 m.2.2.2.2.1 m.2.2.2.2.2.1 m.2.2.2.2.2.2.1 m.2.2.2.2.2.2.2.1 m.2.2.2.2.2.2.2.2.1 m.2.2.2.2.2.2.2.2.2.1 m.2.2.2.2.2.2.2.2.2.2.1 base
noncomputable def shiftX (from0 to0 : Int) (b : List Int) : List Int × Int :=
 if from0 < 1 ∨ from0 > 3 ∨ to0 < 1 ∨ to0 > 3 then ([], 5)
 else if errX (peekX from0 b) ≠ 0 then ([], errX (peekX from0 b))
 else if baseX (peekX from0 b) ≠ 0 then ([], 12)
 else if errX (readX from0 b []) ≠ 0 then ([], errX (readX from0 b []))
 else putX to0 (readX from0 b []) []
theorem smallR_of {recs : LR} (hr : ∀ r ∈ recs, recOkT r = true) (hn : recs.length < 1000000000) : smallRecs recs = true :=
 (smallRecs_iff _).2 ⟨by omega, fun r h => by
  have := (recOk_facts (hr r h)).2.2.2.2.2.2.2.1
  have h1 := bagOk_len this
  exact (smallBag_iff _).2 ⟨by omega, fun x hx => by have := bag_tags this x hx; omega⟩⟩
theorem valid_small {k f i lo hi s t l e b : Int} {recs : LR} (h : validF k f i lo hi s t l e b recs = true) : smallRecs recs = true := by
 have := valid_facts h
 exact smallR_of this.2.2.2.2.2.2.2.2.2.2.2.2.2 (by have := this.2.2.2.2.2.2.2.2.2.2.2.2.1; omega)
theorem readX_ok {gen : Int} {b : List Int} {base : LR} (hb : ∀ c ∈ b, 0 ≤ c ∧ c ≤ 255) (hl : b.length < 1000000000) (h : errX (readX gen b base) = 0) :
  validX (readX gen b base) ∧ putX gen (readX gen b base) base = (b, 0) ∧ 1 ≤ gen ∧ gen ≤ 3 := by
 unfold readX at h ⊢
 by_cases h1 : gen = 1
 ·subst h1
  rw [if_pos (by simp)] at h ⊢
  obtain ⟨i1, i2, i3⟩ := image b ((inB_iff b).2 ⟨by omega, hb⟩) h
  have hv := (fits_facts (by rw [← fits_same]; exact i1)).1
  refine ⟨hv, ?_, by omega, by omega⟩
  unfold putX writeX
  rw [if_pos (by simp)]
  dsimp only
  unfold encF
  rw [hv, i1, i2]
  all_goals rfl
 ·rw [if_neg (by simpa using h1)] at h ⊢
  by_cases h2 : gen = 2
  ·subst h2
   rw [if_pos (by simp)] at h ⊢
   obtain ⟨i1, i2, i3⟩ := image2 b (inS_of hb hl) h
   have hv := (fits2_facts i1).1
   refine ⟨hv, ?_, by omega, by omega⟩
   unfold putX writeX
   rw [if_neg (by simp), if_pos (by simp)]
   dsimp only
   unfold enc2
   rw [hv, i1, i2]
   all_goals rfl
  ·rw [if_neg (by simpa using h2)] at h ⊢
   by_cases h3 : gen = 3
   ·subst h3
    rw [if_pos (by simp)] at h ⊢
    obtain ⟨d1, d2, d3⟩ := dec3_ok hb h
    refine ⟨d1, ?_, by omega, by omega⟩
    unfold putX writeX
    rw [if_neg (by simp), if_neg (by simp), if_pos (by simp)]
    exact d2
   ·rw [if_neg (by simpa using h3)] at h
    exact absurd h (by unfold errX z12; decide)
theorem readX_no {gen : Int} {b : List Int} {base : LR} (h : errX (readX gen b base) ≠ 0) : readX gen b base = z12 (errX (readX gen b base)) := by
 unfold readX at h ⊢
 by_cases h1 : gen = 1
 ·subst h1
  rw [if_pos (by simp)] at h ⊢
  rw [dec_fail b h]; all_goals rfl
 ·rw [if_neg (by simpa using h1)] at h ⊢
  by_cases h2 : gen = 2
  ·subst h2
   rw [if_pos (by simp)] at h ⊢
   rw [dec2_fail b h]; all_goals rfl
  ·rw [if_neg (by simpa using h2)] at h ⊢
   by_cases h3 : gen = 3
   ·subst h3
    rw [if_pos (by simp)] at h ⊢
    exact dec3_no h
   ·rw [if_neg (by simpa using h3)]; all_goals rfl
theorem readX_small {gen : Int} {b : List Int} {base : LR} (hb : ∀ c ∈ b, 0 ≤ c ∧ c ≤ 255) (hl : b.length < 1000000000) : smallRecs (recsX (readX gen b base)) = true := by
 by_cases h : errX (readX gen b base) = 0
 ·exact valid_small (readX_ok hb hl h).1
 ·rw [readX_no h]; all_goals rfl
theorem gen_cases {gen : Int} (P : Int → Prop) (h1 : P 1) (h2 : P 2) (h3 : P 3) (h0 : gen ≠ 1 → gen ≠ 2 → gen ≠ 3 → P gen) : P gen := by
 by_cases e1 : gen = 1
 ·subst e1; exact h1
 ·by_cases e2 : gen = 2
  ·subst e2; exact h2
  ·by_cases e3 : gen = 3
   ·subst e3; exact h3
   ·exact h0 e1 e2 e3
theorem writeX1 (k f i lo hi s t l e b : Int) (recs base : LR) : writeX 1 k f i lo hi s t l e b recs base = encF k f i lo hi s t l e b recs := rfl
theorem writeX2 (k f i lo hi s t l e b : Int) (recs base : LR) : writeX 2 k f i lo hi s t l e b recs base = enc2 k f i lo hi s t l e b recs := rfl
theorem writeX3 (k f i lo hi s t l e b : Int) (recs base : LR) : writeX 3 k f i lo hi s t l e b recs base = enc3 k f i lo hi s t l e b recs base := rfl
theorem writeX0 {gen : Int} (h1 : gen ≠ 1) (h2 : gen ≠ 2) (h3 : gen ≠ 3) (k f i lo hi s t l e b : Int) (recs base : LR) : writeX gen k f i lo hi s t l e b recs base = ([], 5) := by
 unfold writeX
 rw [if_neg (by simpa using h1), if_neg (by simpa using h2), if_neg (by simpa using h3)]
theorem readX1 (b : List Int) (base : LR) : readX 1 b base = ((decF b).1, (decF b).2.1, (decF b).2.2.1, (decF b).2.2.2.1, (decF b).2.2.2.2.1, (decF b).2.2.2.2.2.1, (decF b).2.2.2.2.2.2.1, 0, 0, 0, (decF b).2.2.2.2.2.2.2.1, (decF b).2.2.2.2.2.2.2.2) := rfl
theorem readX2 (b : List Int) (base : LR) : readX 2 b base = ((decF2 b).1, (decF2 b).2.1, (decF2 b).2.2.1, (decF2 b).2.2.2.1, (decF2 b).2.2.2.2.1, (decF2 b).2.2.2.2.2.1, (decF2 b).2.2.2.2.2.2.1, 0, 0, 0, (decF2 b).2.2.2.2.2.2.2.1, (decF2 b).2.2.2.2.2.2.2.2) := rfl
theorem readX3 (b : List Int) (base : LR) : readX 3 b base = dec3 b base := rfl
theorem enc1_ok {k f i lo hi s t l e b : Int} {recs : LR} (h : (encF k f i lo hi s t l e b recs).2 = 0) : validF k f i lo hi s t l e b recs = true ∧ fits1 k f i lo hi s t l e b recs = true ∧ l = 0 ∧ e = 0 ∧ b = 0 ∧ encF k f i lo hi s t l e b recs = (bodyF k f i lo hi s t recs, 0) := by
 unfold encF at h ⊢
 cases hv : validF k f i lo hi s t l e b recs with
 | false => rw [hv] at h; exact absurd h (by simp)
 | true =>
  rw [hv] at h
  cases hf : fits1 k f i lo hi s t l e b recs with
  | false => rw [hf] at h; exact absurd h (by simp)
  | true =>
   have hf' := hf
   rw [fits_same] at hf'
   obtain ⟨h1, h2, h3⟩ := fitsL_zero hf'
   exact ⟨rfl, rfl, h1, h2, h3, rfl⟩
theorem enc2_ok {k f i lo hi s t l e b : Int} {recs : LR} (h : (enc2 k f i lo hi s t l e b recs).2 = 0) : validF k f i lo hi s t l e b recs = true ∧ k ≠ 9 ∧ l = 0 ∧ e = 0 ∧ b = 0 ∧ fit2Go recs = true ∧ (body2 k f i lo hi s t recs).length ≤ 65499 ∧ enc2 k f i lo hi s t l e b recs = (body2 k f i lo hi s t recs, 0) := by
 unfold enc2 at h ⊢
 cases hv : validF k f i lo hi s t l e b recs with
 | false => rw [hv] at h; exact absurd h (by simp)
 | true =>
  rw [hv] at h
  cases hf : fits2 k f i lo hi s t l e b recs with
  | false => rw [hf] at h; exact absurd h (by simp)
  | true =>
   have hf' := hf
   rw [fits2_same] at hf'
   obtain ⟨_, h9, h1, h2, h3, h2', hlen⟩ := fits13_facts hf'
   exact ⟨rfl, h9, h1, h2, h3, h2', hlen, rfl⟩
theorem write_back {gen : Int} {k f i lo hi s t l e b : Int} {recs base : LR} (hbase : gen = 3 → sortedF base = true) (h : (writeX gen k f i lo hi s t l e b recs base).2 = 0) :
  readX gen (writeX gen k f i lo hi s t l e b recs base).1 base = (k, f, i, lo, hi, s, t, l, e, b, recs, 0) ∧ validF k f i lo hi s t l e b recs = true ∧ (writeX gen k f i lo hi s t l e b recs base).1.length ≤ 65499 ∧ 1 ≤ gen ∧ gen ≤ 3 := by
 revert hbase h
 refine gen_cases (gen := gen) (fun gen => (gen = 3 → sortedF base = true) → (writeX gen k f i lo hi s t l e b recs base).2 = 0 → readX gen (writeX gen k f i lo hi s t l e b recs base).1 base = (k, f, i, lo, hi, s, t, l, e, b, recs, 0) ∧ validF k f i lo hi s t l e b recs = true ∧ (writeX gen k f i lo hi s t l e b recs base).1.length ≤ 65499 ∧ 1 ≤ gen ∧ gen ≤ 3) ?_ ?_ ?_ ?_
 ·intro _ h
  rw [writeX1] at h ⊢
  obtain ⟨hv, hf, rfl, rfl, rfl, he⟩ := enc1_ok h
  rw [readX1, he]
  dsimp only
  rw [back k f i lo hi s t recs hf]
  have := body_len k f i lo hi s t recs
  have hlen := (valid_facts hv).2.2.2.2.2.2.2.2.2.2.2.2.1
  exact ⟨rfl, hv, by omega, by omega, by omega⟩
 ·intro _ h
  rw [writeX2] at h ⊢
  obtain ⟨hv, h9, rfl, rfl, rfl, h2, hl, he⟩ := enc2_ok h
  rw [readX2, he]
  dsimp only
  rw [back2 hv h9 h2 hl]
  exact ⟨rfl, hv, hl, by omega, by omega⟩
 ·intro hs h
  rw [writeX3] at h ⊢
  rw [readX3]
  obtain ⟨q1, q2, q3⟩ := enc3_back (hs rfl) h
  exact ⟨q1, q2, q3, by omega, by omega⟩
 ·intro h1 h2 h3 _ h
  rw [writeX0 h1 h2 h3] at h
  exact absurd h (by simp)
noncomputable def gen3_Decode_E : Env := ⟨th, gam [(20, s_valid), (21, s_sorted), (50, s_has), (71, s_read), (72, s_gen3_reader_headR), (74, s_gen3_reader_form), (75, s_gen3_reader_one), (76, s_done)], fun i => if i = 11 then ⟨[0, 1, 4, 6, 7, 8, 9, 10], [(1458, 61, (.pair (.int .i64) (.pair (.int .i64) (.pair (.int .i64) (.pair (.pair (.int .i64) (.int .i64)) (.pair .bool (.sl (.pair (.int .i64) (.sl (.int .u8)))))))))), (1, 60, (.pair (.int .i64) (.pair (.int .i64) (.pair (.int .i64) (.pair (.pair (.int .i64) (.int .i64)) (.pair .bool (.sl (.pair (.int .i64) (.sl (.int .u8))))))))))], [1]⟩ else ⟨[], [], []⟩⟩
noncomputable def gen3_Decode.k (rs : List AV) (os : List Den.Obj) : Option (Int × Int × Int × Int × Int × Int × Int × Int × Int × Int × LR × Int) :=
 match rs, os with
 | [.agg [.d (.int .i64) r0, .d (.int .i64) r1, .d (.int .i64) r2, .d (.int .i64) r3, .d (.int .i64) r4, .d (.int .i64) r5, .d (.int .i64) r6, .d (.int .i64) r7, .d (.int .i64) r8, .d (.int .i64) r9, .d (.sl (.pair (.int .i64) (.pair (.int .i64) (.pair (.int .i64) (.pair (.pair (.int .i64) (.int .i64)) (.pair .bool (.sl (.pair (.int .i64) (.sl (.int .u8)))))))))) r10], .d (.int .i64) r11], [] => some (r0, r1, r2, r3, r4, r5, r6, r7, r8, r9, r10, r11)
 | _, _ => none
noncomputable def gen3_Decode.s11 (b : List Int) (base : LR) (x2 : LR) (x3 : Int) (x4 : Int) (x5 : Int) (x6 : Bool) (x7 : (List Int)) (x8 : Int) (x9 : Bool) (x10 : Int) (x11 : Int) (x12 : Int) (x13 : Int) (x14 : Int) (x15 : Int) (x16 : Int) (x17 : Int) (x18 : Int) (x19 : Int) (x20 : LR) : St := ⟨[.d (.sl (.int .u8)) (b), .d (.sl (.pair (.int .i64) (.pair (.int .i64) (.pair (.int .i64) (.pair (.pair (.int .i64) (.int .i64)) (.pair .bool (.sl (.pair (.int .i64) (.sl (.int .u8)))))))))) x2, .dead, .dead, .ptr 64 0, .dead, .ptr 65 0, .ptr 67 0, .d (.int .i64) x3, .d (.int .i64) x4, .d (.int .i64) x5, .dead, .dead, .dead, .dead, .dead, .dead, .dead, .dead, .dead, .dead, .dead, .dead, .dead, .dead, .dead, .dead, .dead, .dead, .dead, .dead, .dead, .dead, .dead, .dead, .dead, .dead, .dead, .dead, .dead, .dead, .dead, .dead, .dead, .dead, .dead, .dead, .dead, .dead, .dead, .dead, .dead, .dead, .dead, .dead, .dead, .dead, .dead, .dead, .dead, .dead, .dead, .dead, .dead, .dead, .dead, .dead, .dead, .dead, .dead, .dead, .dead, .dead, .dead, .dead, .dead, .dead, .dead], ofL [(64, .box [.d (.int .i64) (0), .d (.int .i64) (0), .d (.int .i64) (0), .d (.int .i64) (0), .d (.int .i64) (0), .d (.int .i64) (0), .d (.int .i64) (0), .d (.int .i64) (0), .d (.int .i64) (0), .d (.int .i64) (0), .nilsl]), (65, .box [.ptr 66 0, .d .bool x6]), (66, .box [.d (.sl (.int .u8)) x7, .d (.int .i64) x8, .d .bool x9]), (67, .box [.d (.int .i64) x10, .d (.int .i64) x11, .d (.int .i64) x12, .d (.int .i64) x13, .d (.int .i64) x14, .d (.int .i64) x15, .d (.int .i64) x16, .d (.int .i64) x17, .d (.int .i64) x18, .d (.int .i64) x19, .row 68]), (68, .row 61 (.pair (.int .i64) (.pair (.int .i64) (.pair (.int .i64) (.pair (.pair (.int .i64) (.int .i64)) (.pair .bool (.sl (.pair (.int .i64) (.sl (.int .u8))))))))) x20 false)], 0⟩
noncomputable def gen3_Decode.b11 (b : List Int) (base : LR) (A11 : LR → Int → Int → Int → Bool → (List Int) → Int → Bool → Int → Int → Int → Int → Int → Int → Int → Int → Int → Int → LR → Option (Int × Int × Int × Int × Int × Int × Int × Int × Int × Int × LR × Int)) (x2 : LR) (x3 : Int) (x4 : Int) (x5 : Int) (x6 : Bool) (x7 : (List Int)) (x8 : Int) (x9 : Bool) (x10 : Int) (x11 : Int) (x12 : Int) (x13 : Int) (x14 : Int) (x15 : Int) (x16 : Int) (x17 : Int) (x18 : Int) (x19 : Int) (x20 : LR) : Option (Int × Int × Int × Int × Int × Int × Int × Int × Int × Int × LR × Int) :=
 (if (decide (x5 < x3)) then (if (!x6) then (match (veil (gen3_reader_one.f BIG x7 x8 x9 x6 x4 x2)) with | none => none | some y21 => (if ((((List.length x20) + (List.length ((y21.1, (y21.2.1, (y21.2.2.1, ((y21.2.2.2.1, y21.2.2.2.2.1), (y21.2.2.2.2.2.1, y21.2.2.2.2.2.2.1))))) :: ([] : LR)))) * (72 : Nat)) ≤ lim) then A11 x2 x3 y21.1 (Go.IntKind.wrap .i64 (x5 + (1 : Int))) y21.2.2.2.2.2.2.2.1 y21.2.2.2.2.2.2.2.2.1 y21.2.2.2.2.2.2.2.2.2.1 y21.2.2.2.2.2.2.2.2.2.2 x10 x11 x12 x13 x14 x15 x16 x17 x18 x19 (x20 ++ ((y21.1, (y21.2.1, (y21.2.2.1, ((y21.2.2.2.1, y21.2.2.2.2.1), (y21.2.2.2.2.2.1, y21.2.2.2.2.2.2.1))))) :: ([] : LR))) else none)) else (if x6 then some (0, 0, 0, 0, 0, 0, 0, 0, 0, 0, ([] : LR), (4 : Int)) else (if (atOk x7 x8) then (if (!((!x9) && ((leftF x7 x8 x9) == (0 : Int)))) then some (0, 0, 0, 0, 0, 0, 0, 0, 0, 0, ([] : LR), (4 : Int)) else (if (decide (((((List.length b)) : Nat) : Int) > (65499 : Int))) then some (0, 0, 0, 0, 0, 0, 0, 0, 0, 0, ([] : LR), (4 : Int)) else (if (smallRecs x20) then (if (!(validF x10 x11 x12 x13 x14 x15 x16 x17 x18 x19 x20)) then some (0, 0, 0, 0, 0, 0, 0, 0, 0, 0, ([] : LR), (4 : Int)) else some (x10, x11, x12, x13, x14, x15, x16, x17, x18, x19, x20, (0 : Int))) else none))) else none))) else (if x6 then some (0, 0, 0, 0, 0, 0, 0, 0, 0, 0, ([] : LR), (4 : Int)) else (if (atOk x7 x8) then (if (!((!x9) && ((leftF x7 x8 x9) == (0 : Int)))) then some (0, 0, 0, 0, 0, 0, 0, 0, 0, 0, ([] : LR), (4 : Int)) else (if (decide (((((List.length b)) : Nat) : Int) > (65499 : Int))) then some (0, 0, 0, 0, 0, 0, 0, 0, 0, 0, ([] : LR), (4 : Int)) else (if (smallRecs x20) then (if (!(validF x10 x11 x12 x13 x14 x15 x16 x17 x18 x19 x20)) then some (0, 0, 0, 0, 0, 0, 0, 0, 0, 0, ([] : LR), (4 : Int)) else some (x10, x11, x12, x13, x14, x15, x16, x17, x18, x19, x20, (0 : Int))) else none))) else none)))
noncomputable def gen3_Decode.l11 (fuel : Nat) (b : List Int) (base : LR) : Nat → LR → Int → Int → Int → Bool → (List Int) → Int → Bool → Int → Int → Int → Int → Int → Int → Int → Int → Int → Int → LR → Option (Int × Int × Int × Int × Int × Int × Int × Int × Int × Int × LR × Int)
 | 0, _, _, _, _, _, _, _, _, _, _, _, _, _, _, _, _, _, _, _ => none
 | k + 1, x2, x3, x4, x5, x6, x7, x8, x9, x10, x11, x12, x13, x14, x15, x16, x17, x18, x19, x20 => gen3_Decode.b11 b base (gen3_Decode.l11 fuel b base k) x2 x3 x4 x5 x6 x7 x8 x9 x10 x11 x12 x13 x14 x15 x16 x17 x18 x19 x20
noncomputable def gen3_Decode.b (b : List Int) (base : LR) (E11 : LR → Int → Int → Int → Bool → (List Int) → Int → Bool → Int → Int → Int → Int → Int → Int → Int → Int → Int → Int → LR → Option (Int × Int × Int × Int × Int × Int × Int × Int × Int × Int × LR × Int)) : Option (Int × Int × Int × Int × Int × Int × Int × Int × Int × Int × LR × Int) :=
 (if (smallRecs base) then (if (!(sortedF base)) then some (0, 0, 0, 0, 0, 0, 0, 0, 0, 0, ([] : LR), (1 : Int)) else (if (inB b) then (match (veil (gen3_reader_headR.f BIG b 0 false false)) with | none => none | some y0 => (if (y0.2.2.2.2.2.2.2.2.2.1 == (0 : Int)) then (if (hasF y0.1 (4 : Int)) then (match (veil (gen3_reader_form.f BIG y0.2.2.2.2.2.2.2.2.2.2.2.1 y0.2.2.2.2.2.2.2.2.2.2.2.2.1 y0.2.2.2.2.2.2.2.2.2.2.2.2.2 y0.2.2.2.2.2.2.2.2.2.2.1 (255 : Int))) with | none => none | some y1 => E11 ([] : LR) y1.1 (-(1 : Int)) (0 : Int) y1.2.1 y1.2.2.1 y1.2.2.2.1 y1.2.2.2.2 y0.1 y0.2.1 y0.2.2.1 y0.2.2.2.1 y0.2.2.2.2.1 y0.2.2.2.2.2.1 y0.2.2.2.2.2.2.1 y0.2.2.2.2.2.2.2.1 y0.2.2.2.2.2.2.2.2.1 y0.2.2.2.2.2.2.2.2.2.1 ([] : LR)) else (if y0.2.2.2.2.2.2.2.2.2.2.1 then some (0, 0, 0, 0, 0, 0, 0, 0, 0, 0, ([] : LR), (4 : Int)) else (if (atOk y0.2.2.2.2.2.2.2.2.2.2.2.1 y0.2.2.2.2.2.2.2.2.2.2.2.2.1) then (if (!((!y0.2.2.2.2.2.2.2.2.2.2.2.2.2) && ((leftF y0.2.2.2.2.2.2.2.2.2.2.2.1 y0.2.2.2.2.2.2.2.2.2.2.2.2.1 y0.2.2.2.2.2.2.2.2.2.2.2.2.2) == (0 : Int)))) then some (0, 0, 0, 0, 0, 0, 0, 0, 0, 0, ([] : LR), (4 : Int)) else (if (decide (((((List.length b)) : Nat) : Int) > (65499 : Int))) then some (0, 0, 0, 0, 0, 0, 0, 0, 0, 0, ([] : LR), (4 : Int)) else (if (!(validF y0.1 y0.2.1 y0.2.2.1 y0.2.2.2.1 y0.2.2.2.2.1 y0.2.2.2.2.2.1 y0.2.2.2.2.2.2.1 y0.2.2.2.2.2.2.2.1 y0.2.2.2.2.2.2.2.2.1 y0.2.2.2.2.2.2.2.2.2.1 ([] : LR))) then some (0, 0, 0, 0, 0, 0, 0, 0, 0, 0, ([] : LR), (4 : Int)) else some (y0.1, y0.2.1, y0.2.2.1, y0.2.2.2.1, y0.2.2.2.2.1, y0.2.2.2.2.2.1, y0.2.2.2.2.2.2.1, y0.2.2.2.2.2.2.2.1, y0.2.2.2.2.2.2.2.2.1, y0.2.2.2.2.2.2.2.2.2.1, ([] : LR), (0 : Int))))) else none))) else (if (hasF y0.1 (4 : Int)) then (match (veil (gen3_reader_form.f BIG y0.2.2.2.2.2.2.2.2.2.2.2.1 y0.2.2.2.2.2.2.2.2.2.2.2.2.1 y0.2.2.2.2.2.2.2.2.2.2.2.2.2 y0.2.2.2.2.2.2.2.2.2.2.1 (255 : Int))) with | none => none | some y22 => E11 base y22.1 (-(1 : Int)) (0 : Int) y22.2.1 y22.2.2.1 y22.2.2.2.1 y22.2.2.2.2 y0.1 y0.2.1 y0.2.2.1 y0.2.2.2.1 y0.2.2.2.2.1 y0.2.2.2.2.2.1 y0.2.2.2.2.2.2.1 y0.2.2.2.2.2.2.2.1 y0.2.2.2.2.2.2.2.2.1 y0.2.2.2.2.2.2.2.2.2.1 ([] : LR)) else (if y0.2.2.2.2.2.2.2.2.2.2.1 then some (0, 0, 0, 0, 0, 0, 0, 0, 0, 0, ([] : LR), (4 : Int)) else (if (atOk y0.2.2.2.2.2.2.2.2.2.2.2.1 y0.2.2.2.2.2.2.2.2.2.2.2.2.1) then (if (!((!y0.2.2.2.2.2.2.2.2.2.2.2.2.2) && ((leftF y0.2.2.2.2.2.2.2.2.2.2.2.1 y0.2.2.2.2.2.2.2.2.2.2.2.2.1 y0.2.2.2.2.2.2.2.2.2.2.2.2.2) == (0 : Int)))) then some (0, 0, 0, 0, 0, 0, 0, 0, 0, 0, ([] : LR), (4 : Int)) else (if (decide (((((List.length b)) : Nat) : Int) > (65499 : Int))) then some (0, 0, 0, 0, 0, 0, 0, 0, 0, 0, ([] : LR), (4 : Int)) else (if (!(validF y0.1 y0.2.1 y0.2.2.1 y0.2.2.2.1 y0.2.2.2.2.1 y0.2.2.2.2.2.1 y0.2.2.2.2.2.2.1 y0.2.2.2.2.2.2.2.1 y0.2.2.2.2.2.2.2.2.1 y0.2.2.2.2.2.2.2.2.2.1 ([] : LR))) then some (0, 0, 0, 0, 0, 0, 0, 0, 0, 0, ([] : LR), (4 : Int)) else some (y0.1, y0.2.1, y0.2.2.1, y0.2.2.2.1, y0.2.2.2.2.1, y0.2.2.2.2.2.1, y0.2.2.2.2.2.2.1, y0.2.2.2.2.2.2.2.1, y0.2.2.2.2.2.2.2.2.1, y0.2.2.2.2.2.2.2.2.2.1, ([] : LR), (0 : Int))))) else none))))) else none)) else none)
noncomputable def gen3_Decode.f (fuel : Nat) (b : List Int) (base : LR) : Option (Int × Int × Int × Int × Int × Int × Int × Int × Int × Int × LR × Int) := gen3_Decode.b b base (gen3_Decode.l11 fuel b base fuel)
theorem gen3_Decode.l11_eq (fuel : Nat) (b : List Int) (base : LR) : ∀ (k : Nat) (x2 : LR) (x3 : Int) (x4 : Int) (x5 : Int) (x6 : Bool) (x7 : (List Int)) (x8 : Int) (x9 : Bool) (x10 : Int) (x11 : Int) (x12 : Int) (x13 : Int) (x14 : Int) (x15 : Int) (x16 : Int) (x17 : Int) (x18 : Int) (x19 : Int) (x20 : LR), lp gen3_Decode_E fuel Try.f29 [.dat (.pair (.int .i64) (.pair (.int .i64) (.pair (.int .i64) (.pair (.pair (.int .i64) (.int .i64)) (.pair (.int .i64) (.pair (.int .i64) (.pair (.int .i64) (.pair (.int .i64) (.pair (.int .i64) (.sl (.pair (.int .i64) (.pair (.int .i64) (.pair (.int .i64) (.pair (.pair (.int .i64) (.int .i64)) (.pair .bool (.sl (.pair (.int .i64) (.sl (.int .u8))))))))))))))))))) true, .raw] 0 gen3_Decode.k 11 [] k (gen3_Decode.s11 b base x2 x3 x4 x5 x6 x7 x8 x9 x10 x11 x12 x13 x14 x15 x16 x17 x18 x19 x20) = gen3_Decode.l11 fuel b base k x2 x3 x4 x5 x6 x7 x8 x9 x10 x11 x12 x13 x14 x15 x16 x17 x18 x19 x20 := by
 intro k
 induction k with
 | zero => intro x2 x3 x4 x5 x6 x7 x8 x9 x10 x11 x12 x13 x14 x15 x16 x17 x18 x19 x20; rfl
 | succ k ih =>
  intro x2 x3 x4 x5 x6 x7 x8 x9 x10 x11 x12 x13 x14 x15 x16 x17 x18 x19 x20
  have h : lp gen3_Decode_E fuel Try.f29 [.dat (.pair (.int .i64) (.pair (.int .i64) (.pair (.int .i64) (.pair (.pair (.int .i64) (.int .i64)) (.pair (.int .i64) (.pair (.int .i64) (.pair (.int .i64) (.pair (.int .i64) (.pair (.int .i64) (.sl (.pair (.int .i64) (.pair (.int .i64) (.pair (.int .i64) (.pair (.pair (.int .i64) (.int .i64)) (.pair .bool (.sl (.pair (.int .i64) (.sl (.int .u8))))))))))))))))))) true, .raw] 0 gen3_Decode.k 11 [] (k + 1) (gen3_Decode.s11 b base x2 x3 x4 x5 x6 x7 x8 x9 x10 x11 x12 x13 x14 x15 x16 x17 x18 x19 x20) = gen3_Decode.b11 b base (fun x2 x3 x4 x5 x6 x7 x8 x9 x10 x11 x12 x13 x14 x15 x16 x17 x18 x19 x20 => lp gen3_Decode_E fuel Try.f29 [.dat (.pair (.int .i64) (.pair (.int .i64) (.pair (.int .i64) (.pair (.pair (.int .i64) (.int .i64)) (.pair (.int .i64) (.pair (.int .i64) (.pair (.int .i64) (.pair (.int .i64) (.pair (.int .i64) (.sl (.pair (.int .i64) (.pair (.int .i64) (.pair (.int .i64) (.pair (.pair (.int .i64) (.int .i64)) (.pair .bool (.sl (.pair (.int .i64) (.sl (.int .u8))))))))))))))))))) true, .raw] 0 gen3_Decode.k 11 [] k (gen3_Decode.s11 b base x2 x3 x4 x5 x6 x7 x8 x9 x10 x11 x12 x13 x14 x15 x16 x17 x18 x19 x20)) x2 x3 x4 x5 x6 x7 x8 x9 x10 x11 x12 x13 x14 x15 x16 x17 x18 x19 x20 := by kernel_rfl
  rw [h]
  have e11 : (fun x2 x3 x4 x5 x6 x7 x8 x9 x10 x11 x12 x13 x14 x15 x16 x17 x18 x19 x20 => lp gen3_Decode_E fuel Try.f29 [.dat (.pair (.int .i64) (.pair (.int .i64) (.pair (.int .i64) (.pair (.pair (.int .i64) (.int .i64)) (.pair (.int .i64) (.pair (.int .i64) (.pair (.int .i64) (.pair (.int .i64) (.pair (.int .i64) (.sl (.pair (.int .i64) (.pair (.int .i64) (.pair (.int .i64) (.pair (.pair (.int .i64) (.int .i64)) (.pair .bool (.sl (.pair (.int .i64) (.sl (.int .u8))))))))))))))))))) true, .raw] 0 gen3_Decode.k 11 [] k (gen3_Decode.s11 b base x2 x3 x4 x5 x6 x7 x8 x9 x10 x11 x12 x13 x14 x15 x16 x17 x18 x19 x20)) = gen3_Decode.l11 fuel b base k := (funext fun x2 => (funext fun x3 => (funext fun x4 => (funext fun x5 => (funext fun x6 => (funext fun x7 => (funext fun x8 => (funext fun x9 => (funext fun x10 => (funext fun x11 => (funext fun x12 => (funext fun x13 => (funext fun x14 => (funext fun x15 => (funext fun x16 => (funext fun x17 => (funext fun x18 => (funext fun x19 => (funext fun x20 => ih x2 x3 x4 x5 x6 x7 x8 x9 x10 x11 x12 x13 x14 x15 x16 x17 x18 x19 x20)))))))))))))))))))
  rw [e11]
  rfl
theorem gen3_Decode.eq (fuel : Nat) (b : List Int) (base : LR) : (denF gen3_Decode_E loopN fuel Try.f29 [.dat (.pair (.int .i64) (.pair (.int .i64) (.pair (.int .i64) (.pair (.pair (.int .i64) (.int .i64)) (.pair (.int .i64) (.pair (.int .i64) (.pair (.int .i64) (.pair (.int .i64) (.pair (.int .i64) (.sl (.pair (.int .i64) (.pair (.int .i64) (.pair (.int .i64) (.pair (.pair (.int .i64) (.int .i64)) (.pair .bool (.sl (.pair (.int .i64) (.sl (.int .u8))))))))))))))))))) true, .raw] [.d (.sl (.int .u8)) b, .d (.sl (.pair (.int .i64) (.pair (.int .i64) (.pair (.int .i64) (.pair (.pair (.int .i64) (.int .i64)) (.pair .bool (.sl (.pair (.int .i64) (.sl (.int .u8)))))))))) base] [] gen3_Decode.k) = gen3_Decode.f fuel b base := by
 have h : (denF gen3_Decode_E loopN fuel Try.f29 [.dat (.pair (.int .i64) (.pair (.int .i64) (.pair (.int .i64) (.pair (.pair (.int .i64) (.int .i64)) (.pair (.int .i64) (.pair (.int .i64) (.pair (.int .i64) (.pair (.int .i64) (.pair (.int .i64) (.sl (.pair (.int .i64) (.pair (.int .i64) (.pair (.int .i64) (.pair (.pair (.int .i64) (.int .i64)) (.pair .bool (.sl (.pair (.int .i64) (.sl (.int .u8))))))))))))))))))) true, .raw] [.d (.sl (.int .u8)) b, .d (.sl (.pair (.int .i64) (.pair (.int .i64) (.pair (.int .i64) (.pair (.pair (.int .i64) (.int .i64)) (.pair .bool (.sl (.pair (.int .i64) (.sl (.int .u8)))))))))) base] [] gen3_Decode.k) = gen3_Decode.b b base (fun x2 x3 x4 x5 x6 x7 x8 x9 x10 x11 x12 x13 x14 x15 x16 x17 x18 x19 x20 => lp gen3_Decode_E fuel Try.f29 [.dat (.pair (.int .i64) (.pair (.int .i64) (.pair (.int .i64) (.pair (.pair (.int .i64) (.int .i64)) (.pair (.int .i64) (.pair (.int .i64) (.pair (.int .i64) (.pair (.int .i64) (.pair (.int .i64) (.sl (.pair (.int .i64) (.pair (.int .i64) (.pair (.int .i64) (.pair (.pair (.int .i64) (.int .i64)) (.pair .bool (.sl (.pair (.int .i64) (.sl (.int .u8))))))))))))))))))) true, .raw] 0 gen3_Decode.k 11 [] fuel (gen3_Decode.s11 b base x2 x3 x4 x5 x6 x7 x8 x9 x10 x11 x12 x13 x14 x15 x16 x17 x18 x19 x20)) := by kernel_rfl
 rw [h]
 have e11 : (fun x2 x3 x4 x5 x6 x7 x8 x9 x10 x11 x12 x13 x14 x15 x16 x17 x18 x19 x20 => lp gen3_Decode_E fuel Try.f29 [.dat (.pair (.int .i64) (.pair (.int .i64) (.pair (.int .i64) (.pair (.pair (.int .i64) (.int .i64)) (.pair (.int .i64) (.pair (.int .i64) (.pair (.int .i64) (.pair (.int .i64) (.pair (.int .i64) (.sl (.pair (.int .i64) (.pair (.int .i64) (.pair (.int .i64) (.pair (.pair (.int .i64) (.int .i64)) (.pair .bool (.sl (.pair (.int .i64) (.sl (.int .u8))))))))))))))))))) true, .raw] 0 gen3_Decode.k 11 [] fuel (gen3_Decode.s11 b base x2 x3 x4 x5 x6 x7 x8 x9 x10 x11 x12 x13 x14 x15 x16 x17 x18 x19 x20)) = gen3_Decode.l11 fuel b base fuel := (funext fun x2 => (funext fun x3 => (funext fun x4 => (funext fun x5 => (funext fun x6 => (funext fun x7 => (funext fun x8 => (funext fun x9 => (funext fun x10 => (funext fun x11 => (funext fun x12 => (funext fun x13 => (funext fun x14 => (funext fun x15 => (funext fun x16 => (funext fun x17 => (funext fun x18 => (funext fun x19 => (funext fun x20 => gen3_Decode.l11_eq fuel b base fuel x2 x3 x4 x5 x6 x7 x8 x9 x10 x11 x12 x13 x14 x15 x16 x17 x18 x19 x20)))))))))))))))))))
 rw [e11]
 rfl
noncomputable def s_gen3_Decode : Den.Sum := ⟨[.dat (.sl (.int .u8)) false, .dat (.sl (.pair (.int .i64) (.pair (.int .i64) (.pair (.int .i64) (.pair (.pair (.int .i64) (.int .i64)) (.pair .bool (.sl (.pair (.int .i64) (.sl (.int .u8)))))))))) false], fun args objs κ => match args, objs with
 | [.d (.sl (.int .u8)) b, .d (.sl (.pair (.int .i64) (.pair (.int .i64) (.pair (.int .i64) (.pair (.pair (.int .i64) (.int .i64)) (.pair .bool (.sl (.pair (.int .i64) (.sl (.int .u8)))))))))) base], [] => (match veil (gen3_Decode.f BIG b base) with | none => none | some y => κ [.agg [.d (.int .i64) y.1, .d (.int .i64) y.2.1, .d (.int .i64) y.2.2.1, .d (.int .i64) y.2.2.2.1, .d (.int .i64) y.2.2.2.2.1, .d (.int .i64) y.2.2.2.2.2.1, .d (.int .i64) y.2.2.2.2.2.2.1, .d (.int .i64) y.2.2.2.2.2.2.2.1, .d (.int .i64) y.2.2.2.2.2.2.2.2.1, .d (.int .i64) y.2.2.2.2.2.2.2.2.2.1, .d (.sl (.pair (.int .i64) (.pair (.int .i64) (.pair (.int .i64) (.pair (.pair (.int .i64) (.int .i64)) (.pair .bool (.sl (.pair (.int .i64) (.sl (.int .u8)))))))))) y.2.2.2.2.2.2.2.2.2.2.1], .d (.int .i64) y.2.2.2.2.2.2.2.2.2.2.2] [])
 | _, _ => none⟩
theorem s_gen3_Decode_det : SumDet s_gen3_Decode := fun avs objs R κ => by
 show s_gen3_Decode.run avs objs (two κ) = (s_gen3_Decode.run avs objs (two some)).bind κ
 unfold s_gen3_Decode
 simp only [veil_eq]
 split
 ·split <;> rfl
 ·rfl
theorem s_gen3_Decode_ok : SumOk Try.prog 29 s_gen3_Decode := by
 have hE : EnvOk Try.prog gen3_Decode_E := env_ok (l := [(20, s_valid), (21, s_sorted), (50, s_has), (71, s_read), (72, s_gen3_reader_headR), (74, s_gen3_reader_form), (75, s_gen3_reader_one), (76, s_done)]) th_ok any_ok ⟨⟨s_valid_ok, s_valid_det⟩, ⟨s_sorted_ok, s_sorted_det⟩, ⟨s_has_ok, s_has_det⟩, ⟨s_read_ok, s_read_det⟩, ⟨s_gen3_reader_headR_ok, s_gen3_reader_headR_det⟩, ⟨s_gen3_reader_form_ok, s_gen3_reader_form_det⟩, ⟨s_gen3_reader_one_ok, s_gen3_reader_one_det⟩, ⟨s_done_ok, s_done_det⟩, trivial⟩ _
 refine sum_ok hE Try.func29 rfl (by kernel_rfl) s_gen3_Decode [.dat (.pair (.int .i64) (.pair (.int .i64) (.pair (.int .i64) (.pair (.pair (.int .i64) (.int .i64)) (.pair (.int .i64) (.pair (.int .i64) (.pair (.int .i64) (.pair (.int .i64) (.pair (.int .i64) (.sl (.pair (.int .i64) (.pair (.int .i64) (.pair (.int .i64) (.pair (.pair (.int .i64) (.int .i64)) (.pair .bool (.sl (.pair (.int .i64) (.sl (.int .u8))))))))))))))))))) true, .raw] gen3_Decode.k ?_
 intro R avs objs κ r h
 unfold s_gen3_Decode at h
 simp only [veil_eq] at h
 split at h
 ·rename_i b base
  split at h
  ·cases h
  ·rename_i y hy
   refine ⟨BIG, _, _, _, (gen3_Decode.eq BIG b base).trans hy, ?_, h⟩
   intro rs ros hk
   unfold gen3_Decode.k at hk
   split at hk
   ·first | (cases hk; exact ⟨rfl, rfl⟩) | (have e := Option.some.inj hk; rw [← e]; exact ⟨rfl, rfl⟩)
   ·cases hk
 ·cases h
abbrev HDR := Int × Int × Int × Int × Int × Int × Int × Int × Int × Int × Bool × List Int × Int × Bool
noncomputable def finCR (k f i lo hi s t l e b : Int) (wr : Bool) (bs : List Int) (a : Int) (bad : Bool) : Option HDR :=
 if bad then some (k, f, i, lo, hi, s, t, l, e, b, true, bs, a, bad)
 else if (!(validF k f i lo hi s t l e b [])) then some (k, f, i, lo, hi, s, t, l, e, b, true, bs, a, bad)
 else some (k, f, i, lo, hi, s, t, l, e, b, wr, bs, a, bad)
noncomputable def headCR (bs : List Int) (at0 : Int) (bad wrong : Bool) : Option HDR :=
 if atOk bs at0 then
  optC true 4095 wrong bs (readF bs 1 at0 bad).2.1 (readF bs 1 at0 bad).2.2 fun f w b1 a1 d1 =>
  optC true 281474976710655 w b1 a1 d1 fun i w b2 a2 d2 =>
  match gen3_reader_span.f BIG b2 a2 d2 w with
  | none => none
  | some y =>
   optC (hasF (readF bs 1 at0 bad).1 0) 65535 y.2.2.1 y.2.2.2.1 y.2.2.2.2.1 y.2.2.2.2.2 fun s w b3 a3 d3 =>
   optC (hasF (readF bs 1 at0 bad).1 1) 4095 w b3 a3 d3 fun t w b4 a4 d4 =>
   optC (hasF (readF bs 1 at0 bad).1 2) 281474976710655 w b4 a4 d4 fun l w b5 a5 d5 =>
   optC (hasF (readF bs 1 at0 bad).1 2) 65535 w b5 a5 d5 fun e w b6 a6 d6 =>
   optC (hasF (readF bs 1 at0 bad).1 3) 65535 w b6 a6 d6 fun b w b7 a7 d7 =>
   finCR (readF bs 1 at0 bad).1 f i y.1 y.2.1 s t l e b w b7 a7 d7
 else none
theorem headR_eq (bs : List Int) (at0 : Int) (bad wrong : Bool) : gen3_reader_headR.f BIG bs at0 bad wrong = headCR bs at0 bad wrong := by
 unfold gen3_reader_headR.f gen3_reader_headR.b headCR optC finCR
 simp only [veil_eq]
 generalize hasF (readF bs 1 at0 bad).1 0 = h0
 generalize hasF (readF bs 1 at0 bad).1 1 = h1
 generalize hasF (readF bs 1 at0 bad).1 2 = h2
 generalize hasF (readF bs 1 at0 bad).1 3 = h3
 cases h0 <;> cases h1 <;> cases h2 <;> cases h3 <;> rfl
theorem headR.pure (bs : List Int) (hb : inB bs = true) :
  match hdS bs with
  | some (k, f, i, lo, hi, s, t, l, e, b, a) => gen3_reader_headR.f BIG bs 0 false false = some (k, f, i, lo, hi, s, t, l, e, b, false, bs, (a : Int), false) ∧ a ≤ bs.length ∧ validF k f i lo hi s t l e b [] = true
  | none => ∃ k f i lo hi s t l e b a bad, gen3_reader_headR.f BIG bs 0 false false = some (k, f, i, lo, hi, s, t, l, e, b, true, bs, a, bad) := by
 rw [headR_eq]
 unfold headCR
 rw [if_pos ((atOk_iff _ _).2 ⟨hb, by omega, by omega⟩)]
 have h0 : (readF bs 1 0 false).1 = hdK bs ∧ Rel bs (hdSt bs) false (readF bs 1 0 false).2.1 (readF bs 1 0 false).2.2 := by
  unfold hdK hdSt
  by_cases h : 0 < bs.length
  ·rw [if_pos h, show (0 : Int) = ((0 : Nat) : Int) from rfl, readF_one bs 0 h]
   refine ⟨?_, ⟨1, rfl, h⟩, rfl, rfl, rfl⟩
   simp [List.getD, List.getElem?_eq_getElem h]
  ·rw [if_neg h, show (0 : Int) = ((0 : Nat) : Int) from rfl, readF_end bs 0 (by omega)]
   refine ⟨?_, ⟨0, rfl, by omega⟩, Or.inr rfl⟩
   simp [List.getD, List.getElem?_eq_none (show bs.length ≤ 0 by omega)]
 obtain ⟨e0, r0⟩ := h0
 rw [e0]
 obtain ⟨w1, a1, d1, e1, r1⟩ := optC_rel hb r0 true 4095 (by decide) (by decide) _
 rw [e1]
 obtain ⟨w2, a2, d2, e2, r2⟩ := optC_rel hb r1 true 281474976710655 (by decide) (by decide) _
 rw [e2]
 obtain ⟨lo, hi, w3, a3, d3, e3, r3, q3⟩ := span_rel hb r2
 rw [e3]
 dsimp only
 obtain ⟨w4, a4, d4, e4, r4⟩ := optC_rel hb r3 (hasF (hdK bs) 0) 65535 (by decide) (by decide) _
 rw [e4]
 obtain ⟨w5, a5, d5, e5, r5⟩ := optC_rel hb r4 (hasF (hdK bs) 1) 4095 (by decide) (by decide) _
 rw [e5]
 obtain ⟨w6, a6, d6, e6, r6⟩ := optC_rel hb r5 (hasF (hdK bs) 2) 281474976710655 (by decide) (by decide) _
 rw [e6]
 obtain ⟨w7, a7, d7, e7, r7⟩ := optC_rel hb r6 (hasF (hdK bs) 2) 65535 (by decide) (by decide) _
 rw [e7]
 obtain ⟨w8, a8, d8, e8, r8⟩ := optC_rel hb r7 (hasF (hdK bs) 3) 65535 (by decide) (by decide) _
 rw [e8]
 have hs : (optS bs (hasF (hdK bs) 3) (optS bs (hasF (hdK bs) 2) (optS bs (hasF (hdK bs) 2) (optS bs (hasF (hdK bs) 1) (optS bs (hasF (hdK bs) 0) (spS bs (optS bs true (optS bs true (hdSt bs) 4095).2 281474976710655).2).2.2 65535).2 4095).2 281474976710655).2 65535).2 65535).2 ≠ none → lo = (spS bs (optS bs true (optS bs true (hdSt bs) 4095).2 281474976710655).2).1 ∧ hi = (spS bs (optS bs true (optS bs true (hdSt bs) 4095).2 281474976710655).2).2.1 :=
  fun h => q3 (optS_none (optS_none (optS_none (optS_none (optS_none h)))))
 unfold hdS finCR
 dsimp only
 generalize optS bs (hasF (hdK bs) 3) _ 65535 = B at r8 hs ⊢
 obtain ⟨b, st⟩ := B
 dsimp only at r8 hs ⊢
 obtain ⟨⟨n, rfl, hn⟩, r8⟩ := r8
 cases st with
 | none =>
  dsimp only at r8 ⊢
  cases d8 with
  | true => exact ⟨_, _, _, _, _, _, _, _, _, _, _, _, rfl⟩
  | false =>
   obtain rfl : w8 = true := by rcases r8 with h | h; exact h; cases h
   rw [if_neg (by simp)]
   split <;> exact ⟨_, _, _, _, _, _, _, _, _, _, _, _, rfl⟩
 | some m =>
  obtain ⟨rfl, rfl, e⟩ := r8
  obtain ⟨rfl, rfl⟩ := hs (by simp)
  obtain rfl : n = m := by omega
  dsimp only
  rw [if_neg (c := false = true) (by simp)]
  by_cases hv : validF (hdK bs) (optS bs true (hdSt bs) 4095).1 (optS bs true (optS bs true (hdSt bs) 4095).2 281474976710655).1 (spS bs (optS bs true (optS bs true (hdSt bs) 4095).2 281474976710655).2).1 (spS bs (optS bs true (optS bs true (hdSt bs) 4095).2 281474976710655).2).2.1 (optS bs (hasF (hdK bs) 0) (spS bs (optS bs true (optS bs true (hdSt bs) 4095).2 281474976710655).2).2.2 65535).1 (optS bs (hasF (hdK bs) 1) (optS bs (hasF (hdK bs) 0) (spS bs (optS bs true (optS bs true (hdSt bs) 4095).2 281474976710655).2).2.2 65535).2 4095).1 (optS bs (hasF (hdK bs) 2) (optS bs (hasF (hdK bs) 1) (optS bs (hasF (hdK bs) 0) (spS bs (optS bs true (optS bs true (hdSt bs) 4095).2 281474976710655).2).2.2 65535).2 4095).2 281474976710655).1 (optS bs (hasF (hdK bs) 2) (optS bs (hasF (hdK bs) 2) (optS bs (hasF (hdK bs) 1) (optS bs (hasF (hdK bs) 0) (spS bs (optS bs true (optS bs true (hdSt bs) 4095).2 281474976710655).2).2.2 65535).2 4095).2 281474976710655).2 65535).1 b [] = true
  ·rw [if_pos hv, if_neg (by rw [Bool.not_eq_true, Bool.not_eq_false']; exact hv)]
   exact ⟨rfl, hn, hv⟩
  ·rw [if_neg hv, if_pos (by simpa using hv)]
   exact ⟨_, _, _, _, _, _, _, _, _, _, _, _, rfl⟩
noncomputable def endM (b : List Int) (k f i lo hi s t l e bb : Int) (recs : LR) (a : Nat) : M12 :=
 if a = b.length ∧ b.length ≤ 65499 ∧ validF k f i lo hi s t l e bb recs = true then (k, f, i, lo, hi, s, t, l, e, bb, recs, 0) else z12 4
theorem dec_end (fuel : Nat) (b : List Int) (base : LR) (hb : inB b = true) (k : Nat) (bs2 : LR) (n last i : Int) (a : Nat) (ha : a ≤ b.length) (hi : ¬ i < n) (kk f ii lo hi' s t l e bb : Int) (recs : LR) (hr : smallRecs recs = true) :
  gen3_Decode.l11 fuel b base (k + 1) bs2 n last i false b (a : Int) false kk f ii lo hi' s t l e bb recs = some (endM b kk f ii lo hi' s t l e bb recs a) := by
 rw [gen3_Decode.l11]
 unfold gen3_Decode.b11 endM
 rw [if_neg (c := decide (i < n) = true) (by simpa using hi), if_neg (c := false = true) (by simp), if_pos (c := atOk b (a : Int) = true) ((atOk_iff _ _).2 ⟨hb, by omega, by omega⟩)]
 unfold leftF
 rw [if_neg (c := false = true) (by simp), hr, if_pos (c := true = true) rfl]
 by_cases h1 : a = b.length
 ·rw [if_neg (c := (!(!false && ((b.length : Int) - (a : Int) == 0))) = true) (by simp; omega)]
  by_cases h2 : b.length ≤ 65499
  ·rw [if_neg (c := decide ((b.length : Int) > 65499) = true) (by simp; omega)]
   cases hv : validF kk f ii lo hi' s t l e bb recs with
   | true => rw [if_neg (c := (!true) = true) (by simp), if_pos ⟨h1, h2, rfl⟩]
   | false => rw [if_pos (c := (!false) = true) rfl, if_neg (by simp)]; all_goals rfl
  ·rw [if_pos (c := decide ((b.length : Int) > 65499) = true) (by simp; omega), if_neg (by omega)]; all_goals rfl
 ·rw [if_pos (c := (!(!false && ((b.length : Int) - (a : Int) == 0))) = true) (by simp; omega), if_neg (fun h => h1 h.1)]; all_goals rfl
theorem dec_wrong (fuel : Nat) (b : List Int) (base : LR) (k : Nat) (bs2 : LR) (n last i : Int) (bs : List Int) (a : Int) (bad : Bool) (kk f ii lo hi' s t l e bb : Int) (recs : LR) :
  gen3_Decode.l11 fuel b base (k + 1) bs2 n last i true bs a bad kk f ii lo hi' s t l e bb recs = some (z12 4) := by
 rw [gen3_Decode.l11]
 unfold gen3_Decode.b11
 by_cases h : i < n
 ·rw [if_pos (c := decide (i < n) = true) (by simpa using h)]; all_goals rfl
 ·rw [if_neg (c := decide (i < n) = true) (by simpa using h)]; all_goals rfl
theorem dec_loop (fuel : Nat) (b : List Int) (base : LR) (hb : inB b = true) (bs2 : LR) (hbase : ∀ x ∈ bs2, recOkT x = true) (hbn : bs2.length < 1000000000) (n : Nat) (hn : n ≤ 255) (kk f ii lo hi s t l e bb : Int) : ∀ (m k i : Nat) (last : Int) (a : Nat) (out : LR), i + m = n → m < k → -1 ≤ last → last ≤ 4096 * (i : Int) → a ≤ b.length → out.length ≤ i → (∀ r ∈ out, smallBag r.2.2.2.2.2 = true) →
  gen3_Decode.l11 fuel b base k bs2 (n : Int) last (i : Int) false b (a : Int) false kk f ii lo hi s t l e bb out = some (match recsS b bs2 m last a with
   | none => z12 4
   | some (rs, a2) => endM b kk f ii lo hi s t l e bb (out ++ rs) a2) := by
 obtain ⟨hl, hc⟩ := (inB_iff b).1 hb
 intro m
 induction m with
 | zero =>
  intro k i last a out hi' hk h1 h2 ha ho hs
  obtain ⟨k, rfl⟩ : ∃ k', k = k' + 1 := ⟨k - 1, by omega⟩
  rw [dec_end fuel b base hb k bs2 _ _ _ a ha (by omega) _ _ _ _ _ _ _ _ _ _ out ((smallRecs_iff _).2 ⟨by omega, hs⟩), recsS]
  dsimp only
  rw [List.append_nil]
 | succ m ih =>
  intro k i last a out hi' hk h1 h2 ha ho hs
  obtain ⟨k, rfl⟩ : ∃ k', k = k' + 2 := ⟨k - 2, by omega⟩
  have h3 := one_good b hb last h1 (by omega) bs2 hbase hbn a ha
  rw [show k + 2 = (k + 1) + 1 from rfl, gen3_Decode.l11, recsS]
  unfold gen3_Decode.b11
  simp only [veil_eq]
  rw [if_pos (c := decide ((i : Int) < (n : Int)) = true) (by simp; omega), if_pos (c := (!false) = true) rfl]
  have hw : Go.IntKind.wrap .i64 ((i : Int) + 1) = ((i + 1 : Nat) : Int) := by rw [wrap_small _ (by omega) (by omega)]; omega
  have hlim : ∀ x : REC, (out.length + ([x] : LR).length) * 72 ≤ lim := fun x => by simp [lim]; omega
  cases hr : recS b bs2 last a with
  | none =>
   rw [hr] at h3
   obtain ⟨id, inc, st, l1, l2, cut, bag, a', bad', h3, h4⟩ := h3
   rw [h3]
   dsimp only
   rw [if_pos (hlim _)]
   exact dec_wrong fuel b base k bs2 _ _ _ _ _ _ _ _ _ _ _ _ _ _ _ _ _
  | some p =>
   obtain ⟨r, a2⟩ := p
   rw [hr] at h3
   dsimp only at h3 ⊢
   obtain ⟨_, l2, g1, g2⟩ := recS_sound hc hr
   have hsm := recS_small hc hbase hr
   rw [h3]
   dsimp only
   rw [if_pos (hlim _), hw, ih (k + 1) (i + 1) r.1 a2 (out ++ [r]) (by omega) (by omega) (by omega) (by omega) l2 (by simp; omega) (fun x hx => by
    rcases List.mem_append.1 hx with h | h
    ·exact hs x h
    ·rw [List.mem_singleton.1 h]; exact hsm)]
   cases recsS b bs2 m r.1 a2 with
   | none => rfl
   | some q =>
    obtain ⟨rs, a3⟩ := q
    dsimp only
    rw [List.append_assoc]
    all_goals rfl
theorem risen_len : ∀ (l : LR) (last : Int), (∀ r ∈ l, r.1 ≤ 4095) → risen last l → -1 ≤ last → last ≤ 4095 → (l.length : Int) ≤ 4095 - last
 | [], last, _, _, _, h => by simp; omega
 | r :: l, last, h, h1, h2, h3 => by
  have := risen_len l r.1 (fun x hx => h x (List.mem_cons_of_mem _ hx)) h1.2 (by have := h1.1; omega) (h r (List.mem_cons_self ..))
  have := h1.1
  simp
  omega
theorem sorted_len {l : LR} (h : sortedF l = true) : l.length < 1000000000 := by
 obtain ⟨h1, h2⟩ := sorted_facts h
 have := risen_len l (-1) (fun r hr => (recOk_facts (h1 r hr)).2.1) h2 (by omega) (by omega)
 omega
theorem Dec3.pure (b : List Int) (base : LR) (hb : inB b = true) (hs : smallRecs base = true) : gen3_Decode.f BIG b base = some (dec3 b base) := by
 obtain ⟨hl, hc⟩ := (inB_iff b).1 hb
 unfold gen3_Decode.f gen3_Decode.b dec3
 simp only [veil_eq]
 rw [hs, hb]
 cases hso : sortedF base with
 | false => rfl
 | true =>
  obtain ⟨hbase, hris⟩ := sorted_facts hso
  have hbn := sorted_len hso
  have hh := headR.pure b hb
  rw [if_pos (c := true = true) rfl, if_neg (c := (!true) = true) (by simp), if_pos (c := true = true) rfl]
  unfold decS
  cases hd : hdS b with
  | none =>
   rw [hd] at hh
   obtain ⟨k, f, i, lo, hi, s, t, l, e, bb, a, bad, hh⟩ := hh
   rw [hh]
   dsimp only
   have hfw : ∀ m, gen3_reader_form.f BIG b a bad true m = some (0, true, b, a, bad) := fun m => form_wrong b a bad m
   have hdw : ∀ (bs2 : LR) (n last i1 : Int) (bs : List Int) (a1 : Int) (bad1 : Bool) (kk f1 i2 lo1 hi1 s1 t1 l1 e1 b1 : Int) (recs : LR), gen3_Decode.l11 BIG b base BIG bs2 n last i1 true bs a1 bad1 kk f1 i2 lo1 hi1 s1 t1 l1 e1 b1 recs = some (z12 4) := by
    intro bs2 n last i1 bs a1 bad1 kk f1 i2 lo1 hi1 s1 t1 l1 e1 b1 recs
    have := dec_wrong BIG b base (BIG - 1) bs2 n last i1 bs a1 bad1 kk f1 i2 lo1 hi1 s1 t1 l1 e1 b1 recs
    rw [← big_eq] at this
    exact this
   simp only [hfw, hdw]
   cases (bb == 0) <;> cases hasF k 4 <;> rfl
  | some p =>
   obtain ⟨k, f, i, lo, hi, s, t, l, e, bb, a⟩ := p
   rw [hd] at hh
   dsimp only at hh ⊢
   obtain ⟨hh, l1, hv⟩ := hh
   rw [hh]
   dsimp only
   have key : (if hasF k 4 = true then (match gen3_reader_form.f BIG b (a : Int) false false 255 with
      | none => none
      | some y1 => gen3_Decode.l11 BIG b base BIG (baseF bb base) y1.1 (-1) 0 y1.2.1 y1.2.2.1 y1.2.2.2.1 y1.2.2.2.2 k f i lo hi s t l e bb []) else some (endM b k f i lo hi s t l e bb [] a)) =
     some (match (match restS b (baseF bb base) k a with
      | none => none
      | some (rs, a2) => if a2 = b.length ∧ b.length ≤ 65499 ∧ validF k f i lo hi s t l e bb rs = true then some (k, f, i, lo, hi, s, t, l, e, bb, rs) else none) with
      | none => z12 4
      | some m => okM m) := by
    unfold restS
    cases h4 : hasF k 4 with
    | false =>
     rw [if_neg (by simp), if_neg (by simp)]
     dsimp only
     unfold endM
     split <;> rfl
    | true =>
     rw [if_pos rfl, if_pos rfl]
     have hg := form_good b a 255 hb (by decide) (by decide) l1
     cases ht : tk b a 255 with
     | none =>
      rw [ht] at hg
      obtain ⟨a', bad, hg, h2⟩ := hg
      rw [hg]
      dsimp only
      rw [big_eq]
      exact dec_wrong _ b base _ _ _ _ _ _ _ _ _ _ _ _ _ _ _ _ _ _ _
     | some w =>
      obtain ⟨n, a1⟩ := w
      rw [ht] at hg
      dsimp only at hg ⊢
      obtain ⟨_, n0, n1, _, _, l2⟩ := tk_facts hc ht
      rw [hg]
      dsimp only
      have hbl : (baseF bb base).length < 1000000000 := by
       unfold baseF
       split
       ·simp
       ·exact hbn
      have := dec_loop BIG b base hb (baseF bb base) (baseF_all hbase bb) hbl n.toNat (by omega) k f i lo hi s t l e bb n.toNat BIG 0 (-1) a1 [] (by omega) (by rw [BIG_eq]; omega) (by omega) (by omega) l2 (by simp) (by simp)
      rw [show ((n.toNat : Nat) : Int) = n from by omega] at this
      rw [show ((0 : Nat) : Int) = 0 from rfl] at this
      rw [this]
      cases recsS b (baseF bb base) n.toNat (-1) a1 with
      | none => rfl
      | some q =>
       obtain ⟨rs, a3⟩ := q
       dsimp only
       rw [List.nil_append]
       unfold endM
       split <;> rfl
   have hend : (if atOk b (a : Int) = true then (if (!(!false && (leftF b (a : Int) false == 0))) = true then some (z12 4) else if decide (((b.length : Nat) : Int) > 65499) = true then some (z12 4) else if (!validF k f i lo hi s t l e bb []) = true then some (z12 4) else some (k, f, i, lo, hi, s, t, l, e, bb, [], 0)) else none) = some (endM b k f i lo hi s t l e bb [] a) := by
    have := dec_end 0 b base hb 0 [] 0 0 0 a l1 (by omega) k f i lo hi s t l e bb [] rfl
    rw [← this, gen3_Decode.l11]
    unfold gen3_Decode.b11
    rfl
   refine Eq.trans ?_ key
   unfold baseF
   cases (bb == 0) <;> cases hasF k 4 <;> first | exact hend | rfl
def isB (l : List Int) : Prop := ∀ c ∈ l, 0 ≤ c ∧ c ≤ 255
theorem isB_nil : isB [] := by simp [isB]
theorem isB_app {l m : List Int} (h1 : isB l) (h2 : isB m) : isB (l ++ m) := fun c hc => by
 rcases List.mem_append.1 hc with h | h
 ·exact h1 c h
 ·exact h2 c h
theorem isB_cons {x : Int} {m : List Int} (h0 : 0 ≤ x) (h1 : x ≤ 255) (h2 : isB m) : isB (x :: m) := fun c hc => by
 rcases List.mem_cons.1 hc with rfl | h
 ·exact ⟨h0, h1⟩
 ·exact h2 c h
theorem isB_if {b : Bool} {l : List Int} (h : isB l) : isB (if b = true then l else []) := by
 cases b
 ·exact isB_nil
 ·exact h
theorem isB_if2 {b : Bool} {l : List Int} (h : isB l) : isB (if b = true then [] else l) := by
 cases b
 ·exact h
 ·exact isB_nil
theorem viF_bytes : ∀ (j : Nat) (v : Int), 0 ≤ v → v < 2 * 128 ^ j → isB (viF j v)
 | 0, v, h0, h1 => by
  rw [viF]
  exact isB_cons h0 (by simp at h1; omega) isB_nil
 | j + 1, v, h0, h1 => by
  rw [viF]
  by_cases h : v ≥ 128
  ·rw [if_pos h]
   exact isB_cons (by omega) (by omega) (viF_bytes j (v / 128) (by omega) (by rw [Int.pow_succ] at h1; generalize (128 : Int) ^ j = M at h1 ⊢; omega))
  ·rw [if_neg h]
   exact isB_cons h0 (by omega) isB_nil
theorem vi_bytes {v : Int} (h0 : 0 ≤ v) (h1 : v < 18446744073709551616) : isB (vi v) := viF_bytes 9 v h0 (by simpa using h1)
theorem fld3_bytes {x : Int × List Int} (h0 : 0 ≤ x.1) (h1 : x.1 ≤ 255) (h2 : x.2.length ≤ 4096) (h3 : isB x.2) : isB (fld3 x) :=
 isB_cons h0 h1 (isB_app (vi_bytes (by omega) (by omega)) h3)
theorem bag3_bytes {b : LF} (h : bagOk b = true) (hb : ∀ x ∈ b, isB x.2) : isB (bag3 b) := by
 have hl := bagOk_len h
 have ht := bag_tags h
 exact isB_app (vi_bytes (by omega) (by omega)) (flat_mem fun x hx => fld3_bytes (by have := ht x hx; omega) (ht x hx).2.1 (ht x hx).2.2 (hb x hx))
theorem flagV_range {o : REC × Bool} {r : REC} (hr : recOkT r = true) : 0 ≤ flagV o r ∧ flagV o r ≤ 31 := by
 obtain ⟨f1, f2, f3, f4, f5, f6, _⟩ := recOk_facts hr
 unfold flagV
 split <;> split <;> split <;> omega
theorem rec3_bytes {base : LR} (hbase : ∀ x ∈ base, recOkT x = true) {last : Int} {r : REC} (hr : recOkT r = true) (h1 : -1 ≤ last) (h2 : last < r.1) (hb : ∀ x ∈ r.2.2.2.2.2, isB x.2) : isB (rec3 (oldR base r.1) last r) := by
 obtain ⟨f1, f2, f3, f4, f5, f6, f7, f8, f9⟩ := recOk_facts hr
 obtain ⟨o0, o1⟩ := old_inc hbase r.1
 obtain ⟨z0, z1⟩ := tk_bound f3 f4 o0 o1
 obtain ⟨g0, g1⟩ := flagV_range (o := oldR base r.1) hr
 have hs := (okS_iff _ _).1 f7
 unfold rec3
 exact isB_app (vi_bytes (by omega) (by omega)) (isB_cons g0 (by omega) (isB_app (isB_if2 (isB_cons (by omega) (by omega) isB_nil)) (isB_app (vi_bytes z0 (by omega)) (isB_if2 (bag3_bytes f8 hb)))))
theorem recs3_bytes {base : LR} (hbase : ∀ x ∈ base, recOkT x = true) : ∀ (l : LR) (last : Int), (∀ r ∈ l, recOkT r = true) → -1 ≤ last → risen last l → byteBags l → isB (recs3 base last l)
 | [], _, _, _, _, _ => isB_nil
 | r :: l, last, hr, h1, h2, hb => by
  have hm := hr r (List.mem_cons_self ..)
  have hid := (recOk_facts hm).1
  exact isB_app (rec3_bytes hbase hm h1 h2.1 (hb r (List.mem_cons_self ..))) (recs3_bytes hbase l r.1 (fun x hx => hr x (List.mem_cons_of_mem _ hx)) (by omega) h2.2 (fun x hx => hb x (List.mem_cons_of_mem _ hx)))
theorem body3_bytes {k f i lo hi s t l e b : Int} {recs base : LR} (hv : validF k f i lo hi s t l e b recs = true) (hbase : ∀ x ∈ base, recOkT x = true) (hb : byteBags recs) : isB (body3 k f i lo hi s t l e b recs base) := by
 obtain ⟨v1, v2, v3, v4, v5, v6, v7, v8, v9, v10, v11, v12, v13, v14⟩ := valid_facts hv
 obtain ⟨w1, w2, w3, w4, w5, w6, _⟩ := lives_facts v12
 obtain ⟨_, hris⟩ := valid_recs hv
 have hs := (okS_iff _ _).1 v7
 rw [hd3_body]
 unfold hd3
 exact isB_cons (by omega) (by omega) (isB_app (vi_bytes v3 (by omega)) (isB_app (vi_bytes v5 (by omega)) (isB_cons (by omega) (by omega) (isB_app (isB_if (vi_bytes v8 (by omega))) (isB_app (isB_if (vi_bytes v10 (by omega))) (isB_app (isB_if (vi_bytes w1 (by omega))) (isB_app (isB_if (vi_bytes w3 (by omega))) (isB_app (isB_if (vi_bytes w5 (by omega))) (isB_app (isB_if (vi_bytes (by omega) (by omega))) (recs3_bytes (baseF_all hbase b) recs (-1) v14 (by omega) hris hb))))))))))
theorem write_no {gen : Int} {k f i lo hi s t l e b : Int} {recs base : LR} (h : (writeX gen k f i lo hi s t l e b recs base).2 ≠ 0) : (writeX gen k f i lo hi s t l e b recs base).1 = [] := by
 revert h
 refine gen_cases (gen := gen) (fun gen => (writeX gen k f i lo hi s t l e b recs base).2 ≠ 0 → (writeX gen k f i lo hi s t l e b recs base).1 = []) ?_ ?_ ?_ ?_
 ·rw [writeX1]
  unfold encF
  cases validF k f i lo hi s t l e b recs <;> cases fits1 k f i lo hi s t l e b recs <;> simp
 ·rw [writeX2]
  unfold enc2
  cases validF k f i lo hi s t l e b recs <;> cases fits2 k f i lo hi s t l e b recs <;> simp
 ·rw [writeX3]
  unfold enc3
  split
  ·split
   ·intro _; rfl
   ·intro h; exact absurd rfl h
  ·intro _; rfl
 ·intro h1 h2 h3 _
  rw [writeX0 h1 h2 h3]
theorem write_bytes {gen : Int} {k f i lo hi s t l e b : Int} {recs base : LR} (hbase : gen = 3 → sortedF base = true) (hb : byteBags recs) : isB (writeX gen k f i lo hi s t l e b recs base).1 ∧ (writeX gen k f i lo hi s t l e b recs base).1.length ≤ 65499 := by
 by_cases h : (writeX gen k f i lo hi s t l e b recs base).2 = 0
 ·obtain ⟨_, hv, hl, _⟩ := write_back hbase h
  refine ⟨?_, hl⟩
  have hv' := valid_facts hv
  revert h hbase
  refine gen_cases (gen := gen) (fun gen => (gen = 3 → sortedF base = true) → (writeX gen k f i lo hi s t l e b recs base).2 = 0 → isB (writeX gen k f i lo hi s t l e b recs base).1) ?_ ?_ ?_ ?_
  ·intro _ h
   rw [writeX1] at h ⊢
   obtain ⟨_, _, _, _, _, he⟩ := enc1_ok h
   rw [he]
   exact ((inB_iff _).1 (body_bytes k f i lo hi s t recs hv'.2.2.2.2.2.2.2.2.2.2.2.2.1)).2
  ·intro _ h
   rw [writeX2] at h ⊢
   obtain ⟨_, _, _, _, _, _, _, he⟩ := enc2_ok h
   rw [he]
   exact body2_bytes hv'.2.2.2.2.2.2.2.2.2.2.2.2.2 hb
  ·intro hs h
   rw [writeX3] at h ⊢
   unfold enc3 at h ⊢
   rw [hv, hs rfl] at h ⊢
   simp only [Bool.and_self, if_true] at h ⊢
   split
   ·exact isB_nil
   ·exact body3_bytes hv (sorted_facts (hs rfl)).1 hb
  ·intro h1 h2 h3 _ _
   rw [writeX0 h1 h2 h3]
   exact isB_nil
 ·rw [write_no h]
  exact ⟨isB_nil, by simp⟩
theorem dec3_head {b : List Int} {base : LR} (h : errX (dec3 b base) = 0) : head3X b = bareX (dec3 b base) := by
 unfold dec3 at h ⊢
 by_cases hs : sortedF base = true
 ·rw [if_pos hs] at h ⊢
  cases hd : decS b base with
  | none => rw [hd] at h; exact absurd h (by unfold errX z12; decide)
  | some m =>
   unfold decS at hd
   cases hh : hdS b with
   | none => rw [hh] at hd; cases hd
   | some p =>
    obtain ⟨k, f, i, lo, hi, s, t, l, e, b', a⟩ := p
    rw [hh] at hd
    dsimp only at hd
    cases hr : restS b (baseF b' base) k a with
    | none => rw [hr] at hd; cases hd
    | some q =>
     obtain ⟨rs, a2⟩ := q
     rw [hr] at hd
     dsimp only at hd
     by_cases hc : a2 = b.length ∧ b.length ≤ 65499 ∧ validF k f i lo hi s t l e b' rs = true
     ·rw [if_pos hc] at hd
      cases hd
      unfold head3X
      rw [hh]
      all_goals rfl
     ·rw [if_neg hc] at hd; cases hd
 ·rw [if_neg hs] at h
  exact absurd h (by unfold errX z12; decide)
theorem peek_of {gen : Int} {b : List Int} (h : errX (readX gen b []) = 0) : peekX gen b = bareX (readX gen b []) := by
 unfold peekX
 by_cases h3 : gen = 3
 ·subst h3
  rw [if_pos (by simp)]
  have e : readX 3 b [] = dec3 b [] := by unfold readX; rw [if_neg (by simp), if_neg (by simp), if_pos (by simp)]
  rw [e] at h ⊢
  exact dec3_head h
 ·rw [if_neg (by simpa using h3)]
theorem shiftX_of {from0 to0 : Int} {b : List Int} (f1 : 1 ≤ from0) (f3 : from0 ≤ 3) (t1 : 1 ≤ to0) (t3 : to0 ≤ 3) (h : errX (readX from0 b []) = 0) (hb : baseX (readX from0 b []) = 0) : shiftX from0 to0 b = putX to0 (readX from0 b []) [] := by
 unfold shiftX
 rw [if_neg (by omega), peek_of h, show errX (bareX (readX from0 b [])) = errX (readX from0 b []) from rfl, show baseX (bareX (readX from0 b [])) = baseX (readX from0 b []) from rfl, h, hb, if_neg (by simp), if_neg (by simp), if_neg (by simp)]
theorem write_fit {gen : Int} {k f i lo hi s t l e b : Int} {recs : LR} (g1 : 1 ≤ gen) (g3 : gen ≤ 3) (hv : validF k f i lo hi s t l e b recs = true) :
  (fitF k f i lo hi s t l e b recs gen = true → (writeX gen k f i lo hi s t l e b recs []).2 = 0) ∧ (fitF k f i lo hi s t l e b recs gen = false → writeX gen k f i lo hi s t l e b recs [] = ([], 14)) := by
 have : gen = 1 ∨ gen = 2 ∨ gen = 3 := by omega
 rcases this with rfl | rfl | rfl
 ·unfold writeX
  rw [if_pos (by simp), fit1E]
  unfold encF
  rw [hv]
  cases fits1 k f i lo hi s t l e b recs <;> simp
 ·unfold writeX
  rw [if_neg (by simp), if_pos (by simp), fit2E]
  unfold enc2
  rw [hv]
  cases fits2 k f i lo hi s t l e b recs <;> simp
 ·unfold writeX
  rw [if_neg (by simp), if_neg (by simp), if_pos (by simp)]
  have h3 := fit3 k f i lo hi s t l e b recs
  unfold size3 at h3
  unfold enc3
  rw [hv, show sortedF [] = true from rfl] at h3 ⊢
  simp only [Bool.and_self, if_true] at h3 ⊢
  by_cases hl : (body3 k f i lo hi s t l e b recs []).length > 65499
  ·rw [if_pos hl]
   refine ⟨fun h => ?_, fun _ => rfl⟩
   have := (h3.1 h).2
   omega
  ·rw [if_neg hl]
   refine ⟨fun _ => rfl, fun h => ?_⟩
   have := h3.2 ⟨trivial, by omega⟩
   rw [h] at this
   cases this
theorem shift_written {g h : Int} {k f i lo hi s t l e : Int} {recs : LR} (h1 : 1 ≤ h) (h3 : h ≤ 3) (hw : (writeX g k f i lo hi s t l e 0 recs []).2 = 0) :
  shiftX g h (writeX g k f i lo hi s t l e 0 recs []).1 = writeX h k f i lo hi s t l e 0 recs [] := by
 obtain ⟨hr, hv, _, g1, g3⟩ := write_back (base := []) (fun _ => rfl) hw
 rw [shiftX_of g1 g3 h1 h3 (by rw [hr]; rfl) (by rw [hr]; rfl), hr]
 all_goals rfl
noncomputable def law17_read_E : Env := ⟨th, gam [(29, s_gen3_Decode), (80, s_decb), (81, s_dec2b)], fun i => ⟨[], [], []⟩⟩
noncomputable def law17_read.k (rs : List AV) (os : List Den.Obj) : Option (Int × Int × Int × Int × Int × Int × Int × Int × Int × Int × LR × Int) :=
 match rs, os with
 | [.agg [.d (.int .i64) r0, .d (.int .i64) r1, .d (.int .i64) r2, .d (.int .i64) r3, .d (.int .i64) r4, .d (.int .i64) r5, .d (.int .i64) r6, .d (.int .i64) r7, .d (.int .i64) r8, .d (.int .i64) r9, .d (.sl (.pair (.int .i64) (.pair (.int .i64) (.pair (.int .i64) (.pair (.pair (.int .i64) (.int .i64)) (.pair .bool (.sl (.pair (.int .i64) (.sl (.int .u8)))))))))) r10], .d (.int .i64) r11], [] => some (r0, r1, r2, r3, r4, r5, r6, r7, r8, r9, r10, r11)
 | _, _ => none
noncomputable def law17_read.b (gen : Int) (b : List Int) (base : LR) : Option (Int × Int × Int × Int × Int × Int × Int × Int × Int × Int × LR × Int) :=
 (if (gen == (1 : Int)) then (if (inB b) then (match (veil (Option.some (decF b))) with | none => none | some y0 => some (y0.1, y0.2.1, y0.2.2.1, y0.2.2.2.1, y0.2.2.2.2.1, y0.2.2.2.2.2.1, y0.2.2.2.2.2.2.1, 0, 0, 0, y0.2.2.2.2.2.2.2.1, y0.2.2.2.2.2.2.2.2)) else none) else (if (gen == (2 : Int)) then (if (inS b) then (match (veil (Option.some (decF2 b))) with | none => none | some y1 => some (y1.1, y1.2.1, y1.2.2.1, y1.2.2.2.1, y1.2.2.2.2.1, y1.2.2.2.2.2.1, y1.2.2.2.2.2.2.1, 0, 0, 0, y1.2.2.2.2.2.2.2.1, y1.2.2.2.2.2.2.2.2)) else none) else (if (gen == (3 : Int)) then (match (veil (gen3_Decode.f BIG b base)) with | none => none | some y2 => some (y2.1, y2.2.1, y2.2.2.1, y2.2.2.2.1, y2.2.2.2.2.1, y2.2.2.2.2.2.1, y2.2.2.2.2.2.2.1, y2.2.2.2.2.2.2.2.1, y2.2.2.2.2.2.2.2.2.1, y2.2.2.2.2.2.2.2.2.2.1, y2.2.2.2.2.2.2.2.2.2.2.1, y2.2.2.2.2.2.2.2.2.2.2.2)) else some (0, 0, 0, 0, 0, 0, 0, 0, 0, 0, ([] : LR), (5 : Int)))))
noncomputable def law17_read.f (fuel : Nat) (gen : Int) (b : List Int) (base : LR) : Option (Int × Int × Int × Int × Int × Int × Int × Int × Int × Int × LR × Int) := law17_read.b gen b base
theorem law17_read.eq (fuel : Nat) (gen : Int) (b : List Int) (base : LR) : (denF law17_read_E loopN fuel Try.f36 [.dat (.pair (.int .i64) (.pair (.int .i64) (.pair (.int .i64) (.pair (.pair (.int .i64) (.int .i64)) (.pair (.int .i64) (.pair (.int .i64) (.pair (.int .i64) (.pair (.int .i64) (.pair (.int .i64) (.sl (.pair (.int .i64) (.pair (.int .i64) (.pair (.int .i64) (.pair (.pair (.int .i64) (.int .i64)) (.pair .bool (.sl (.pair (.int .i64) (.sl (.int .u8))))))))))))))))))) true, .raw] [.d (.int .i64) gen, .d (.sl (.int .u8)) b, .d (.sl (.pair (.int .i64) (.pair (.int .i64) (.pair (.int .i64) (.pair (.pair (.int .i64) (.int .i64)) (.pair .bool (.sl (.pair (.int .i64) (.sl (.int .u8)))))))))) base] [] law17_read.k) = law17_read.f fuel gen b base := by
 kernel_rfl
noncomputable def s_law17_read : Den.Sum := ⟨[.raw, .dat (.sl (.int .u8)) false, .dat (.sl (.pair (.int .i64) (.pair (.int .i64) (.pair (.int .i64) (.pair (.pair (.int .i64) (.int .i64)) (.pair .bool (.sl (.pair (.int .i64) (.sl (.int .u8)))))))))) false], fun args objs κ => match args, objs with
 | [.d (.int .i64) gen, .d (.sl (.int .u8)) b, .d (.sl (.pair (.int .i64) (.pair (.int .i64) (.pair (.int .i64) (.pair (.pair (.int .i64) (.int .i64)) (.pair .bool (.sl (.pair (.int .i64) (.sl (.int .u8)))))))))) base], [] => (match veil (law17_read.f BIG gen b base) with | none => none | some y => κ [.agg [.d (.int .i64) y.1, .d (.int .i64) y.2.1, .d (.int .i64) y.2.2.1, .d (.int .i64) y.2.2.2.1, .d (.int .i64) y.2.2.2.2.1, .d (.int .i64) y.2.2.2.2.2.1, .d (.int .i64) y.2.2.2.2.2.2.1, .d (.int .i64) y.2.2.2.2.2.2.2.1, .d (.int .i64) y.2.2.2.2.2.2.2.2.1, .d (.int .i64) y.2.2.2.2.2.2.2.2.2.1, .d (.sl (.pair (.int .i64) (.pair (.int .i64) (.pair (.int .i64) (.pair (.pair (.int .i64) (.int .i64)) (.pair .bool (.sl (.pair (.int .i64) (.sl (.int .u8)))))))))) y.2.2.2.2.2.2.2.2.2.2.1], .d (.int .i64) y.2.2.2.2.2.2.2.2.2.2.2] [])
 | _, _ => none⟩
theorem s_law17_read_det : SumDet s_law17_read := fun avs objs R κ => by
 show s_law17_read.run avs objs (two κ) = (s_law17_read.run avs objs (two some)).bind κ
 unfold s_law17_read
 simp only [veil_eq]
 split
 ·split <;> rfl
 ·rfl
theorem s_law17_read_ok : SumOk Try.prog 36 s_law17_read := by
 have hE : EnvOk Try.prog law17_read_E := env_ok (l := [(29, s_gen3_Decode), (80, s_decb), (81, s_dec2b)]) th_ok any_ok ⟨⟨s_gen3_Decode_ok, s_gen3_Decode_det⟩, ⟨s_decb_ok, s_decb_det⟩, ⟨s_dec2b_ok, s_dec2b_det⟩, trivial⟩ _
 refine sum_ok hE Try.func36 rfl (by kernel_rfl) s_law17_read [.dat (.pair (.int .i64) (.pair (.int .i64) (.pair (.int .i64) (.pair (.pair (.int .i64) (.int .i64)) (.pair (.int .i64) (.pair (.int .i64) (.pair (.int .i64) (.pair (.int .i64) (.pair (.int .i64) (.sl (.pair (.int .i64) (.pair (.int .i64) (.pair (.int .i64) (.pair (.pair (.int .i64) (.int .i64)) (.pair .bool (.sl (.pair (.int .i64) (.sl (.int .u8))))))))))))))))))) true, .raw] law17_read.k ?_
 intro R avs objs κ r h
 unfold s_law17_read at h
 simp only [veil_eq] at h
 split at h
 ·rename_i gen b base
  split at h
  ·cases h
  ·rename_i y hy
   refine ⟨BIG, _, _, _, (law17_read.eq BIG gen b base).trans hy, ?_, h⟩
   intro rs ros hk
   unfold law17_read.k at hk
   split at hk
   ·first | (cases hk; exact ⟨rfl, rfl⟩) | (have e := Option.some.inj hk; rw [← e]; exact ⟨rfl, rfl⟩)
   ·cases hk
 ·cases h
noncomputable def xlate_of_E : Env := ⟨th, gam [(19, s_gen3_Encode), (29, s_gen3_Decode), (109, s_xlate_of_c1), (110, s_xlate_of_c2), (111, s_xlate_of_c3), (112, s_xlate_of_c4)], fun i => ⟨[], [], []⟩⟩
noncomputable def s_xlate_of : Den.Sum := inl xlate_of_E BIG Try.f78 [.raw] [.raw, .raw]
theorem xlate_of_envOk : EnvOk Try.prog xlate_of_E := env_ok (l := [(19, s_gen3_Encode), (29, s_gen3_Decode), (109, s_xlate_of_c1), (110, s_xlate_of_c2), (111, s_xlate_of_c3), (112, s_xlate_of_c4)]) th_ok any_ok ⟨⟨s_gen3_Encode_ok, s_gen3_Encode_det⟩, ⟨s_gen3_Decode_ok, s_gen3_Decode_det⟩, ⟨s_xlate_of_c1_ok, s_xlate_of_c1_det⟩, ⟨s_xlate_of_c2_ok, s_xlate_of_c2_det⟩, ⟨s_xlate_of_c3_ok, s_xlate_of_c3_det⟩, ⟨s_xlate_of_c4_ok, s_xlate_of_c4_det⟩, trivial⟩ _
theorem s_xlate_of_det : SumDet s_xlate_of := inl_det xlate_of_envOk.D _ _ _ _
theorem s_xlate_of_ok : SumOk Try.prog 78 s_xlate_of := inl_ok xlate_of_envOk Try.func78 rfl (by kernel_rfl) _ _ _
theorem HeadX.pure {bs : List Int} (hb : inB bs = true) : gen3_Head.f BIG bs = some (head3X bs) := Head3.pure hb
noncomputable def xlate_Encode_E : Env := ⟨th, gam [(19, s_gen3_Encode), (29, s_gen3_Decode), (78, s_xlate_of), (109, s_xlate_of_c1), (110, s_xlate_of_c2), (111, s_xlate_of_c3), (112, s_xlate_of_c4)], fun i => ⟨[], [], []⟩⟩
noncomputable def xlate_Encode.k (rs : List AV) (os : List Den.Obj) : Option ((List Int) × Int) :=
 match rs, os with
 | [.d (.sl (.int .u8)) r0, .d (.int .i64) r1], [] => some (r0, r1)
 | _, _ => none
noncomputable def xlate_Encode.b (gen : Int) (mKind : Int) (mFrom : Int) (mInc : Int) (mSpanLo : Int) (mSpanHi : Int) (mSeq : Int) (mTarget : Int) (mLife : Int) (mEpoch : Int) (mBase : Int) (mRecs : LR) (base : LR) : Option ((List Int) × Int) :=
 (if (gen == (1 : Int)) then (match (veil (xlate_of_c1.f BIG mKind mFrom mInc mSpanLo mSpanHi mSeq mTarget mLife mEpoch mBase mRecs base)) with | none => none | some y0 => some (y0.1, y0.2)) else (if (gen == (2 : Int)) then (match (veil (xlate_of_c3.f BIG mKind mFrom mInc mSpanLo mSpanHi mSeq mTarget mLife mEpoch mBase mRecs base)) with | none => none | some y1 => some (y1.1, y1.2)) else (if (gen == (3 : Int)) then (match (veil (gen3_Encode.f BIG mKind mFrom mInc mSpanLo mSpanHi mSeq mTarget mLife mEpoch mBase mRecs base)) with | none => none | some y2 => some (y2.1, y2.2)) else some (([] : List Int), (5 : Int)))))
noncomputable def xlate_Encode.f (fuel : Nat) (gen : Int) (mKind : Int) (mFrom : Int) (mInc : Int) (mSpanLo : Int) (mSpanHi : Int) (mSeq : Int) (mTarget : Int) (mLife : Int) (mEpoch : Int) (mBase : Int) (mRecs : LR) (base : LR) : Option ((List Int) × Int) := xlate_Encode.b gen mKind mFrom mInc mSpanLo mSpanHi mSeq mTarget mLife mEpoch mBase mRecs base
theorem xlate_Encode.eq (fuel : Nat) (gen : Int) (mKind : Int) (mFrom : Int) (mInc : Int) (mSpanLo : Int) (mSpanHi : Int) (mSeq : Int) (mTarget : Int) (mLife : Int) (mEpoch : Int) (mBase : Int) (mRecs : LR) (base : LR) : (denF xlate_Encode_E loopN fuel Try.f33 [.dat (.sl (.int .u8)) false, .raw] [.d (.int .i64) gen, .agg [.d (.int .i64) mKind, .d (.int .i64) mFrom, .d (.int .i64) mInc, .d (.int .i64) mSpanLo, .d (.int .i64) mSpanHi, .d (.int .i64) mSeq, .d (.int .i64) mTarget, .d (.int .i64) mLife, .d (.int .i64) mEpoch, .d (.int .i64) mBase, .d (.sl (.pair (.int .i64) (.pair (.int .i64) (.pair (.int .i64) (.pair (.pair (.int .i64) (.int .i64)) (.pair .bool (.sl (.pair (.int .i64) (.sl (.int .u8)))))))))) mRecs], .d (.sl (.pair (.int .i64) (.pair (.int .i64) (.pair (.int .i64) (.pair (.pair (.int .i64) (.int .i64)) (.pair .bool (.sl (.pair (.int .i64) (.sl (.int .u8)))))))))) base] [] xlate_Encode.k) = xlate_Encode.f fuel gen mKind mFrom mInc mSpanLo mSpanHi mSeq mTarget mLife mEpoch mBase mRecs base := by
 kernel_rfl
noncomputable def s_xlate_Encode : Den.Sum := ⟨[.raw, .dat (.pair (.int .i64) (.pair (.int .i64) (.pair (.int .i64) (.pair (.pair (.int .i64) (.int .i64)) (.pair (.int .i64) (.pair (.int .i64) (.pair (.int .i64) (.pair (.int .i64) (.pair (.int .i64) (.sl (.pair (.int .i64) (.pair (.int .i64) (.pair (.int .i64) (.pair (.pair (.int .i64) (.int .i64)) (.pair .bool (.sl (.pair (.int .i64) (.sl (.int .u8))))))))))))))))))) true, .dat (.sl (.pair (.int .i64) (.pair (.int .i64) (.pair (.int .i64) (.pair (.pair (.int .i64) (.int .i64)) (.pair .bool (.sl (.pair (.int .i64) (.sl (.int .u8)))))))))) false], fun args objs κ => match args, objs with
 | [.d (.int .i64) gen, .agg [.d (.int .i64) mKind, .d (.int .i64) mFrom, .d (.int .i64) mInc, .d (.int .i64) mSpanLo, .d (.int .i64) mSpanHi, .d (.int .i64) mSeq, .d (.int .i64) mTarget, .d (.int .i64) mLife, .d (.int .i64) mEpoch, .d (.int .i64) mBase, .d (.sl (.pair (.int .i64) (.pair (.int .i64) (.pair (.int .i64) (.pair (.pair (.int .i64) (.int .i64)) (.pair .bool (.sl (.pair (.int .i64) (.sl (.int .u8)))))))))) mRecs], .d (.sl (.pair (.int .i64) (.pair (.int .i64) (.pair (.int .i64) (.pair (.pair (.int .i64) (.int .i64)) (.pair .bool (.sl (.pair (.int .i64) (.sl (.int .u8)))))))))) base], [] => (match veil (xlate_Encode.f BIG gen mKind mFrom mInc mSpanLo mSpanHi mSeq mTarget mLife mEpoch mBase mRecs base) with | none => none | some y => κ [.d (.sl (.int .u8)) y.1, .d (.int .i64) y.2] [])
 | _, _ => none⟩
theorem s_xlate_Encode_det : SumDet s_xlate_Encode := fun avs objs R κ => by
 show s_xlate_Encode.run avs objs (two κ) = (s_xlate_Encode.run avs objs (two some)).bind κ
 unfold s_xlate_Encode
 simp only [veil_eq]
 split
 ·split <;> rfl
 ·rfl
theorem s_xlate_Encode_ok : SumOk Try.prog 33 s_xlate_Encode := by
 have hE : EnvOk Try.prog xlate_Encode_E := env_ok (l := [(19, s_gen3_Encode), (29, s_gen3_Decode), (78, s_xlate_of), (109, s_xlate_of_c1), (110, s_xlate_of_c2), (111, s_xlate_of_c3), (112, s_xlate_of_c4)]) th_ok any_ok ⟨⟨s_gen3_Encode_ok, s_gen3_Encode_det⟩, ⟨s_gen3_Decode_ok, s_gen3_Decode_det⟩, ⟨s_xlate_of_ok, s_xlate_of_det⟩, ⟨s_xlate_of_c1_ok, s_xlate_of_c1_det⟩, ⟨s_xlate_of_c2_ok, s_xlate_of_c2_det⟩, ⟨s_xlate_of_c3_ok, s_xlate_of_c3_det⟩, ⟨s_xlate_of_c4_ok, s_xlate_of_c4_det⟩, trivial⟩ _
 refine sum_ok hE Try.func33 rfl (by kernel_rfl) s_xlate_Encode [.dat (.sl (.int .u8)) false, .raw] xlate_Encode.k ?_
 intro R avs objs κ r h
 unfold s_xlate_Encode at h
 simp only [veil_eq] at h
 split at h
 ·rename_i gen mKind mFrom mInc mSpanLo mSpanHi mSeq mTarget mLife mEpoch mBase mRecs base
  split at h
  ·cases h
  ·rename_i y hy
   refine ⟨BIG, _, _, _, (xlate_Encode.eq BIG gen mKind mFrom mInc mSpanLo mSpanHi mSeq mTarget mLife mEpoch mBase mRecs base).trans hy, ?_, h⟩
   intro rs ros hk
   unfold xlate_Encode.k at hk
   split at hk
   ·first | (cases hk; exact ⟨rfl, rfl⟩) | (have e := Option.some.inj hk; rw [← e]; exact ⟨rfl, rfl⟩)
   ·cases hk
 ·cases h
noncomputable def xlate_Decode_E : Env := ⟨th, gam [(19, s_gen3_Encode), (29, s_gen3_Decode), (78, s_xlate_of), (109, s_xlate_of_c1), (110, s_xlate_of_c2), (111, s_xlate_of_c3), (112, s_xlate_of_c4)], fun i => ⟨[], [], []⟩⟩
noncomputable def xlate_Decode.k (rs : List AV) (os : List Den.Obj) : Option (Int × Int × Int × Int × Int × Int × Int × Int × Int × Int × LR × Int) :=
 match rs, os with
 | [.agg [.d (.int .i64) r0, .d (.int .i64) r1, .d (.int .i64) r2, .d (.int .i64) r3, .d (.int .i64) r4, .d (.int .i64) r5, .d (.int .i64) r6, .d (.int .i64) r7, .d (.int .i64) r8, .d (.int .i64) r9, .d (.sl (.pair (.int .i64) (.pair (.int .i64) (.pair (.int .i64) (.pair (.pair (.int .i64) (.int .i64)) (.pair .bool (.sl (.pair (.int .i64) (.sl (.int .u8)))))))))) r10], .d (.int .i64) r11], [] => some (r0, r1, r2, r3, r4, r5, r6, r7, r8, r9, r10, r11)
 | _, _ => none
noncomputable def xlate_Decode.b (gen : Int) (b : List Int) (base : LR) : Option (Int × Int × Int × Int × Int × Int × Int × Int × Int × Int × LR × Int) :=
 (if (gen == (1 : Int)) then (match (veil (xlate_of_c2.f BIG b base)) with | none => none | some y0 => some (y0.1, y0.2.1, y0.2.2.1, y0.2.2.2.1, y0.2.2.2.2.1, y0.2.2.2.2.2.1, y0.2.2.2.2.2.2.1, y0.2.2.2.2.2.2.2.1, y0.2.2.2.2.2.2.2.2.1, y0.2.2.2.2.2.2.2.2.2.1, y0.2.2.2.2.2.2.2.2.2.2.1, y0.2.2.2.2.2.2.2.2.2.2.2)) else (if (gen == (2 : Int)) then (match (veil (xlate_of_c4.f BIG b base)) with | none => none | some y1 => some (y1.1, y1.2.1, y1.2.2.1, y1.2.2.2.1, y1.2.2.2.2.1, y1.2.2.2.2.2.1, y1.2.2.2.2.2.2.1, y1.2.2.2.2.2.2.2.1, y1.2.2.2.2.2.2.2.2.1, y1.2.2.2.2.2.2.2.2.2.1, y1.2.2.2.2.2.2.2.2.2.2.1, y1.2.2.2.2.2.2.2.2.2.2.2)) else (if (gen == (3 : Int)) then (match (veil (gen3_Decode.f BIG b base)) with | none => none | some y2 => some (y2.1, y2.2.1, y2.2.2.1, y2.2.2.2.1, y2.2.2.2.2.1, y2.2.2.2.2.2.1, y2.2.2.2.2.2.2.1, y2.2.2.2.2.2.2.2.1, y2.2.2.2.2.2.2.2.2.1, y2.2.2.2.2.2.2.2.2.2.1, y2.2.2.2.2.2.2.2.2.2.2.1, y2.2.2.2.2.2.2.2.2.2.2.2)) else some (0, 0, 0, 0, 0, 0, 0, 0, 0, 0, ([] : LR), (5 : Int)))))
noncomputable def xlate_Decode.f (fuel : Nat) (gen : Int) (b : List Int) (base : LR) : Option (Int × Int × Int × Int × Int × Int × Int × Int × Int × Int × LR × Int) := xlate_Decode.b gen b base
theorem xlate_Decode.eq (fuel : Nat) (gen : Int) (b : List Int) (base : LR) : (denF xlate_Decode_E loopN fuel Try.f35 [.dat (.pair (.int .i64) (.pair (.int .i64) (.pair (.int .i64) (.pair (.pair (.int .i64) (.int .i64)) (.pair (.int .i64) (.pair (.int .i64) (.pair (.int .i64) (.pair (.int .i64) (.pair (.int .i64) (.sl (.pair (.int .i64) (.pair (.int .i64) (.pair (.int .i64) (.pair (.pair (.int .i64) (.int .i64)) (.pair .bool (.sl (.pair (.int .i64) (.sl (.int .u8))))))))))))))))))) true, .raw] [.d (.int .i64) gen, .d (.sl (.int .u8)) b, .d (.sl (.pair (.int .i64) (.pair (.int .i64) (.pair (.int .i64) (.pair (.pair (.int .i64) (.int .i64)) (.pair .bool (.sl (.pair (.int .i64) (.sl (.int .u8)))))))))) base] [] xlate_Decode.k) = xlate_Decode.f fuel gen b base := by
 kernel_rfl
noncomputable def s_xlate_Decode : Den.Sum := ⟨[.raw, .dat (.sl (.int .u8)) false, .dat (.sl (.pair (.int .i64) (.pair (.int .i64) (.pair (.int .i64) (.pair (.pair (.int .i64) (.int .i64)) (.pair .bool (.sl (.pair (.int .i64) (.sl (.int .u8)))))))))) false], fun args objs κ => match args, objs with
 | [.d (.int .i64) gen, .d (.sl (.int .u8)) b, .d (.sl (.pair (.int .i64) (.pair (.int .i64) (.pair (.int .i64) (.pair (.pair (.int .i64) (.int .i64)) (.pair .bool (.sl (.pair (.int .i64) (.sl (.int .u8)))))))))) base], [] => (match veil (xlate_Decode.f BIG gen b base) with | none => none | some y => κ [.agg [.d (.int .i64) y.1, .d (.int .i64) y.2.1, .d (.int .i64) y.2.2.1, .d (.int .i64) y.2.2.2.1, .d (.int .i64) y.2.2.2.2.1, .d (.int .i64) y.2.2.2.2.2.1, .d (.int .i64) y.2.2.2.2.2.2.1, .d (.int .i64) y.2.2.2.2.2.2.2.1, .d (.int .i64) y.2.2.2.2.2.2.2.2.1, .d (.int .i64) y.2.2.2.2.2.2.2.2.2.1, .d (.sl (.pair (.int .i64) (.pair (.int .i64) (.pair (.int .i64) (.pair (.pair (.int .i64) (.int .i64)) (.pair .bool (.sl (.pair (.int .i64) (.sl (.int .u8)))))))))) y.2.2.2.2.2.2.2.2.2.2.1], .d (.int .i64) y.2.2.2.2.2.2.2.2.2.2.2] [])
 | _, _ => none⟩
end Go.Proofs.Ytnlkghcibpopgaa
