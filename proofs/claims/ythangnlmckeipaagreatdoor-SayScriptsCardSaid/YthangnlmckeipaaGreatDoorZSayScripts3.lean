/- SayScripts: whatever acts are given, the law returns true, and the input reads as it did; the listed tables are tied to the text of the program. -/
import Derived.Test.YthangnlmckeipaaGreatDoorZSayScripts2
set_option linter.unusedVariables false
set_option linter.unusedSimpArgs false
set_option maxRecDepth 100000
namespace Go.Proofs.YthangnlmckeipaaGreatDoor
open Go.Den
open Go.Den Go.RowKit
open Go.Say (Word)
open Go.Say (Word Deed mv1 zero names partsOf)
theorem bag_loop (a : Deed) (ha : Tiny a) : ∀ (n i k : Nat) (x : ByteArray), i + n = a.bag.length → n < k → x.size ≤ 10000 + 20022 * i →
    law39_line.l18 BIG a.kind a.i a.k a.at' a.by' a.lo a.hi a.bag a.draws k x (i : Int) = law39_line.l25 BIG a.kind a.i a.k a.at' a.by' a.lo a.hi a.bag a.draws BIG (x ++ bOf ((a.bag.drop i).flatMap fun f => spw (Go.Say.fieldW f))) := by
  have hbl := ha.bag
  intro n
  induction n with
  | zero =>
    intro i k x hi hk hx
    rw [law39_line.l18_at BIG k (k - 1) (by omega)]
    unfold law39_line.b18
    rw [if_neg (by rw [decide_eq_true_eq]; omega), List.drop_of_length_le (by omega), List.flatMap_nil, app_nil]
  | succ n ih =>
    intro i k x hi hk hx
    rw [law39_line.l18_at BIG k (k - 1) (by omega)]
    unfold law39_line.b18
    have hil : i < a.bag.length := by omega
    have hm := List.getElem_mem hil
    have hok := ha.ok.bag _ hm
    have hdl := ha.data _ hm
    have hlen := itoa_len _ hok.1
    have hfl := field_len _ hok hdl
    rw [if_pos (by rw [decide_eq_true_eq]; omega), sp_eq, co_eq, if_pos (by rw [bOf_size, List.length_singleton]; omega), idx_at, List.getElem?_eq_getElem hil]
    simp only [veil_eq]
    rw [Num2.pure _ hok.1]
    simp only
    rw [if_pos (by simp only [ByteArray.size_append, bOf_size, List.length_singleton]; omega), if_pos (by simp only [ByteArray.size_append, bOf_size, List.length_singleton]; omega)]
    rw [show (0 : Int) = ((0 : Nat) : Int) from rfl, hex_loop BIG a _ i hil (by omega) hdl hok.2 a.bag[i].2.length 0 BIG _ (by omega) (by rw [BIG_eq]; omega) (by simp only [ByteArray.size_append, bOf_size, List.length_singleton]; omega), List.drop_zero]
    have e : ∀ r : Word, x ++ bOf [32] ++ bOf (Go.Lib.itoa a.bag[i].1) ++ bOf [58] ++ bOf (Go.Say.hexs a.bag[i].2) ++ bOf r = x ++ bOf (spw (Go.Say.fieldW a.bag[i]) ++ r) := by
      intro r
      rw [app_bOf, app_bOf, app_bOf, app_bOf]
      congr 2
      simp [spw, Go.Say.fieldW]
    have e0 := e []
    rw [app_nil, List.append_nil] at e0
    rw [e0, ih (i + 1) (k - 1) _ (by omega) (by omega) (by simp only [ByteArray.size_append, bOf_size]; omega), List.drop_eq_getElem_cons hil, List.flatMap_cons, app_bOf]
def sBag (a : Deed) : Word := if a.kind = 1 ∨ a.kind = 11 then a.bag.flatMap fun f => spw (Go.Say.fieldW f) else []
def sDraws (a : Deed) : Word := if a.kind = 3 then a.draws.flatMap fun d => spw (Go.Lib.itoa d) else []
theorem l16_eq (a : Deed) (ha : Tiny a) (x : ByteArray) (hx : x.size ≤ 10000) : law39_line.l16 BIG a.kind a.i a.k a.at' a.by' a.lo a.hi a.bag a.draws BIG x = some (x ++ bOf (sBag a ++ sDraws a)) := by
  rw [law39_line.l16_at BIG BIG (BIG - 1) big_eq]
  unfold law39_line.b16
  have hbl := ha.bag
  have hfl := flat_len (fun f => spw (Go.Say.fieldW f)) 20022 a.bag fun f hf => field_len f (ha.ok.bag f hf) (ha.data f hf)
  have main : law39_line.l18 BIG a.kind a.i a.k a.at' a.by' a.lo a.hi a.bag a.draws BIG x 0 = some (x ++ bOf ((a.bag.flatMap fun f => spw (Go.Say.fieldW f)) ++ sDraws a)) := by
    have := bag_loop a ha a.bag.length 0 BIG x (by omega) (by rw [BIG_eq]; omega) (by omega)
    rw [List.drop_zero] at this
    rw [show (0 : Int) = ((0 : Nat) : Int) from rfl, this, l25_eq a ha _ (by simp only [ByteArray.size_append, bOf_size]; omega), app_bOf]
    rfl
  unfold sBag
  by_cases h1 : a.kind = 1
  · rw [if_pos (by simpa using h1), main, if_pos (.inl h1)]
  · rw [if_neg (by simpa using h1)]
    by_cases h2 : a.kind = 11
    · rw [if_pos (by simpa using h2), main, if_pos (.inr h2)]
    · rw [if_neg (by simpa using h2), if_neg (by rintro (h | h); exact h1 h; exact h2 h), l25_eq a ha x (by omega)]
      rfl
def sSpan (a : Deed) : Word := if a.kind = 1 then spw (Go.Lib.itoa a.lo ++ 45 :: Go.Lib.itoa a.hi) else []
theorem l14_eq (a : Deed) (ha : Tiny a) (x : ByteArray) (hx : x.size ≤ 1000) : law39_line.l14 BIG a.kind a.i a.k a.at' a.by' a.lo a.hi a.bag a.draws BIG x = some (x ++ bOf (sSpan a ++ (sBag a ++ sDraws a))) := by
  rw [law39_line.l14_at BIG BIG (BIG - 1) big_eq]
  unfold law39_line.b14 sSpan
  have hl := itoa_len _ ha.lo
  have hh := itoa_len _ ha.hi
  by_cases h1 : a.kind = 1
  · rw [if_pos (by simpa using h1), sp_eq, da_eq, if_pos (by rw [bOf_size, List.length_singleton]; omega)]
    simp only [veil_eq, Num2.pure _ ha.lo, Num2.pure _ ha.hi]
    rw [if_pos (by simp only [ByteArray.size_append, bOf_size, List.length_singleton]; omega), if_pos (by simp only [ByteArray.size_append, bOf_size, List.length_singleton]; omega), if_pos (by simp only [ByteArray.size_append, bOf_size, List.length_singleton]; omega)]
    rw [l16_eq a ha _ (by simp only [ByteArray.size_append, bOf_size, List.length_singleton]; omega), app_bOf, app_bOf, app_bOf, app_bOf, if_pos h1]
    congr 3
    simp [spw]
  · rw [if_neg (by simpa using h1), if_neg h1, l16_eq a ha x (by omega)]
    rfl
def sBy (a : Deed) : Word := if a.kind = 7 then spw (Go.Lib.itoa a.by') else []
theorem l12_eq (a : Deed) (ha : Tiny a) (x : ByteArray) (hx : x.size ≤ 500) : law39_line.l12 BIG a.kind a.i a.k a.at' a.by' a.lo a.hi a.bag a.draws BIG x = some (x ++ bOf (sBy a ++ (sSpan a ++ (sBag a ++ sDraws a)))) := by
  rw [law39_line.l12_at BIG BIG (BIG - 1) big_eq]
  unfold law39_line.b12 sBy
  have hl := itoa_len _ ha.ok.by'
  by_cases h1 : a.kind = 7
  · rw [if_pos (by simpa using h1), sp_eq, if_pos (by rw [bOf_size, List.length_singleton]; omega)]
    simp only [veil_eq, Num2.pure _ ha.ok.by']
    rw [if_pos (by simp only [ByteArray.size_append, bOf_size, List.length_singleton]; omega), l14_eq a ha _ (by simp only [ByteArray.size_append, bOf_size, List.length_singleton]; omega), app_bOf, app_bOf, if_pos h1]
    congr 3
  · rw [if_neg (by simpa using h1), if_neg h1, l14_eq a ha x (by omega)]
    rfl
def sAt (a : Deed) : Word := if a.kind = 7 ∨ a.kind = 8 then spw (Go.Lib.itoa a.at') else []
theorem l10_eq (a : Deed) (ha : Tiny a) (x : ByteArray) (hx : x.size ≤ 300) : law39_line.l10 BIG a.kind a.i a.k a.at' a.by' a.lo a.hi a.bag a.draws BIG x = some (x ++ bOf (sAt a ++ (sBy a ++ (sSpan a ++ (sBag a ++ sDraws a))))) := by
  rw [law39_line.l10_at BIG BIG (BIG - 1) big_eq]
  unfold law39_line.b10 sAt
  have hl := itoa_len _ ha.ok.at'
  have main : (if ((ByteArray.size x) + (ByteArray.size (⟨((32 :: ([] : List UInt8))).toArray⟩ : ByteArray))) ≤ (1099511627776 : Nat) then (match (veil (law39_num.f BIG a.at')) with | none => none | some y7 => (if ((ByteArray.size (x ++ (⟨((32 :: ([] : List UInt8))).toArray⟩ : ByteArray))) + (ByteArray.size y7)) ≤ (1099511627776 : Nat) then law39_line.l12 BIG a.kind a.i a.k a.at' a.by' a.lo a.hi a.bag a.draws BIG ((x ++ (⟨((32 :: ([] : List UInt8))).toArray⟩ : ByteArray)) ++ y7) else none)) else none) = some (x ++ bOf (spw (Go.Lib.itoa a.at') ++ (sBy a ++ (sSpan a ++ (sBag a ++ sDraws a))))) := by
    rw [sp_eq, if_pos (by rw [bOf_size, List.length_singleton]; omega)]
    simp only [veil_eq, Num2.pure _ ha.ok.at']
    rw [if_pos (by simp only [ByteArray.size_append, bOf_size, List.length_singleton]; omega), l12_eq a ha _ (by simp only [ByteArray.size_append, bOf_size, List.length_singleton]; omega), app_bOf, app_bOf]
    congr 3
  by_cases h1 : a.kind = 7
  · rw [if_pos (by simpa using h1)]
    refine Eq.trans main ?_
    rw [if_pos (.inl h1)]
  · rw [if_neg (by simpa using h1)]
    by_cases h2 : a.kind = 8
    · rw [if_pos (by simpa using h2)]
      refine Eq.trans main ?_
      rw [if_pos (.inr h2)]
    · rw [if_neg (by simpa using h2), if_neg (by rintro (h | h); exact h1 h; exact h2 h), l12_eq a ha x (by omega)]
      rfl
def sK (a : Deed) : Word := if 4 ≤ a.kind ∧ a.kind ≤ 9 then spw (Go.Lib.itoa a.k) else []
theorem l8_eq (a : Deed) (ha : Tiny a) (x : ByteArray) (hx : x.size ≤ 200) : law39_line.l8 BIG a.kind a.i a.k a.at' a.by' a.lo a.hi a.bag a.draws BIG x = some (x ++ bOf (sK a ++ (sAt a ++ (sBy a ++ (sSpan a ++ (sBag a ++ sDraws a)))))) := by
  rw [law39_line.l8_at BIG BIG (BIG - 1) big_eq]
  unfold law39_line.b8 sK
  have hl := itoa_len _ ha.ok.k
  by_cases h1 : a.kind ≥ 4
  · rw [if_pos (by simpa using h1)]
    by_cases h2 : a.kind ≤ 9
    · rw [if_pos (by simpa using h2), sp_eq, if_pos (by rw [bOf_size, List.length_singleton]; omega)]
      simp only [veil_eq, Num2.pure _ ha.ok.k]
      rw [if_pos (by simp only [ByteArray.size_append, bOf_size, List.length_singleton]; omega), l10_eq a ha _ (by simp only [ByteArray.size_append, bOf_size, List.length_singleton]; omega), app_bOf, app_bOf, if_pos ⟨h1, h2⟩]
      congr 3
    · rw [if_neg (by simpa using h2), if_neg (fun h => h2 h.2), l10_eq a ha x (by omega)]
      rfl
  · rw [if_neg (by simpa using h1), if_neg (fun h => h1 h.1), l10_eq a ha x (by omega)]
    rfl
def sI (a : Deed) : Word := if a.kind ≤ 3 ∨ 9 ≤ a.kind then spw (Go.Lib.itoa a.i) else []
theorem names_at (k : Nat) (h : k < 12) : idx (names.map bOf) (k : Int) = some (bOf (names.getD k [])) := by
  rw [idx_at]
  have : k = 0 ∨ k = 1 ∨ k = 2 ∨ k = 3 ∨ k = 4 ∨ k = 5 ∨ k = 6 ∨ k = 7 ∨ k = 8 ∨ k = 9 ∨ k = 10 ∨ k = 11 := by omega
  rcases this with rfl | rfl | rfl | rfl | rfl | rfl | rfl | rfl | rfl | rfl | rfl | rfl <;> rfl
theorem name_len (k : Nat) : (names.getD k []).length ≤ 7 := by
  rcases Nat.lt_or_ge k 12 with h | h
  · have : k = 0 ∨ k = 1 ∨ k = 2 ∨ k = 3 ∨ k = 4 ∨ k = 5 ∨ k = 6 ∨ k = 7 ∨ k = 8 ∨ k = 9 ∨ k = 10 ∨ k = 11 := by omega
    rcases this with rfl | rfl | rfl | rfl | rfl | rfl | rfl | rfl | rfl | rfl | rfl | rfl <;> decide
  · rw [List.getD_eq_getElem?_getD, List.getElem?_eq_none (show names.length ≤ k from h)]
    exact Nat.zero_le _
theorem l5_eq (a : Deed) (ha : Tiny a) (k : Nat) (hk : a.kind = k) (h : 1 ≤ k ∧ k ≤ 11) : law39_line.l5 BIG a.kind a.i a.k a.at' a.by' a.lo a.hi a.bag a.draws BIG = some (bOf (names.getD k [] ++ (sI a ++ (sK a ++ (sAt a ++ (sBy a ++ (sSpan a ++ (sBag a ++ sDraws a)))))))) := by
  rw [law39_line.l5_at BIG BIG (BIG - 1) big_eq]
  unfold law39_line.b5 sI
  have hl := itoa_len _ ha.ok.i
  have hn := name_len k
  have en : ∀ X : List ByteArray, X = names.map bOf → idx X a.kind = some (bOf (names.getD k [])) := fun X hX => by rw [hX, hk]; exact names_at k (by omega)
  split
  · rename_i hy
    cases hy.symm.trans (en _ rfl)
  rename_i y1 hy
  obtain rfl := Option.some.inj (hy.symm.trans (en _ rfl))
  clear hy
  split
  · rename_i hy
    cases hy
  rename_i y2 hy
  obtain rfl := Option.some.inj hy
  clear hy
  have e0 : ∀ u v : Word, bOf u ++ bOf v = bOf (u ++ v) := fun u v => by apply lit_ext; simp [bOf]
  have main : (if ((ByteArray.size (bOf (names.getD k []))) + (ByteArray.size (⟨((32 :: ([] : List UInt8))).toArray⟩ : ByteArray))) ≤ (1099511627776 : Nat) then (match (veil (law39_num.f BIG a.i)) with | none => none | some y3 => (if ((ByteArray.size (bOf (names.getD k []) ++ (⟨((32 :: ([] : List UInt8))).toArray⟩ : ByteArray))) + (ByteArray.size y3)) ≤ (1099511627776 : Nat) then law39_line.l8 BIG a.kind a.i a.k a.at' a.by' a.lo a.hi a.bag a.draws BIG ((bOf (names.getD k []) ++ (⟨((32 :: ([] : List UInt8))).toArray⟩ : ByteArray)) ++ y3) else none)) else none) = some (bOf (names.getD k [] ++ (spw (Go.Lib.itoa a.i) ++ (sK a ++ (sAt a ++ (sBy a ++ (sSpan a ++ (sBag a ++ sDraws a)))))))) := by
    rw [sp_eq, if_pos (by rw [bOf_size, bOf_size, List.length_singleton]; omega)]
    simp only [veil_eq, Num2.pure _ ha.ok.i]
    rw [if_pos (by simp only [ByteArray.size_append, bOf_size, List.length_singleton]; omega), l8_eq a ha _ (by simp only [ByteArray.size_append, bOf_size, List.length_singleton]; omega), app_bOf, app_bOf, e0]
    congr 2
  by_cases h1 : a.kind ≤ 3
  · rw [if_pos (by simpa using h1)]
    refine Eq.trans main ?_
    rw [if_pos (.inl h1)]
  · rw [if_neg (by simpa using h1)]
    by_cases h2 : a.kind ≥ 9
    · rw [if_pos (by simpa using h2)]
      refine Eq.trans main ?_
      rw [if_pos (.inr h2)]
    · rw [if_neg (by simpa using h2), if_neg (by rintro (h | h); exact h1 h; exact h2 h), l8_eq a ha _ (by rw [bOf_size]; omega), e0]
      rfl
theorem join_flat (w : Word) (ws : List Word) : Go.Lib.join (w :: ws) [32] = w ++ ws.flatMap spw := by
  rw [Go.Lib.join_cons]
  rfl
theorem itoa_dig (n : Nat) (h : n < 10) : Go.Lib.itoa (n : Int) = [UInt8.ofNat (48 + n)] := by
  unfold Go.Lib.itoa
  rw [if_neg (by omega), show ((n : Int)).toNat = n from rfl, Go.Lib.decDigits_one h]
theorem span_text (lo hi : Int) (h : Go.Say.spanOk lo hi = true) : Go.Lib.itoa lo ++ 45 :: Go.Lib.itoa hi = Go.Say.spanT lo hi := by
  have h' := of_decide_eq_true h
  obtain ⟨p, rfl⟩ : ∃ p : Nat, lo = p := ⟨lo.toNat, by omega⟩
  obtain ⟨q, rfl⟩ : ∃ q : Nat, hi = q := ⟨hi.toNat, by omega⟩
  rw [itoa_dig p (by omega), itoa_dig q (by omega)]
  rfl
theorem line_words (a : Deed) (k : Nat) (hk : a.kind = k) (h : 1 ≤ k ∧ k ≤ 11) (hs : k = 1 → Go.Say.spanOk a.lo a.hi = true) : names.getD k [] ++ (sI a ++ (sK a ++ (sAt a ++ (sBy a ++ (sSpan a ++ (sBag a ++ sDraws a)))))) = Go.Say.lineW k a := by
  unfold Go.Say.lineW Go.Say.words
  rw [join_flat]
  unfold sI sK sAt sBy sSpan sBag sDraws
  rw [hk]
  have : k = 1 ∨ k = 2 ∨ k = 3 ∨ k = 4 ∨ k = 5 ∨ k = 6 ∨ k = 7 ∨ k = 8 ∨ k = 9 ∨ k = 10 ∨ k = 11 := by omega
  have em : ∀ l : List (Int × List Int), (l.flatMap fun f => spw (Go.Say.fieldW f)) = (l.map Go.Say.fieldW).flatMap spw := fun l => by rw [List.flatMap_map]
  have ed : ∀ l : List Int, (l.flatMap fun f => spw (Go.Lib.itoa f)) = (l.map Go.Lib.itoa).flatMap spw := fun l => by rw [List.flatMap_map]
  rw [em, ed]
  rcases this with rfl | rfl | rfl | rfl | rfl | rfl | rfl | rfl | rfl | rfl | rfl
  · rw [span_text _ _ (hs rfl)]
    simp [partsOf, Go.Say.say]
  all_goals simp [partsOf, Go.Say.say]
def sayable (a : Deed) : Prop := (1 ≤ a.kind ∧ a.kind ≤ 11) ∧ (a.kind = 1 → Go.Say.spanOk a.lo a.hi = true)
noncomputable instance sayDec (a : Deed) : Decidable (sayable a) := Classical.propDecidable _
noncomputable def lineA (a : Deed) : Word := if sayable a then Go.Say.lineW a.kind.toNat a else []
theorem Line.pure (a : Deed) (ha : Tiny a) : law39_line.f BIG a.kind a.i a.k a.at' a.by' a.lo a.hi a.bag a.draws = some (bOf (lineA a)) := by
  unfold law39_line.f law39_line.b lineA
  by_cases h1 : a.kind < 1
  · rw [if_pos (by simpa using h1), if_neg (fun h => by have := h.1; omega)]
    rfl
  rw [if_neg (by simpa using h1)]
  by_cases h2 : a.kind > 11
  · rw [if_pos (by simpa using h2), if_neg (fun h => by have := h.1; omega)]
    rfl
  rw [if_neg (by simpa using h2)]
  have hk : a.kind = (a.kind.toNat : Nat) := by omega
  have main : (a.kind = 1 → Go.Say.spanOk a.lo a.hi = true) → law39_line.l5 BIG a.kind a.i a.k a.at' a.by' a.lo a.hi a.bag a.draws BIG = some (bOf (if sayable a then Go.Say.lineW a.kind.toNat a else [])) := by
    intro hs
    rw [if_pos ⟨by omega, hs⟩, l5_eq a ha a.kind.toNat hk (by omega), line_words a a.kind.toNat hk (by omega) (fun h => hs (by omega))]
  by_cases h3 : a.kind = 1
  · rw [if_pos (by simpa using h3)]
    simp only [veil_eq, Valid.pure]
    by_cases h4 : Go.Say.spanOk a.lo a.hi = true
    · rw [if_neg (by simp [h4])]
      exact main fun _ => h4
    · rw [if_pos (by simp [h4]), if_neg (fun h => h4 (h.2 h3))]
      rfl
  · rw [if_neg (by simpa using h3)]
    exact main fun h => absurd h h3
theorem flat_lenG {α β : Type} (f : α → List β) (B : Nat) : ∀ l : List α, (∀ x ∈ l, (f x).length ≤ B) → (l.flatMap f).length ≤ B * l.length
  | [], _ => by simp
  | x :: l, h => by
    have h1 := h x List.mem_cons_self
    have h2 := flat_lenG f B l fun y hy => h y (List.mem_cons_of_mem _ hy)
    rw [List.flatMap_cons, List.length_append, List.length_cons, Nat.mul_add]
    omega
theorem parts_len (k : Nat) (h : 1 ≤ k ∧ k ≤ 11) : (partsOf.getD k []).length ≤ 3 := by
  have : k = 1 ∨ k = 2 ∨ k = 3 ∨ k = 4 ∨ k = 5 ∨ k = 6 ∨ k = 7 ∨ k = 8 ∨ k = 9 ∨ k = 10 ∨ k = 11 := by omega
  rcases this with rfl | rfl | rfl | rfl | rfl | rfl | rfl | rfl | rfl | rfl | rfl <;> decide
theorem words_len (a : Deed) (ha : Few40 a) (k : Nat) (h : 1 ≤ k ∧ k ≤ 11) : (Go.Say.words k a).length ≤ 1000 := by
  unfold Go.Say.words
  have h1 := flat_lenG (Go.Say.say a) 40 (partsOf.getD k []) fun j _ => by
    match j with
    | 0 | 1 | 2 | 3 | 4 => exact Nat.le_trans (Nat.le_refl 1) (by omega)
    | 5 => show (a.bag.map Go.Say.fieldW).length ≤ _; rw [List.length_map]; exact ha.bag
    | 6 => show (a.draws.map Go.Lib.itoa).length ≤ _; rw [List.length_map]; exact ha.draws
    | j + 7 => exact Nat.zero_le _
  have h2 := parts_len k h
  rw [List.length_cons]
  omega
def bnd (j : Nat) : Nat := [21, 21, 21, 21, 4, 400880, 840].getD j 0
theorem say_flat (a : Deed) (ht : Tiny a) (ha : Few40 a) (j : Nat) : ((Go.Say.say a j).flatMap spw).length ≤ bnd j := by
  have one : ∀ v, i64R v → (([Go.Lib.itoa v] : List Word).flatMap spw).length ≤ 21 := fun v hv => by
    have := itoa_len v hv
    simp [spw]
    omega
  match j with
  | 0 => exact one _ ht.ok.i
  | 1 => exact one _ ht.ok.k
  | 2 => exact one _ ht.ok.at'
  | 3 => exact one _ ht.ok.by'
  | 4 => exact Nat.le_refl 4
  | 5 =>
    show ((a.bag.map Go.Say.fieldW).flatMap spw).length ≤ 400880
    have := flat_len spw 10022 (a.bag.map Go.Say.fieldW) fun w hw => by
      obtain ⟨f, hf, rfl⟩ := List.mem_map.1 hw
      have h1 := itoa_len f.1 (ht.ok.bag f hf).1
      have h2 := Go.Say.hexs_len f.2
      have h3 := ha.data f hf
      unfold spw Go.Say.fieldW
      simp only [List.length_cons, List.length_append, h2]
      omega
    rw [List.length_map] at this
    have := ha.bag
    omega
  | 6 =>
    show ((a.draws.map Go.Lib.itoa).flatMap spw).length ≤ 840
    have := flat_len spw 21 (a.draws.map Go.Lib.itoa) fun w hw => by
      obtain ⟨d, hd, rfl⟩ := List.mem_map.1 hw
      have h1 := itoa_len d (ht.ok.draws d hd)
      unfold spw
      simp only [List.length_cons]
      omega
    rw [List.length_map] at this
    have := ha.draws
    omega
  | j + 7 => exact Nat.zero_le _
theorem line_len (a : Deed) (ht : Tiny a) (ha : Few40 a) (k : Nat) (h : 1 ≤ k ∧ k ≤ 11) : (Go.Say.lineW k a).length ≤ 402000 := by
  unfold Go.Say.lineW Go.Say.words
  rw [join_flat, List.length_append]
  have hn := name_len k
  have key : ∀ l : List Nat, ((l.flatMap (Go.Say.say a)).flatMap spw).length ≤ (l.map bnd).sum := by
    intro l
    induction l with
    | nil => exact Nat.le_refl 0
    | cons j l ih =>
      have := say_flat a ht ha j
      rw [List.flatMap_cons, List.flatMap_append, List.length_append, List.map_cons, List.sum_cons]
      omega
  have h2 := key (partsOf.getD k [])
  have : k = 1 ∨ k = 2 ∨ k = 3 ∨ k = 4 ∨ k = 5 ∨ k = 6 ∨ k = 7 ∨ k = 8 ∨ k = 9 ∨ k = 10 ∨ k = 11 := by omega
  have h3 : ((partsOf.getD k []).map bnd).sum ≤ 401000 := by
    rcases this with rfl | rfl | rfl | rfl | rfl | rfl | rfl | rfl | rfl | rfl | rfl <;> decide
  omega
theorem i64_small (v : Int) (h : -1000 ≤ v ∧ v ≤ 1000) : i64R v := by unfold i64R; omega
def ex1 : Deed := ⟨1, 3, 0, 0, 0, 1, 2, [(40, [10, 255])], []⟩
theorem itoa40 : Go.Lib.itoa 40 = [52, 48] := by
  unfold Go.Lib.itoa
  rw [if_neg (by omega), show Int.toNat 40 = 40 from rfl, Go.Lib.decDigits_two (by omega) (by omega)]
  rfl
theorem itoa_neg1 : Go.Lib.itoa (-1) = [45, 49] := by
  unfold Go.Lib.itoa
  rw [if_pos (by omega), show Int.natAbs (-1) = 1 from rfl, Go.Lib.decDigits_one (by omega)]
  rfl
theorem ex1_line : Go.Say.lineW 1 ex1 = [115, 116, 97, 114, 116, 32, 51, 32, 49, 45, 50, 32, 52, 48, 58, 48, 97, 102, 102] := by
  unfold Go.Say.lineW Go.Say.words
  rw [join_flat]
  show [115, 116, 97, 114, 116] ++ (([Go.Lib.itoa (3 : Nat)] ++ ([Go.Say.spanT 1 2] ++ ([Go.Lib.itoa 40 ++ 58 :: Go.Say.hexs [10, 255]] ++ []))) : List Word).flatMap spw = _
  rw [itoa_dig 3 (by omega), itoa40]
  rfl
theorem ex1_ok : Go.Say.Ok ex1 := by
  refine ⟨i64_small _ (by decide), i64_small _ (by decide), i64_small _ (by decide), i64_small _ (by decide), ?_, by simp [ex1]⟩
  intro f hf
  rw [List.mem_singleton.1 hf]
  refine ⟨i64_small _ (by decide), ?_⟩
  intro c hc
  rcases List.mem_cons.1 hc with rfl | hc
  · omega
  · rw [List.mem_singleton.1 hc]; omega
def ex3 : Deed := ⟨3, 0, 0, 0, 0, 0, 0, [], [5, -1]⟩
theorem ex3_line : Go.Say.lineW 3 ex3 = [116, 105, 99, 107, 32, 48, 32, 53, 32, 45, 49] := by
  unfold Go.Say.lineW Go.Say.words
  rw [join_flat]
  show [116, 105, 99, 107] ++ (([Go.Lib.itoa (0 : Nat)] ++ ([Go.Lib.itoa (5 : Nat), Go.Lib.itoa (-1)] ++ [])) : List Word).flatMap spw = _
  rw [itoa_dig 0 (by omega), itoa_dig 5 (by omega), itoa_neg1]
  rfl
theorem ex3_small : Small ex3 := by
  refine ⟨⟨by decide, by simp [ex3], by simp [ex3]⟩, by decide, ⟨i64_small _ (by decide), i64_small _ (by decide), i64_small _ (by decide), i64_small _ (by decide), by simp [ex3], ?_⟩⟩
  intro d hd
  rcases List.mem_cons.1 hd with rfl | hd
  · exact i64_small _ (by decide)
  · rw [List.mem_singleton.1 hd]; exact i64_small _ (by decide)
theorem stop03 : Go.Say.parseL [115, 116, 111, 112, 32, 48, 51] = none := by
  cases h : Go.Say.parseL [115, 116, 111, 112, 32, 48, 51] with
  | none => rfl
  | some a =>
    exfalso
    unfold Go.Say.parseL at h
    rw [show Go.Say.spl 32 [115, 116, 111, 112, 32, 48, 51] = [[115, 116, 111, 112], [48, 51]] by decide, Go.Say.parseW, show Go.Say.kindOf [115, 116, 111, 112] = some 2 by decide] at h
    have h := Go.Say.fin_some (show Go.Say.fin (Go.Say.reads [0] (zero 2) [[48, 51]]) = some a from h)
    obtain ⟨a', ws', e, _⟩ := Go.Say.reads_cons h
    obtain ⟨v, e2, hv, _⟩ := Go.Say.read_0 e
    have e3 : Go.Lib.itoa v = [48, 51] := (List.cons.inj e2).1.symm
    have e4 := Go.Say.atoi_itoa v hv.1 hv.2
    rw [e3] at e4
    have e5 : Go.Lib.atoiAll [48, 51] = .ok 3 := by first | rfl | decide
    rw [e5] at e4
    injection e4 with e6
    rw [← e6, show (3 : Int) = ((3 : Nat) : Int) from rfl, itoa_dig 3 (by omega)] at e3
    revert e3
    decide
theorem Awake.pure : law39_awake.f BIG () = some true := by
  unfold law39_awake.f law39_awake.b
  have p1 := Parse.pure (⟨((115 :: (116 :: (97 :: (114 :: (116 :: (32 :: (51 :: (32 :: (49 :: (45 :: (50 :: (32 :: (52 :: (48 :: (58 :: (48 :: (97 :: (102 :: (102 :: ([] : List UInt8))))))))))))))))))))).toArray⟩ : ByteArray) (by decide)
  have q1 : Go.Say.parseL (tOf (⟨((115 :: (116 :: (97 :: (114 :: (116 :: (32 :: (51 :: (32 :: (49 :: (45 :: (50 :: (32 :: (52 :: (48 :: (58 :: (48 :: (97 :: (102 :: (102 :: ([] : List UInt8))))))))))))))))))))).toArray⟩ : ByteArray)) = some (Go.Say.bare 1 ex1) := by
    have := Go.Say.parse_line (k := 1) (by omega) ex1_ok rfl (fun _ => rfl)
    rw [ex1_line] at this
    exact this
  rw [q1] at p1
  have p2 := Text.pure_ok ex3 ex3_small 3 rfl (by omega) (by omega) (by rw [ex3_line]; decide) (by decide)
  rw [ex3_line] at p2
  have p3 := Parse.pure (⟨((115 :: (116 :: (111 :: (112 :: (32 :: (48 :: (51 :: ([] : List UInt8))))))))).toArray⟩ : ByteArray) (by decide)
  rw [show Go.Say.parseL (tOf (⟨((115 :: (116 :: (111 :: (112 :: (32 :: (48 :: (51 :: ([] : List UInt8))))))))).toArray⟩ : ByteArray)) = none from stop03] at p3
  simp only [veil_eq, p1, p3]
  rw [show say_Text.f BIG (3 : Int) 0 0 0 0 0 0 [] (5 :: -(1 : Int) :: []) = _ from p2]
  simp only [toList_data]
  decide +kernel
theorem fold_keep (a : Deed) : ∀ (l : List Nat) (to : Deed), ((l.foldl (mv1 a) to).bag = a.bag ∨ (l.foldl (mv1 a) to).bag = to.bag) ∧ ((l.foldl (mv1 a) to).draws = a.draws ∨ (l.foldl (mv1 a) to).draws = to.draws)
  | [], to => ⟨.inr rfl, .inr rfl⟩
  | j :: l, to => by
    obtain ⟨h1, h2⟩ := fold_keep a l (mv1 a to j)
    have e : ((mv1 a to j).bag = a.bag ∨ (mv1 a to j).bag = to.bag) ∧ ((mv1 a to j).draws = a.draws ∨ (mv1 a to j).draws = to.draws) := by
      match j with
      | 0 | 1 | 2 | 3 | 4 => exact ⟨.inr rfl, .inr rfl⟩
      | 5 => exact ⟨.inl rfl, .inr rfl⟩
      | 6 => exact ⟨.inr rfl, .inl rfl⟩
      | j + 7 => exact ⟨.inr rfl, .inr rfl⟩
    obtain ⟨e1, e2⟩ := e
    rw [List.foldl_cons]
    refine ⟨?_, ?_⟩
    · rcases h1 with h1 | h1
      · exact .inl h1
      · rcases e1 with e1 | e1
        · exact .inl (h1.trans e1)
        · exact .inr (h1.trans e1)
    · rcases h2 with h2 | h2
      · exact .inl h2
      · rcases e2 with e2 | e2
        · exact .inl (h2.trans e2)
        · exact .inr (h2.trans e2)
theorem bare_sb {a : Deed} (h : Tiny a) : smallBag (bareA a).bag ∧ (bareA a).draws.length ≤ 1000000 := by
  obtain ⟨h1, h2⟩ := fold_keep a (partsB (bitsOf a.kind) 0) (zero a.kind)
  constructor
  · rcases h1 with h1 | h1
    · show smallBag (bareA a).bag
      rw [show (bareA a).bag = a.bag from h1]
      exact Tiny.sb h
    · rw [show (bareA a).bag = [] from h1]
      exact ⟨by decide, by simp⟩
  · rcases h2 with h2 | h2
    · rw [show (bareA a).draws = a.draws from h2]
      have := h.draws
      omega
    · rw [show (bareA a).draws = [] from h2]
      exact Nat.zero_le _
theorem bare_alike {a : Deed} (h : Tiny a) : law39_alike.f BIG (bareA a).kind (bareA a).i (bareA a).k (bareA a).at' (bareA a).by' (bareA a).lo (bareA a).hi (bareA a).bag (bareA a).draws (bareA a).kind (bareA a).i (bareA a).k (bareA a).at' (bareA a).by' (bareA a).lo (bareA a).hi (bareA a).bag (bareA a).draws = some true := by
  obtain ⟨h1, h2⟩ := bare_sb h
  rw [Alike.pure (bareA a) (bareA a) h1 h1 h2, decide_eq_true rfl]
/-- what is said of an act that can be said -/
structure Said (a : Deed) : Prop where
  text : say_Text.f BIG a.kind a.i a.k a.at' a.by' a.lo a.hi a.bag a.draws = some (bOf (lineA a), 0)
  line : law39_line.f BIG a.kind a.i a.k a.at' a.by' a.lo a.hi a.bag a.draws = some (bOf (lineA a))
  len : (lineA a).length ≤ 402000
  parse : Go.Say.parseL (lineA a) = some (bareA a)
  eq : lineA a = Go.Say.lineW a.kind.toNat a
theorem said_of {a : Deed} (ht : Tiny a) (hf : Few40 a) (h : sayable a) : Said a := by
  have hk : a.kind = (a.kind.toNat : Nat) := by have := h.1; omega
  have hr : 1 ≤ a.kind.toNat ∧ a.kind.toNat ≤ 11 := by have := h.1; omega
  have hs : a.kind.toNat = 1 → Go.Say.spanOk a.lo a.hi = true := fun e => h.2 (by omega)
  have el : lineA a = Go.Say.lineW a.kind.toNat a := by unfold lineA; rw [if_pos h]
  have hl := line_len a ht hf a.kind.toNat hr
  have hw := words_len a hf a.kind.toNat hr
  refine ⟨?_, Line.pure a ht, by rw [el]; exact hl, ?_, el⟩
  · rw [el]
    exact Text.pure_ok a (Tiny.small ht) a.kind.toNat hk hr hs (by omega) (by omega)
  · rw [el, Go.Say.parse_line hr ht.ok hk hs, bareA_kind a a.kind.toNat hk hr]
theorem text_bad {a : Deed} (h : ¬ sayable a) : ∃ e : Int, e ≠ 0 ∧ say_Text.f BIG a.kind a.i a.k a.at' a.by' a.lo a.hi a.bag a.draws = some (bOf [], e) := by
  by_cases h1 : 1 ≤ a.kind ∧ a.kind ≤ 11
  · have h2 : a.kind = 1 ∧ Go.Say.spanOk a.lo a.hi = false := by
      by_cases h3 : a.kind = 1
      · refine ⟨h3, ?_⟩
        cases hs : Go.Say.spanOk a.lo a.hi with
        | false => rfl
        | true => exact absurd ⟨h1, fun _ => hs⟩ h
      · exact absurd ⟨h1, fun e => absurd e h3⟩ h
    exact ⟨1, by decide, Text.pure_span a h2.1 h2.2⟩
  · exact ⟨10, by decide, Text.pure_kind a h1⟩
abbrev Elem := Int × (Int × (Int × (Int × (Int × ((Int × Int) × ((List (Int × (List Int))) × (List Int)))))))
def tup2 (a : Deed) : Elem := (a.kind, (a.i, (a.k, (a.at', (a.by', ((a.lo, a.hi), (a.bag, a.draws)))))))
def skipW (w : Word) : Bool := match w with
  | [] => true
  | c :: _ => c == 35
/-- what the acts of lines are: at which line there is none, its error, the acts -/
def actsF : List Word → Nat → List Deed → Nat × Int × List Deed
  | [], _, acc => (0, 0, acc)
  | w :: ws, n, acc => if skipW w = true then actsF ws (n + 1) acc else match Go.Say.parseL w with
    | none => (n + 1, 16, [])
    | some a => actsF ws (n + 1) (acc ++ [a])
def outA (r : Nat × Int × List Deed) : Int × Int × List Elem := ((r.1 : Int), r.2.1, r.2.2.map tup2)
theorem hash_iff (c : UInt8) : ((((UInt8.toNat c) : Nat) : Int) == (35 : Int)) = (c == 35) := by
  by_cases h : c = 35
  · rw [h]; rfl
  · have : c.toNat ≠ 35 := fun e => h (UInt8.toNat_inj.1 e)
    rw [show (c == 35) = false from by simpa using h]
    simp only [beq_eq_false_iff_ne, ne_eq]
    omega
theorem acts_loop (fuel : Nat) (text : ByteArray) (L : List ByteArray) (hL : splitL text (⟨((10 :: ([] : List UInt8))).toArray⟩ : ByteArray) = L) (hl : L.length ≤ 1000000000) (hw : ∀ w ∈ L, w.size ≤ 900000) : ∀ (n i k : Nat) (acc : List Deed), i + n = L.length → n < k → acc.length ≤ i →
    say_Acts.l3 fuel text k (L.length : Int) (i : Int) (acc.map tup2) = some (outA (actsF ((L.drop i).map tOf) i acc)) := by
  intro n
  induction n with
  | zero =>
    intro i k acc hi hk ha
    obtain ⟨k, rfl⟩ : ∃ k', k = k' + 1 := ⟨k - 1, by omega⟩
    rw [say_Acts.l3]
    unfold say_Acts.b3
    rw [if_neg (by rw [decide_eq_true_eq]; omega), List.drop_of_length_le (by omega)]
    rfl
  | succ n ih =>
    intro i k acc hi hk ha
    obtain ⟨k, rfl⟩ : ∃ k', k = k' + 1 := ⟨k - 1, by omega⟩
    rw [say_Acts.l3]
    unfold say_Acts.b3
    have hil : i < L.length := by omega
    have hsz := hw _ (List.getElem_mem hil)
    rw [if_pos (by rw [decide_eq_true_eq]; omega), hL, idx_at, List.getElem?_eq_getElem hil]
    simp only [veil_eq, toList_data]
    rw [Parse.pure _ hsz, wrap_small _ (by omega) (by omega), show ((i : Int) + 1) = ((i + 1 : Nat) : Int) by omega, List.drop_eq_getElem_cons hil, List.map_cons, show L[i].data.toList = tOf L[i] from rfl]
    have next := fun (acc' : List Deed) (h : acc'.length ≤ i + 1) => ih (i + 1) k acc' (by omega) (by omega) h
    generalize tOf L[i] = w
    generalize (L.drop (i + 1)).map tOf = ws at next
    cases w with
    | nil =>
      rw [if_pos (by rfl), next acc (by omega), actsF, if_pos (by rfl)]
    | cons c cs =>
      have e0 : idx (c :: cs) (0 : Int) = some c := (idx_at (c :: cs) 0).trans rfl
      rw [if_neg (by simp), e0, actsF]
      simp only
      rw [hash_iff]
      by_cases h35 : (c == 35) = true
      · rw [if_pos h35, if_pos (show skipW (c :: cs) = true from h35), next acc (by omega)]
      · rw [if_neg h35, if_neg (show ¬ skipW (c :: cs) = true from h35)]
        cases hp : Go.Say.parseL (c :: cs) with
        | none =>
          simp only
          rw [if_pos (show ((tup10 (zero 0) 16).2.2.2.2.2.2.2.2.2 != (0 : Int)) = true by decide)]
          rfl
        | some a =>
          simp only
          rw [if_neg (show ¬ ((tup10 a 0).2.2.2.2.2.2.2.2.2 != (0 : Int)) = true from (show ¬ ((0 : Int) != 0) = true by decide)), if_pos (by simp [lim]; omega)]
          have := next (acc ++ [a]) (by simp; omega)
          rw [List.map_append] at this
          exact this
theorem Acts.pure (text : ByteArray) (hs : text.size ≤ 100000000) (hw : ∀ w ∈ Go.Say.spl 10 (tOf text), w.length ≤ 900000) : say_Acts.f BIG text = some (outA (actsF (Go.Say.spl 10 (tOf text)) 0 [])) := by
  have e : (splitL text (⟨((10 :: ([] : List UInt8))).toArray⟩ : ByteArray)).map tOf = Go.Say.spl 10 (tOf text) := Go.Say.split_eq text _ 10 rfl
  obtain ⟨l1, _⟩ := spl_len 10 (tOf text)
  have htl : (tOf text).length = text.size := by simp [tOf]
  have hl : (splitL text (⟨((10 :: ([] : List UInt8))).toArray⟩ : ByteArray)).length ≤ text.size + 1 := by
    have := congrArg List.length e
    rw [List.length_map] at this
    omega
  have := acts_loop BIG text _ rfl (by omega) (fun w h => hw (tOf w) (by rw [← e]; exact List.mem_map_of_mem h)) (splitL text (⟨((10 :: ([] : List UInt8))).toArray⟩ : ByteArray)).length 0 BIG [] (by omega) (by rw [BIG_eq]; omega) (by simp)
  rw [List.drop_zero, e] at this
  unfold say_Acts.f say_Acts.b
  rw [if_pos ⟨by omega, by decide⟩]
  exact this
def deedOf (y : Elem) : Deed := ⟨y.1, y.2.1, y.2.2.1, y.2.2.2.1, y.2.2.2.2.1, y.2.2.2.2.2.1.1, y.2.2.2.2.2.1.2, y.2.2.2.2.2.2.1, y.2.2.2.2.2.2.2⟩
noncomputable def lineN (y : Elem) : Word := lineA (deedOf y) ++ [10]
noncomputable def errT (y : Elem) : Int := ((say_Text.f BIG y.1 y.2.1 y.2.2.1 y.2.2.2.1 y.2.2.2.2.1 y.2.2.2.2.2.1.1 y.2.2.2.2.2.1.2 y.2.2.2.2.2.2.1 y.2.2.2.2.2.2.2).getD (bOf [], 0)).2
theorem text_at (y : Elem) (S : Said (deedOf y)) : say_Text.f BIG y.1 y.2.1 y.2.2.1 y.2.2.2.1 y.2.2.2.2.1 y.2.2.2.2.2.1.1 y.2.2.2.2.2.1.2 y.2.2.2.2.2.2.1 y.2.2.2.2.2.2.2 = some (bOf (lineA (deedOf y)), 0) := S.text
theorem text_not (y : Elem) (h : ¬ sayable (deedOf y)) : say_Text.f BIG y.1 y.2.1 y.2.2.1 y.2.2.2.1 y.2.2.2.2.1 y.2.2.2.2.2.1.1 y.2.2.2.2.2.1.2 y.2.2.2.2.2.2.1 y.2.2.2.2.2.2.2 = some (bOf [], errT y) ∧ errT y ≠ 0 := by
  obtain ⟨e, he, h2⟩ := text_bad h
  have h3 : say_Text.f BIG y.1 y.2.1 y.2.2.1 y.2.2.2.1 y.2.2.2.2.1 y.2.2.2.2.2.1.1 y.2.2.2.2.2.1.2 y.2.2.2.2.2.2.1 y.2.2.2.2.2.2.2 = some (bOf [], e) := h2
  have : errT y = e := by unfold errT; rw [h3]; rfl
  rw [this]
  exact ⟨h3, he⟩
theorem line_at (y : Elem) (ht : Tiny (deedOf y)) : law39_line.f BIG y.1 y.2.1 y.2.2.1 y.2.2.2.1 y.2.2.2.2.1 y.2.2.2.2.2.1.1 y.2.2.2.2.2.1.2 y.2.2.2.2.2.2.1 y.2.2.2.2.2.2.2 = some (bOf (lineA (deedOf y))) := Line.pure (deedOf y) ht
theorem few_at (y : Elem) (hg : Given (deedOf y)) : ∃ r, law39_few.f BIG y.1 y.2.1 y.2.2.1 y.2.2.2.1 y.2.2.2.2.1 y.2.2.2.2.2.1.1 y.2.2.2.2.2.1.2 y.2.2.2.2.2.2.1 y.2.2.2.2.2.2.2 = some r ∧ (r = true → Tiny (deedOf y) ∧ Few40 (deedOf y)) := Few.pure (deedOf y) hg
theorem bare_at (y : Elem) : law39_bare.f BIG y.1 y.2.1 y.2.2.1 y.2.2.2.1 y.2.2.2.2.1 y.2.2.2.2.2.1.1 y.2.2.2.2.2.1.2 y.2.2.2.2.2.2.1 y.2.2.2.2.2.2.2 = some (tup (bareA (deedOf y))) := LBare.pure (deedOf y)
/-- an act's line, whatever it is -/
theorem lineA_len (a : Deed) (ht : Tiny a) (hf : Few40 a) : (lineA a).length ≤ 402000 := by
  by_cases h : sayable a
  · exact (said_of ht hf h).len
  · unfold lineA
    rw [if_neg h]
    exact Nat.zero_le _
theorem name_start : ∀ k : Nat, 1 ≤ k → k ≤ 11 → skipW (names.getD k []) = false := by
  intro k h1 h2
  have : k = 1 ∨ k = 2 ∨ k = 3 ∨ k = 4 ∨ k = 5 ∨ k = 6 ∨ k = 7 ∨ k = 8 ∨ k = 9 ∨ k = 10 ∨ k = 11 := by omega
  rcases this with rfl | rfl | rfl | rfl | rfl | rfl | rfl | rfl | rfl | rfl | rfl <;> decide
theorem skip_app (u v : Word) (h : skipW u = false) : skipW (u ++ v) = false := by
  cases u with
  | nil => cases h
  | cons c cs => exact h
theorem lineA_start (a : Deed) (h : sayable a) : skipW (lineA a) = false := by
  have hr : 1 ≤ a.kind.toNat ∧ a.kind.toNat ≤ 11 := by have := h.1; omega
  unfold lineA
  rw [if_pos h]
  unfold Go.Say.lineW Go.Say.words
  rw [join_flat]
  exact skip_app _ _ (name_start _ hr.1 hr.2)
theorem lineA_nil (a : Deed) : lineA a = [] ↔ ¬ sayable a := by
  constructor
  · intro h hs
    have := lineA_start a hs
    rw [h] at this
    cases this
  · intro h
    unfold lineA
    rw [if_neg h]
theorem lineA_no (a : Deed) (h : sayable a) : (10 : UInt8) ∉ lineA a := by
  have hr : 1 ≤ a.kind.toNat ∧ a.kind.toNat ≤ 11 := by have := h.1; omega
  have hs : a.kind.toNat = 1 → Go.Say.spanOk a.lo a.hi = true := fun e => h.2 (by omega)
  have hw := Go.Say.words_no (c := 10) (.inr rfl) hr a hs
  unfold lineA
  rw [if_pos h]
  unfold Go.Say.lineW
  unfold Go.Say.words at hw ⊢
  rw [join_flat]
  intro hm
  rcases List.mem_append.1 hm with hm | hm
  · exact hw _ List.mem_cons_self hm
  · obtain ⟨w, h1, h2⟩ := List.mem_flatMap.1 hm
    rcases List.mem_cons.1 h2 with h2 | h2
    · revert h2; decide
    · exact hw _ (List.mem_cons_of_mem _ h1) h2
theorem spl_lines : ∀ l : List Elem, (∀ y ∈ l, sayable (deedOf y)) → Go.Say.spl 10 (l.flatMap lineN) = l.map (fun y => lineA (deedOf y)) ++ [[]]
  | [], _ => rfl
  | y :: l, h => by
    rw [List.flatMap_cons, List.map_cons]
    unfold lineN
    rw [List.append_assoc, List.singleton_append, Go.Say.spl_app _ (lineA_no _ (h y List.mem_cons_self))]
    have := spl_lines l fun z hz => h z (List.mem_cons_of_mem _ hz)
    unfold lineN at this
    rw [this]
    rfl
theorem acts_lines : ∀ (l : List Elem) (n : Nat) (acc : List Deed), (∀ y ∈ l, sayable (deedOf y) ∧ Tiny (deedOf y) ∧ Few40 (deedOf y)) → actsF (l.map (fun y => lineA (deedOf y)) ++ [[]]) n acc = (0, 0, acc ++ l.map fun y => bareA (deedOf y))
  | [], n, acc, _ => by
    rw [List.map_nil, List.nil_append, actsF, if_pos (by rfl)]
    simp [actsF]
  | y :: l, n, acc, h => by
    obtain ⟨h1, h2, h3⟩ := h y List.mem_cons_self
    rw [List.map_cons, List.cons_append, actsF, if_neg (by rw [lineA_start _ h1]; decide), (said_of h2 h3 h1).parse]
    simp only
    rw [acts_lines l (n + 1) _ fun z hz => h z (List.mem_cons_of_mem _ hz)]
    simp
theorem bytes_app (u v : Word) : bytesOf (bOf u) ++ bytesOf (bOf v) = bytesOf (bOf (u ++ v)) := by
  simp [bytesOf, bOf]
theorem bytes_len (u : Word) : (bytesOf (bOf u)).length = u.length := by rw [bytesOf_len, bOf_size]
theorem WS.pure (b : List Int) (s : ByteArray) (hb : b.length + s.size ≤ 1000000000) : strings_Builder_WriteString.f BIG b s = some ((s.size : Int), b ++ bytesOf s) := by
  unfold strings_Builder_WriteString.f strings_Builder_WriteString.b
  rw [if_pos (by rw [bytesOf_len]; unfold lim; omega)]
theorem WB.pure (b : List Int) (c : Int) (hb : b.length ≤ 1000000000) : strings_Builder_WriteByte.f BIG b c = some (b ++ [c]) := by
  unfold strings_Builder_WriteByte.f strings_Builder_WriteByte.b
  rw [if_pos (by rw [List.length_singleton]; unfold lim; omega)]
/-- what a script of acts is -/
noncomputable def scr : List Elem → Nat → Word → ByteArray × Int × Int
  | [], _, W => (bOf W, 0, 0)
  | y :: ys, i, W => if sayable (deedOf y) then scr ys (i + 1) (W ++ lineN y) else (bOf [], ((i + 1 : Nat) : Int), errT y)
theorem script_loop (fuel : Nat) (l : List Elem) (hl : l.length ≤ 20) (ht : ∀ y ∈ l, Tiny (deedOf y) ∧ Few40 (deedOf y)) : ∀ (n i k : Nat) (W : Word), i + n = l.length → n < k → W.length ≤ 500000 * i →
    say_Script.l3 fuel l k (l.length : Int) (i : Int) (bytesOf (bOf W)) = some (scr (l.drop i) i W) := by
  intro n
  induction n with
  | zero =>
    intro i k W hi hk hW
    rw [say_Script.l3_at fuel k (k - 1) (by omega)]
    unfold say_Script.b3
    rw [if_neg (by rw [decide_eq_true_eq]; omega), List.drop_of_length_le (by omega), strOf_bytes]
    rfl
  | succ n ih =>
    intro i k W hi hk hW
    rw [say_Script.l3_at fuel k (k - 1) (by omega)]
    unfold say_Script.b3
    have hil : i < l.length := by omega
    rw [if_pos (by rw [decide_eq_true_eq]; omega), idx_at, List.getElem?_eq_getElem hil, List.drop_eq_getElem_cons hil, scr]
    obtain ⟨h1, h2⟩ := ht _ (List.getElem_mem hil)
    generalize l[i] = y at h1 h2
    simp only [veil_eq]
    rw [wrap_small _ (by omega) (by omega), show ((i : Int) + 1) = ((i + 1 : Nat) : Int) by omega]
    by_cases hs : sayable (deedOf y)
    · have S := said_of h1 h2 hs
      have hlen := S.len
      rw [if_pos hs, text_at y S]
      simp only
      rw [if_neg (by decide), WS.pure _ _ (by rw [bytes_len, bOf_size]; omega)]
      simp only
      rw [WB.pure _ _ (by rw [bytes_app, bytes_len, List.length_append]; omega)]
      simp only
      have e : bytesOf (bOf W) ++ bytesOf (bOf (lineA (deedOf y))) ++ [10] = bytesOf (bOf (W ++ lineN y)) := by
        unfold lineN
        rw [← List.append_assoc, ← bytes_app, ← bytes_app]
        rfl
      rw [e]
      exact ih (i + 1) (k - 1) _ (by omega) (by omega) (by unfold lineN; rw [List.length_append, List.length_append, List.length_singleton]; omega)
    · obtain ⟨e1, e2⟩ := text_not y hs
      rw [if_neg hs, e1]
      simp only
      rw [if_pos (by simpa using e2)]
      rfl
theorem Script.pure (l : List Elem) (hl : l.length ≤ 20) (ht : ∀ y ∈ l, Tiny (deedOf y) ∧ Few40 (deedOf y)) : say_Script.f BIG l = some (scr l 0 []) :=
  script_loop BIG l hl ht l.length 0 BIG [] (by omega) (by rw [BIG_eq]; omega) (by simp)
theorem scr_all : ∀ (l : List Elem) (i : Nat) (W : Word), (∀ y ∈ l, sayable (deedOf y)) → scr l i W = (bOf (W ++ l.flatMap lineN), 0, 0)
  | [], i, W, _ => by simp [scr]
  | y :: l, i, W, h => by
    rw [scr, if_pos (h y List.mem_cons_self), scr_all l (i + 1) _ fun z hz => h z (List.mem_cons_of_mem _ hz), List.flatMap_cons, List.append_assoc]
theorem scr_bad : ∀ (l : List Elem) (i j : Nat) (W : Word) (hj : j < l.length), ¬ sayable (deedOf l[j]) → (∀ y ∈ l.take j, sayable (deedOf y)) → scr l i W = (bOf [], ((i + j + 1 : Nat) : Int), errT l[j])
  | [], i, j, W, hj, _, _ => absurd hj (Nat.not_lt_zero _)
  | y :: l, i, 0, W, hj, hn, _ => by
    have hn : ¬ sayable (deedOf y) := hn
    rw [scr, if_neg hn]
    rfl
  | y :: l, i, j + 1, W, hj, hn, h => by
    rw [scr, if_pos (h y (by rw [List.take_succ_cons]; exact List.mem_cons_self)), scr_bad l (i + 1) j _ (by simpa using hj) hn (fun z hz => h z (by rw [List.take_succ_cons]; exact List.mem_cons_of_mem _ hz)), show i + 1 + j + 1 = i + (j + 1) + 1 by omega]
    rfl
theorem scripts_same (fuel : Nat) (l : List Elem) (hl : l.length ≤ 20) (ht : ∀ y ∈ l, Tiny (deedOf y) ∧ Few40 (deedOf y)) : ∀ (n i k : Nat), i + n = l.length → n < k →
    law39_SayScripts.l23 fuel l k (i : Int) (l.map fun y => tup2 (bareA (deedOf y))) = some true := by
  intro n
  induction n with
  | zero =>
    intro i k hi hk
    rw [law39_SayScripts.l23_at fuel k (k - 1) (by omega)]
    unfold law39_SayScripts.b23
    rw [if_neg (by rw [decide_eq_true_eq]; omega)]
    simp only [veil_eq, Awake.pure]
  | succ n ih =>
    intro i k hi hk
    rw [law39_SayScripts.l23_at fuel k (k - 1) (by omega)]
    unfold law39_SayScripts.b23
    have hil : i < l.length := by omega
    rw [if_pos (by rw [decide_eq_true_eq]; omega), idx_at, idx_at, List.getElem?_map, List.getElem?_eq_getElem hil, Option.map_some]
    obtain ⟨h1, h2⟩ := ht _ (List.getElem_mem hil)
    have hb := bare_alike h1
    simp only [veil_eq]
    rw [bare_at]
    simp only [tup, tup2]
    rw [hb]
    simp only
    rw [if_neg (by decide), wrap_small _ (by omega) (by omega), show ((i : Int) + 1) = ((i + 1 : Nat) : Int) by omega]
    exact ih (i + 1) (k - 1) (by omega) (by omega)
theorem scripts_loop (l : List Elem) (hl : l.length ≤ 20) (hg : ∀ y ∈ l, Given (deedOf y)) : ∀ (n i k bad : Nat), i + n = l.length → n < k →
    (∀ y ∈ l.take i, Tiny (deedOf y) ∧ Few40 (deedOf y)) → ((bad = 0 ∧ ∀ y ∈ l.take i, sayable (deedOf y)) ∨ ∃ (j : Nat) (hj : j < l.length), bad = j + 1 ∧ ¬ sayable (deedOf l[j]) ∧ ∀ y ∈ l.take j, sayable (deedOf y)) →
    law39_SayScripts.l6 BIG l k (bOf ((l.take i).flatMap lineN)) (bad : Int) (i : Int) = some true := by
  intro n
  induction n with
  | zero =>
    intro i k bad hi hk ht hb
    have hi : l.take i = l := List.take_of_length_le (by omega)
    rw [hi] at ht hb ⊢
    rw [law39_SayScripts.l6_at BIG k (k - 1) (by omega)]
    unfold law39_SayScripts.b6
    rw [if_neg (by rw [decide_eq_true_eq]; omega)]
    simp only [veil_eq]
    rw [Script.pure l hl ht]
    rcases hb with ⟨rfl, hs⟩ | ⟨j, hj, rfl, hn, hs⟩
    · rw [scr_all l 0 [] hs, List.nil_append]
      simp only
      have hlen : (l.flatMap lineN).length ≤ 402001 * l.length := flat_len lineN 402001 l fun y hy => by
        obtain ⟨h1, h2⟩ := ht y hy
        have := lineA_len _ h1 h2
        unfold lineN
        rw [List.length_append, List.length_singleton]
        omega
      have hA := Acts.pure (bOf (l.flatMap lineN)) (by rw [bOf_size]; omega) (by
        rw [tOf_bOf, spl_lines l hs]
        intro w hw
        rcases List.mem_append.1 hw with hw | hw
        · obtain ⟨y, hy, rfl⟩ := List.mem_map.1 hw
          obtain ⟨h1, h2⟩ := ht y hy
          have := lineA_len _ h1 h2
          omega
        · rw [List.mem_singleton.1 hw]
          exact Nat.zero_le _)
      rw [tOf_bOf, spl_lines l hs, acts_lines l 0 [] fun y hy => ⟨hs y hy, ht y hy⟩, List.nil_append] at hA
      rw [if_neg (by decide), if_neg (by simp), if_neg (by decide), if_neg (by decide), hA]
      simp only [outA, List.map_map]
      rw [if_neg (by decide), if_neg (by decide), if_neg (by simp)]
      exact scripts_same BIG l hl ht l.length 0 BIG (by omega) (by rw [BIG_eq]; omega)
    · rw [scr_bad l 0 j [] hj hn hs]
      simp only
      obtain ⟨e1, e2⟩ := text_not l[j] hn
      rw [if_pos (by rw [decide_eq_true_eq]; omega), wrap_small _ (by omega) (by omega), show (((j + 1 : Nat) : Int) - 1) = ((j : Nat) : Int) by omega, idx_at, List.getElem?_eq_getElem hj]
      simp only
      rw [e1]
      simp only
      rw [if_pos (by simp [toList_data, bOf]), if_pos (by rw [Nat.zero_add]; simp), if_pos (by simp), if_pos (by simpa using e2), Awake.pure]
  | succ n ih =>
    intro i k bad hi hk ht hb
    rw [law39_SayScripts.l6_at BIG k (k - 1) (by omega)]
    unfold law39_SayScripts.b6
    have hil : i < l.length := by omega
    have hlen : ((l.take i).flatMap lineN).length ≤ 402001 * (l.take i).length := flat_len lineN 402001 _ fun y hy => by
      obtain ⟨h1, h2⟩ := ht y hy
      have := lineA_len _ h1 h2
      unfold lineN
      rw [List.length_append, List.length_singleton]
      omega
    rw [List.length_take] at hlen
    have htk : l.take (i + 1) = l.take i ++ [l[i]] := List.take_succ_eq_append_getElem hil
    rw [if_pos (by rw [decide_eq_true_eq]; omega), idx_at, List.getElem?_eq_getElem hil]
    obtain ⟨r, er, hr⟩ := few_at l[i] (hg _ (List.getElem_mem hil))
    simp only [veil_eq]
    rw [er]
    simp only
    cases r with
    | false => rw [if_pos (by decide), Awake.pure]
    | true =>
    obtain ⟨h1, h2⟩ := hr rfl
    have hll := lineA_len _ h1 h2
    rw [if_neg (by decide), line_at _ h1, wrap_small _ (by omega) (by omega), show ((i : Int) + 1) = ((i + 1 : Nat) : Int) by omega]
    simp only
    have hs1 : (bOf ((l.take i).flatMap lineN)).size + (bOf (lineA (deedOf l[i]))).size ≤ 1099511627776 := by rw [bOf_size, bOf_size]; omega
    have hs2 : (bOf ((l.take i).flatMap lineN) ++ bOf (lineA (deedOf l[i]))).size + (⟨((10 :: ([] : List UInt8))).toArray⟩ : ByteArray).size ≤ 1099511627776 := by
      rw [ByteArray.size_append, bOf_size, bOf_size, show (⟨((10 :: ([] : List UInt8))).toArray⟩ : ByteArray).size = 1 from rfl]; omega
    have ew : bOf ((l.take i).flatMap lineN) ++ bOf (lineA (deedOf l[i])) ++ (⟨((10 :: ([] : List UInt8))).toArray⟩ : ByteArray) = bOf ((l.take (i + 1)).flatMap lineN) := by
      have eR : (l.take (i + 1)).flatMap lineN = (l.take i).flatMap lineN ++ (lineA (deedOf l[i]) ++ [10]) := by
        rw [htk, List.flatMap_append, List.flatMap_cons, List.flatMap_nil, List.append_nil]
        rfl
      rw [eR]
      apply lit_ext
      simp [bOf]
    have next := fun (b : Nat) (h : (b = 0 ∧ ∀ y ∈ l.take (i + 1), sayable (deedOf y)) ∨ ∃ (j : Nat) (hj : j < l.length), b = j + 1 ∧ ¬ sayable (deedOf l[j]) ∧ ∀ y ∈ l.take j, sayable (deedOf y)) =>
      ih (i + 1) (k - 1) b (by omega) (by omega) (fun y hy => by
        rw [htk] at hy
        rcases List.mem_append.1 hy with hy | hy
        · exact ht y hy
        · rw [List.mem_singleton.1 hy]; exact ⟨h1, h2⟩) h
    rcases hb with ⟨rfl, hs⟩ | ⟨j, hj, rfl, hn, hs⟩
    · rw [if_pos (by decide)]
      by_cases hsay : sayable (deedOf l[i])
      · rw [if_neg (by
          simp only [toList_data]
          intro h
          have h3 : lineA (deedOf l[i]) = [] := by simpa [bOf] using h
          exact (lineA_nil _).1 h3 hsay)]
        rw [if_pos hs1, if_pos hs2, ew]
        refine next 0 (.inl ⟨rfl, fun y hy => ?_⟩)
        rw [htk] at hy
        rcases List.mem_append.1 hy with hy | hy
        · exact hs y hy
        · rw [List.mem_singleton.1 hy]; exact hsay
      · rw [if_pos (by rw [(lineA_nil _).2 hsay]; simp [toList_data, bOf])]
        rw [if_pos hs1, if_pos hs2, ew]
        exact next (i + 1) (.inr ⟨i, hil, rfl, hsay, hs⟩)
    · rw [if_neg (by simp only [beq_iff_eq]; omega), if_pos hs1, if_pos hs2, ew]
      exact next (j + 1) (.inr ⟨j, hj, rfl, hn, hs⟩)
theorem SayScripts.pure (l : List Elem) (hg : ∀ y ∈ l, Given (deedOf y)) : law39_SayScripts.f BIG l = some true := by
  unfold law39_SayScripts.f law39_SayScripts.b
  by_cases h : l.length > 20
  · rw [if_pos (by rw [decide_eq_true_eq]; omega)]
    simp only [veil_eq, Awake.pure]
  rw [if_neg (by rw [decide_eq_true_eq]; omega)]
  exact scripts_loop l (by omega) hg l.length 0 BIG 0 (by omega) (by rw [BIG_eq]; omega) (by simp) (.inl ⟨rfl, by simp⟩)
theorem good_int {v : Int} (h : Go.Den.Good (.int .i64) v) : i64R v := by
  have h2 : (Lit.int .i64 v).wf = true := h
  simp [Lit.wf, IntKind.min, IntKind.max, IntKind.signed, IntKind.bits] at h2
  exact ⟨by omega, by omega⟩
theorem good_bytes {l : List Int} (h : Go.Den.Good (.sl (.int .u8)) l) : ∀ c ∈ l, 0 ≤ c ∧ c ≤ 255 := by
  intro c hc
  have h1 := h.2 c hc
  have h2 : (Lit.int .u8 c).wf = true := h1
  simp [Lit.wf, IntKind.min, IntKind.max, IntKind.signed, IntKind.bits] at h2
  omega
theorem reach_small : reachBytes ≤ 281474976710656 := by
  have : reachBytes = 140737488351232 := rfl
  omega
theorem good_act {y : Elem} (h : Go.Den.Good (.pair (.int .i64) (.pair (.int .i64) (.pair (.int .i64) (.pair (.int .i64) (.pair (.int .i64) (.pair (.pair (.int .i64) (.int .i64)) (.pair (.sl (.pair (.int .i64) (.sl (.int .u8)))) (.sl (.int .i64))))))))) y) : Given (deedOf y) := by
  obtain ⟨h1, h2, h3, h4, h5, ⟨h6, h7⟩, ⟨h8, h9⟩, h10, h11⟩ := h
  have hr := reach_small
  exact ⟨⟨good_int h2, good_int h3, good_int h4, good_int h5, fun f hf => ⟨good_int (h9 f hf).1, good_bytes (h9 f hf).2⟩, fun d hd => good_int (h11 d hd)⟩, good_int h6, good_int h7, ⟨Nat.le_trans h8 hr, fun f hf => Nat.le_trans (h9 f hf).2.1 hr⟩, Nat.le_trans h10 hr⟩
theorem sayScripts_envOk : EnvOk Tryz.prog law39_SayScripts_E := env_ok (l := [(7, s_law39_awake), (9, s_law39_alike), (10, s_law39_bare), (11, s_law39_line), (12, s_say_Acts), (13, s_law39_few), (16, s_say_Text), (18, s_say_Script)]) th_ok any_ok ⟨⟨s_law39_awake_ok, s_law39_awake_det⟩, ⟨s_law39_alike_ok, s_law39_alike_det⟩, ⟨s_law39_bare_ok, s_law39_bare_det⟩, ⟨s_law39_line_ok, s_law39_line_det⟩, ⟨s_say_Acts_ok, s_say_Acts_det⟩, ⟨s_law39_few_ok, s_law39_few_det⟩, ⟨s_say_Text_ok, s_say_Text_det⟩, ⟨s_say_Script_ok, s_say_Script_det⟩, trivial⟩ _
theorem sayScripts_tells (l : List (Int × Int × Int × Int × Int × (Int × Int) × List (Int × List Int) × List Int)) (hl : ∀ y ∈ l, Given (deedOf y)) : denF law39_SayScripts_E loopN BIG Tryz.f6 [.raw] [.d (.sl (.pair (.int .i64) (.pair (.int .i64) (.pair (.int .i64) (.pair (.int .i64) (.pair (.int .i64) (.pair (.pair (.int .i64) (.int .i64)) (.pair (.sl (.pair (.int .i64) (.sl (.int .u8)))) (.sl (.int .i64)))))))))) l] [] isTrue = some () := by
  rw [denF_any sayScripts_envOk.D ((law39_SayScripts.eq BIG l).trans (SayScripts.pure l hl)) (out := [.d .bool true]) (os := []) (fun rs ros hk => by
    unfold law39_SayScripts.k at hk
    split at hk
    · first | (cases hk; exact ⟨rfl, rfl⟩) | (have e := Option.some.inj hk; rw [← e]; exact ⟨rfl, rfl⟩)
    · cases hk)]
  rfl
set_option maxRecDepth 100000 in
theorem sayScripts_lifted (os : Os) (started : os.Started) (H : Type) (enc : TypeId × Value → H) :
    ReturnsInHanded {} Tryz.checked os 6 .any (fun w args => (Rows.sayScriptsSpec.pre enc Tryz.prog Tryz.f6 [] false w args ∧ laidMetH Tryz.prog laidL w) ∧ sizedMet enc Tryz.prog Tryz.f6 (OpenSpec.ofChange Rows.sayScriptsSpec) false w args)
      (Rows.sayScriptsSpec.post enc Tryz.prog Tryz.f6 false true false false) := by
  refine handed_and_shaped (C := Tryz.checked) (X := fun w _ => laidMetH Tryz.prog laidL w) (fun _ _ _ hh h => h.of_heap hh) Tryz.own started (by kernel_rfl) Tryz.func6
    (ChangeSpec.witness_shaped (enc := enc) (C := Tryz.checked) (os := os) (X := fun w _ => laidMetH Tryz.prog laidL w) false (World.laidAll Tryz.prog os laidL) #[.slice none 0 0] 8 (World.laidAll_os _ _ _) (World.shaped_of_ZipB (by kernel_rfl) (by kernel_rfl)) (by kernel_rfl) (by kernel_rfl) (by kernel_rfl) (door_met os _)) ?_
  intro W base args ds gs before hval hW hwt hL hsh
  exact law_contract sayScripts_envOk Tryz.func6 rfl [(.sl (.pair (.int .i64) (.pair (.int .i64) (.pair (.int .i64) (.pair (.int .i64) (.pair (.int .i64) (.pair (.pair (.int .i64) (.int .i64)) (.pair (.sl (.pair (.int .i64) (.sl (.int .u8)))) (.sl (.int .i64))))))))), false)] (tb := 4) (by kernel_rfl) (by kernel_rfl) (by kernel_rfl) rfl
    (fun ds h => by match ds, h with | [_], _ => rfl) Tryz.laidOut Tryz.mapsRow Tryz.slicesSize (fun y hg => ⟨BIG, sayScripts_tells y.1 (fun z hz => good_act (hg.1.2 z hz))⟩) W base args ds gs before hval hW hwt (laid_glob hL hsh)
theorem sayScripts_row : Rows.SayScriptsSaid :=
  OpenClaim.holds_of_wide 6 Tryz.f6 rfl rfl rfl rfl rfl rfl rfl ⟨rfl, rfl, rfl, rfl, rfl⟩ rfl rfl rfl rfl rfl (by kernel_rfl) Tryz.func6 (by kernel_rfl)
    (of_decide_eq_true (by kernel_rfl)) (by unfold Func.isWrapper; first | (rw [if_pos (by decide +kernel)]; kernel_rfl) | (rw [if_neg (by decide +kernel)]; exact ⟨rfl, rfl⟩))
    (fun os started H enc _ => sayScripts_lifted os started H enc)
theorem sayScripts_holds : Rows.SayScriptsCardSaid :=
  Claim7.holds_tied_plain_at .later [] [.data, .data, .data, .data, .sentinel, .sentinel, .pinned] true (true, "acceacf41988f24c40d8fbda90477dcb0669e49302460bda22ef914b14c1da6e") true
    sayScripts_row (fun _ h => by cases h) (by kernel_rfl) (fun _ h => by cases h) sayScripts_row_tie rfl ⟨rfl, rfl⟩ (by kernel_rfl) rfl
    (fun f fn hf hfn => by
      obtain rfl : f = 6 := Option.some.inj ((show Tryz.prog.funcNamed "polyglot/polyglotlaw39.SayScripts" = some 6 by kernel_rfl).symm.trans hf) |>.symm
      obtain rfl : fn = Tryz.f6 := (Option.some.inj (Tryz.func6.symm.trans hfn)).symm
      exact ⟨by kernel_rfl, fun j t ht => by
        have hm : t ∈ Tryz.f6.params.toList := by simpa using Array.mem_of_getElem? ht
        have hall : (Tryz.f6.params.toList.all fun u => !Tryz.prog.wantsStandIn u) = true := by kernel_rfl
        exact (show Tryz.prog.wantsStandIn t = false by simpa using List.all_eq_true.1 hall t hm)⟩)
    (by kernel_rfl)
end Go.Proofs.YthangnlmckeipaaGreatDoor
