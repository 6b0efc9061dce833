/- SayTexts: whatever two acts are given, the law returns true, and the input reads as it did; the listed tables are tied to the text of the program. -/
import Derived.Test.YthangnlmckeipaaGreatDoorZSayTexts2
set_option linter.unusedVariables false
set_option linter.unusedSimpArgs false
set_option maxRecDepth 100000
namespace Go.Proofs.YthangnlmckeipaaGreatDoor
open Go.Den
open Go.Den Go.RowKit
open Go.Say (Word)
open Go.Say (Word Deed mv1 zero names partsOf)
theorem Same.pure (a b : Deed) (ha : smallBag a.bag) (hb : smallBag b.bag) (hd : a.draws.length ≤ 1000000) : say_Same.f BIG a.kind a.i a.k a.at' a.by' a.lo a.hi a.bag a.draws b.kind b.i b.k b.at' b.by' b.lo b.hi b.bag b.draws = some (decide (tup a = tup b)) := by
  unfold say_Same.f say_Same.b
  simp only [veil_eq, BSame.pure _ _ ha hb]
  have key : ∀ p : Prop, ∀ [Decidable p], (p → tup a ≠ tup b) → p → some false = some (decide (tup a = tup b)) := fun p _ h1 h2 => by rw [decide_eq_false (h1 h2)]
  by_cases h1 : a.kind = b.kind
  case neg => rw [if_pos (by simpa using h1)]; exact key _ (fun h e => h (congrArg (·.1) e)) h1
  rw [if_neg (by simpa using h1)]
  by_cases h2 : a.i = b.i
  case neg => rw [if_pos (by simpa using h2)]; exact key _ (fun h e => h (congrArg (·.2.1) e)) h2
  rw [if_neg (by simpa using h2)]
  by_cases h3 : a.k = b.k
  case neg => rw [if_pos (by simpa using h3)]; exact key _ (fun h e => h (congrArg (·.2.2.1) e)) h3
  rw [if_neg (by simpa using h3)]
  by_cases h4 : a.at' = b.at'
  case neg => rw [if_pos (by simpa using h4)]; exact key _ (fun h e => h (congrArg (·.2.2.2.1) e)) h4
  rw [if_neg (by simpa using h4)]
  by_cases h5 : a.by' = b.by'
  case neg => rw [if_pos (by simpa using h5)]; exact key _ (fun h e => h (congrArg (·.2.2.2.2.1) e)) h5
  rw [if_neg (by simpa using h5)]
  by_cases h6 : a.lo = b.lo
  case neg => rw [if_pos (by simp [h6])]; exact key _ (fun h e => h (congrArg (·.2.2.2.2.2.1) e)) h6
  by_cases h7 : a.hi = b.hi
  case neg => rw [if_pos (by simp [h7])]; exact key _ (fun h e => h (congrArg (·.2.2.2.2.2.2.1) e)) h7
  rw [if_neg (by simp [h6, h7])]
  by_cases h8 : a.bag = b.bag
  case neg => rw [if_neg (by simpa using h8)]; exact key _ (fun h e => h (congrArg (·.2.2.2.2.2.2.2.1) e)) h8
  rw [if_pos (by simpa using h8), Equal.pure _ _ hd]
  simp only
  congr 1
  apply decide_eq_decide.2
  unfold tup
  rw [h1, h2, h3, h4, h5, h6, h7, h8]
  simp
theorem app_bOf (x : ByteArray) (u v : Word) : x ++ bOf u ++ bOf v = x ++ bOf (u ++ v) := by
  apply lit_ext
  simp [bOf]
theorem app_nil (x : ByteArray) : x ++ bOf [] = x := by
  apply lit_ext
  simp [bOf]
theorem sp_eq : (⟨((32 :: ([] : List UInt8))).toArray⟩ : ByteArray) = bOf [32] := rfl
theorem co_eq : (⟨((58 :: ([] : List UInt8))).toArray⟩ : ByteArray) = bOf [58] := rfl
theorem da_eq : (⟨((45 :: ([] : List UInt8))).toArray⟩ : ByteArray) = bOf [45] := rfl
theorem itoa_len (v : Int) (h : i64R v) : (Go.Lib.itoa v).length ≤ 20 := itoaT_size v h
theorem Num2.pure (v : Int) (h : i64R v) : law39_num.f BIG v = some (bOf (Go.Lib.itoa v)) := Num.pure v h
def spw (w : Word) : Word := 32 :: w
theorem flat_len {α : Type} (f : α → Word) (B : Nat) : ∀ l : List α, (∀ x ∈ l, (f x).length ≤ B) → (l.flatMap f).length ≤ B * l.length
  | [], _ => by simp
  | x :: l, h => by
    have h1 := h x List.mem_cons_self
    have h2 := flat_len f B l fun y hy => h y (List.mem_cons_of_mem _ hy)
    rw [List.flatMap_cons, List.length_append, List.length_cons, Nat.mul_add]
    omega
theorem draws_loop (fuel : Nat) (hf : 1 ≤ fuel) (a : Deed) (ha : Tiny a) : ∀ (n i k : Nat) (x : ByteArray), i + n = a.draws.length → n < k → x.size ≤ 1000000000 + 100 * i →
    law39_line.l27 fuel a.kind a.i a.k a.at' a.by' a.lo a.hi a.bag a.draws k x (i : Int) = some (x ++ bOf ((a.draws.drop i).flatMap fun d => spw (Go.Lib.itoa d))) := by
  have hd := ha.draws
  intro n
  induction n with
  | zero =>
    intro i k x hi hk hx
    rw [law39_line.l27_at fuel k (k - 1) (by omega)]
    unfold law39_line.b27
    rw [if_neg (by rw [decide_eq_true_eq]; omega), law39_line.l30_at fuel fuel (fuel - 1) (by omega), List.drop_of_length_le (by omega), List.flatMap_nil, app_nil]
    rfl
  | succ n ih =>
    intro i k x hi hk hx
    rw [law39_line.l27_at fuel k (k - 1) (by omega)]
    unfold law39_line.b27
    have hil : i < a.draws.length := by omega
    have hr := ha.ok.draws _ (List.getElem_mem hil)
    have hlen := itoa_len _ hr
    rw [if_pos (by rw [decide_eq_true_eq]; omega), sp_eq, if_pos (by rw [bOf_size, List.length_singleton]; omega), idx_at, List.getElem?_eq_getElem hil]
    simp only [veil_eq]
    rw [Num2.pure _ hr]
    simp only
    rw [if_pos (by simp only [ByteArray.size_append, bOf_size, List.length_singleton]; omega), wrap_small _ (by omega) (by omega), show ((i : Int) + 1) = ((i + 1 : Nat) : Int) by omega, ih (i + 1) (k - 1) _ (by omega) (by omega) (by simp only [ByteArray.size_append, bOf_size, List.length_singleton]; omega), List.drop_eq_getElem_cons hil, List.flatMap_cons, app_bOf, app_bOf]
    rfl
theorem l25_eq (a : Deed) (ha : Tiny a) (x : ByteArray) (hx : x.size ≤ 1000000000) : law39_line.l25 BIG a.kind a.i a.k a.at' a.by' a.lo a.hi a.bag a.draws BIG x = some (x ++ bOf (if a.kind = 3 then a.draws.flatMap fun d => spw (Go.Lib.itoa d) else [])) := by
  rw [law39_line.l25_at BIG BIG (BIG - 1) big_eq]
  unfold law39_line.b25
  by_cases h : a.kind = 3
  · rw [if_pos (by simpa using h), if_pos h]
    have := draws_loop BIG (by rw [BIG_eq]; omega) a ha a.draws.length 0 BIG x (by omega) (by rw [BIG_eq]; have := ha.draws; omega) (by omega)
    rw [List.drop_zero] at this
    exact this
  · rw [if_neg (by simpa using h), if_neg h, law39_line.l30_at BIG BIG (BIG - 1) big_eq, app_nil]
    rfl
theorem hex_loop (fuel : Nat) (a : Deed) (A18 : ByteArray → Int → Option ByteArray) (i : Nat) (hi : i < a.bag.length) (hi2 : i ≤ 1000) (hd : a.bag[i].2.length ≤ 10000) (hb : ∀ c ∈ a.bag[i].2, 0 ≤ c ∧ c ≤ 255) : ∀ (n j k : Nat) (x : ByteArray), j + n = a.bag[i].2.length → n < k → x.size ≤ 10000000000 + 2 * j →
    law39_line.l22 BIG a.kind a.i a.k a.at' a.by' a.lo a.hi a.bag a.draws A18 k x (i : Int) (j : Int) = A18 (x ++ bOf (Go.Say.hexs (a.bag[i].2.drop j))) ((i + 1 : Nat) : Int) := by
  intro n
  induction n with
  | zero =>
    intro j k x hj hk hx
    rw [law39_line.l22_at BIG k (k - 1) (by omega)]
    unfold law39_line.b22
    rw [idx_at, List.getElem?_eq_getElem hi]
    simp only
    rw [if_neg (by rw [decide_eq_true_eq]; omega), List.drop_of_length_le (by omega), wrap_small _ (by omega) (by omega), show Go.Say.hexs [] = [] from rfl, app_nil]
    rfl
  | succ n ih =>
    intro j k x hj hk hx
    rw [law39_line.l22_at BIG k (k - 1) (by omega)]
    unfold law39_line.b22
    have hjl : j < a.bag[i].2.length := by omega
    have hc := hb _ (List.getElem_mem hjl)
    rw [idx_at, List.getElem?_eq_getElem hi]
    simp only
    rw [if_pos (by rw [decide_eq_true_eq]; omega), idx_at, List.getElem?_eq_getElem hjl]
    simp only [veil_eq]
    rw [Hex.pure _ hc.1 hc.2]
    simp only
    rw [if_pos (by simp only [bOf_size, List.length_cons, List.length_nil]; omega), wrap_small _ (by omega) (by omega), show ((j : Int) + 1) = ((j + 1 : Nat) : Int) by omega, ih (j + 1) (k - 1) _ (by omega) (by omega) (by simp only [ByteArray.size_append, bOf_size, List.length_cons, List.length_nil]; omega), List.drop_eq_getElem_cons hjl, app_bOf]
    rfl
theorem field_len (f : Int × List Int) (h : Go.Say.fieldOk f) (hd : f.2.length ≤ 10000) : (spw (Go.Say.fieldW f)).length ≤ 20022 := by
  have := itoa_len f.1 h.1
  have e := Go.Say.hexs_len f.2
  unfold spw Go.Say.fieldW
  simp only [List.length_cons, List.length_append, e]
  omega
theorem bag_loop (a : Deed) (ha : Tiny a) : ∀ (n i k : Nat) (x : ByteArray), i + n = a.bag.length → n < k → x.size ≤ 10000 + 20022 * i →
    law39_line.l18 BIG a.kind a.i a.k a.at' a.by' a.lo a.hi a.bag a.draws k x (i : Int) = law39_line.l25 BIG a.kind a.i a.k a.at' a.by' a.lo a.hi a.bag a.draws BIG (x ++ bOf ((a.bag.drop i).flatMap fun f => spw (Go.Say.fieldW f))) := by
  have hbl := ha.bag
  intro n
  induction n with
  | zero =>
    intro i k x hi hk hx
    rw [law39_line.l18_at BIG k (k - 1) (by omega)]
    unfold law39_line.b18
    rw [if_neg (by rw [decide_eq_true_eq]; omega), List.drop_of_length_le (by omega), List.flatMap_nil, app_nil]
  | succ n ih =>
    intro i k x hi hk hx
    rw [law39_line.l18_at BIG k (k - 1) (by omega)]
    unfold law39_line.b18
    have hil : i < a.bag.length := by omega
    have hm := List.getElem_mem hil
    have hok := ha.ok.bag _ hm
    have hdl := ha.data _ hm
    have hlen := itoa_len _ hok.1
    have hfl := field_len _ hok hdl
    rw [if_pos (by rw [decide_eq_true_eq]; omega), sp_eq, co_eq, if_pos (by rw [bOf_size, List.length_singleton]; omega), idx_at, List.getElem?_eq_getElem hil]
    simp only [veil_eq]
    rw [Num2.pure _ hok.1]
    simp only
    rw [if_pos (by simp only [ByteArray.size_append, bOf_size, List.length_singleton]; omega), if_pos (by simp only [ByteArray.size_append, bOf_size, List.length_singleton]; omega)]
    rw [show (0 : Int) = ((0 : Nat) : Int) from rfl, hex_loop BIG a _ i hil (by omega) hdl hok.2 a.bag[i].2.length 0 BIG _ (by omega) (by rw [BIG_eq]; omega) (by simp only [ByteArray.size_append, bOf_size, List.length_singleton]; omega), List.drop_zero]
    have e : ∀ r : Word, x ++ bOf [32] ++ bOf (Go.Lib.itoa a.bag[i].1) ++ bOf [58] ++ bOf (Go.Say.hexs a.bag[i].2) ++ bOf r = x ++ bOf (spw (Go.Say.fieldW a.bag[i]) ++ r) := by
      intro r
      rw [app_bOf, app_bOf, app_bOf, app_bOf]
      congr 2
      simp [spw, Go.Say.fieldW]
    have e0 := e []
    rw [app_nil, List.append_nil] at e0
    rw [e0, ih (i + 1) (k - 1) _ (by omega) (by omega) (by simp only [ByteArray.size_append, bOf_size]; omega), List.drop_eq_getElem_cons hil, List.flatMap_cons, app_bOf]
def sBag (a : Deed) : Word := if a.kind = 1 ∨ a.kind = 11 then a.bag.flatMap fun f => spw (Go.Say.fieldW f) else []
def sDraws (a : Deed) : Word := if a.kind = 3 then a.draws.flatMap fun d => spw (Go.Lib.itoa d) else []
theorem l16_eq (a : Deed) (ha : Tiny a) (x : ByteArray) (hx : x.size ≤ 10000) : law39_line.l16 BIG a.kind a.i a.k a.at' a.by' a.lo a.hi a.bag a.draws BIG x = some (x ++ bOf (sBag a ++ sDraws a)) := by
  rw [law39_line.l16_at BIG BIG (BIG - 1) big_eq]
  unfold law39_line.b16
  have hbl := ha.bag
  have hfl := flat_len (fun f => spw (Go.Say.fieldW f)) 20022 a.bag fun f hf => field_len f (ha.ok.bag f hf) (ha.data f hf)
  have main : law39_line.l18 BIG a.kind a.i a.k a.at' a.by' a.lo a.hi a.bag a.draws BIG x 0 = some (x ++ bOf ((a.bag.flatMap fun f => spw (Go.Say.fieldW f)) ++ sDraws a)) := by
    have := bag_loop a ha a.bag.length 0 BIG x (by omega) (by rw [BIG_eq]; omega) (by omega)
    rw [List.drop_zero] at this
    rw [show (0 : Int) = ((0 : Nat) : Int) from rfl, this, l25_eq a ha _ (by simp only [ByteArray.size_append, bOf_size]; omega), app_bOf]
    rfl
  unfold sBag
  by_cases h1 : a.kind = 1
  · rw [if_pos (by simpa using h1), main, if_pos (.inl h1)]
  · rw [if_neg (by simpa using h1)]
    by_cases h2 : a.kind = 11
    · rw [if_pos (by simpa using h2), main, if_pos (.inr h2)]
    · rw [if_neg (by simpa using h2), if_neg (by rintro (h | h); exact h1 h; exact h2 h), l25_eq a ha x (by omega)]
      rfl
def sSpan (a : Deed) : Word := if a.kind = 1 then spw (Go.Lib.itoa a.lo ++ 45 :: Go.Lib.itoa a.hi) else []
theorem l14_eq (a : Deed) (ha : Tiny a) (x : ByteArray) (hx : x.size ≤ 1000) : law39_line.l14 BIG a.kind a.i a.k a.at' a.by' a.lo a.hi a.bag a.draws BIG x = some (x ++ bOf (sSpan a ++ (sBag a ++ sDraws a))) := by
  rw [law39_line.l14_at BIG BIG (BIG - 1) big_eq]
  unfold law39_line.b14 sSpan
  have hl := itoa_len _ ha.lo
  have hh := itoa_len _ ha.hi
  by_cases h1 : a.kind = 1
  · rw [if_pos (by simpa using h1), sp_eq, da_eq, if_pos (by rw [bOf_size, List.length_singleton]; omega)]
    simp only [veil_eq, Num2.pure _ ha.lo, Num2.pure _ ha.hi]
    rw [if_pos (by simp only [ByteArray.size_append, bOf_size, List.length_singleton]; omega), if_pos (by simp only [ByteArray.size_append, bOf_size, List.length_singleton]; omega), if_pos (by simp only [ByteArray.size_append, bOf_size, List.length_singleton]; omega)]
    rw [l16_eq a ha _ (by simp only [ByteArray.size_append, bOf_size, List.length_singleton]; omega), app_bOf, app_bOf, app_bOf, app_bOf, if_pos h1]
    congr 3
    simp [spw]
  · rw [if_neg (by simpa using h1), if_neg h1, l16_eq a ha x (by omega)]
    rfl
def sBy (a : Deed) : Word := if a.kind = 7 then spw (Go.Lib.itoa a.by') else []
theorem l12_eq (a : Deed) (ha : Tiny a) (x : ByteArray) (hx : x.size ≤ 500) : law39_line.l12 BIG a.kind a.i a.k a.at' a.by' a.lo a.hi a.bag a.draws BIG x = some (x ++ bOf (sBy a ++ (sSpan a ++ (sBag a ++ sDraws a)))) := by
  rw [law39_line.l12_at BIG BIG (BIG - 1) big_eq]
  unfold law39_line.b12 sBy
  have hl := itoa_len _ ha.ok.by'
  by_cases h1 : a.kind = 7
  · rw [if_pos (by simpa using h1), sp_eq, if_pos (by rw [bOf_size, List.length_singleton]; omega)]
    simp only [veil_eq, Num2.pure _ ha.ok.by']
    rw [if_pos (by simp only [ByteArray.size_append, bOf_size, List.length_singleton]; omega), l14_eq a ha _ (by simp only [ByteArray.size_append, bOf_size, List.length_singleton]; omega), app_bOf, app_bOf, if_pos h1]
    congr 3
  · rw [if_neg (by simpa using h1), if_neg h1, l14_eq a ha x (by omega)]
    rfl
def sAt (a : Deed) : Word := if a.kind = 7 ∨ a.kind = 8 then spw (Go.Lib.itoa a.at') else []
theorem l10_eq (a : Deed) (ha : Tiny a) (x : ByteArray) (hx : x.size ≤ 300) : law39_line.l10 BIG a.kind a.i a.k a.at' a.by' a.lo a.hi a.bag a.draws BIG x = some (x ++ bOf (sAt a ++ (sBy a ++ (sSpan a ++ (sBag a ++ sDraws a))))) := by
  rw [law39_line.l10_at BIG BIG (BIG - 1) big_eq]
  unfold law39_line.b10 sAt
  have hl := itoa_len _ ha.ok.at'
  have main : (if ((ByteArray.size x) + (ByteArray.size (⟨((32 :: ([] : List UInt8))).toArray⟩ : ByteArray))) ≤ (1099511627776 : Nat) then (match (veil (law39_num.f BIG a.at')) with | none => none | some y7 => (if ((ByteArray.size (x ++ (⟨((32 :: ([] : List UInt8))).toArray⟩ : ByteArray))) + (ByteArray.size y7)) ≤ (1099511627776 : Nat) then law39_line.l12 BIG a.kind a.i a.k a.at' a.by' a.lo a.hi a.bag a.draws BIG ((x ++ (⟨((32 :: ([] : List UInt8))).toArray⟩ : ByteArray)) ++ y7) else none)) else none) = some (x ++ bOf (spw (Go.Lib.itoa a.at') ++ (sBy a ++ (sSpan a ++ (sBag a ++ sDraws a))))) := by
    rw [sp_eq, if_pos (by rw [bOf_size, List.length_singleton]; omega)]
    simp only [veil_eq, Num2.pure _ ha.ok.at']
    rw [if_pos (by simp only [ByteArray.size_append, bOf_size, List.length_singleton]; omega), l12_eq a ha _ (by simp only [ByteArray.size_append, bOf_size, List.length_singleton]; omega), app_bOf, app_bOf]
    congr 3
  by_cases h1 : a.kind = 7
  · rw [if_pos (by simpa using h1)]
    refine Eq.trans main ?_
    rw [if_pos (.inl h1)]
  · rw [if_neg (by simpa using h1)]
    by_cases h2 : a.kind = 8
    · rw [if_pos (by simpa using h2)]
      refine Eq.trans main ?_
      rw [if_pos (.inr h2)]
    · rw [if_neg (by simpa using h2), if_neg (by rintro (h | h); exact h1 h; exact h2 h), l12_eq a ha x (by omega)]
      rfl
def sK (a : Deed) : Word := if 4 ≤ a.kind ∧ a.kind ≤ 9 then spw (Go.Lib.itoa a.k) else []
theorem l8_eq (a : Deed) (ha : Tiny a) (x : ByteArray) (hx : x.size ≤ 200) : law39_line.l8 BIG a.kind a.i a.k a.at' a.by' a.lo a.hi a.bag a.draws BIG x = some (x ++ bOf (sK a ++ (sAt a ++ (sBy a ++ (sSpan a ++ (sBag a ++ sDraws a)))))) := by
  rw [law39_line.l8_at BIG BIG (BIG - 1) big_eq]
  unfold law39_line.b8 sK
  have hl := itoa_len _ ha.ok.k
  by_cases h1 : a.kind ≥ 4
  · rw [if_pos (by simpa using h1)]
    by_cases h2 : a.kind ≤ 9
    · rw [if_pos (by simpa using h2), sp_eq, if_pos (by rw [bOf_size, List.length_singleton]; omega)]
      simp only [veil_eq, Num2.pure _ ha.ok.k]
      rw [if_pos (by simp only [ByteArray.size_append, bOf_size, List.length_singleton]; omega), l10_eq a ha _ (by simp only [ByteArray.size_append, bOf_size, List.length_singleton]; omega), app_bOf, app_bOf, if_pos ⟨h1, h2⟩]
      congr 3
    · rw [if_neg (by simpa using h2), if_neg (fun h => h2 h.2), l10_eq a ha x (by omega)]
      rfl
  · rw [if_neg (by simpa using h1), if_neg (fun h => h1 h.1), l10_eq a ha x (by omega)]
    rfl
def sI (a : Deed) : Word := if a.kind ≤ 3 ∨ 9 ≤ a.kind then spw (Go.Lib.itoa a.i) else []
theorem names_at (k : Nat) (h : k < 12) : idx (names.map bOf) (k : Int) = some (bOf (names.getD k [])) := by
  rw [idx_at]
  have : k = 0 ∨ k = 1 ∨ k = 2 ∨ k = 3 ∨ k = 4 ∨ k = 5 ∨ k = 6 ∨ k = 7 ∨ k = 8 ∨ k = 9 ∨ k = 10 ∨ k = 11 := by omega
  rcases this with rfl | rfl | rfl | rfl | rfl | rfl | rfl | rfl | rfl | rfl | rfl | rfl <;> rfl
theorem name_len (k : Nat) : (names.getD k []).length ≤ 7 := by
  rcases Nat.lt_or_ge k 12 with h | h
  · have : k = 0 ∨ k = 1 ∨ k = 2 ∨ k = 3 ∨ k = 4 ∨ k = 5 ∨ k = 6 ∨ k = 7 ∨ k = 8 ∨ k = 9 ∨ k = 10 ∨ k = 11 := by omega
    rcases this with rfl | rfl | rfl | rfl | rfl | rfl | rfl | rfl | rfl | rfl | rfl | rfl <;> decide
  · rw [List.getD_eq_getElem?_getD, List.getElem?_eq_none (show names.length ≤ k from h)]
    exact Nat.zero_le _
theorem l5_eq (a : Deed) (ha : Tiny a) (k : Nat) (hk : a.kind = k) (h : 1 ≤ k ∧ k ≤ 11) : law39_line.l5 BIG a.kind a.i a.k a.at' a.by' a.lo a.hi a.bag a.draws BIG = some (bOf (names.getD k [] ++ (sI a ++ (sK a ++ (sAt a ++ (sBy a ++ (sSpan a ++ (sBag a ++ sDraws a)))))))) := by
  rw [law39_line.l5_at BIG BIG (BIG - 1) big_eq]
  unfold law39_line.b5 sI
  have hl := itoa_len _ ha.ok.i
  have hn := name_len k
  have en : ∀ X : List ByteArray, X = names.map bOf → idx X a.kind = some (bOf (names.getD k [])) := fun X hX => by rw [hX, hk]; exact names_at k (by omega)
  split
  · rename_i hy
    cases hy.symm.trans (en _ rfl)
  rename_i y1 hy
  obtain rfl := Option.some.inj (hy.symm.trans (en _ rfl))
  clear hy
  split
  · rename_i hy
    cases hy
  rename_i y2 hy
  obtain rfl := Option.some.inj hy
  clear hy
  have e0 : ∀ u v : Word, bOf u ++ bOf v = bOf (u ++ v) := fun u v => by apply lit_ext; simp [bOf]
  have main : (if ((ByteArray.size (bOf (names.getD k []))) + (ByteArray.size (⟨((32 :: ([] : List UInt8))).toArray⟩ : ByteArray))) ≤ (1099511627776 : Nat) then (match (veil (law39_num.f BIG a.i)) with | none => none | some y3 => (if ((ByteArray.size (bOf (names.getD k []) ++ (⟨((32 :: ([] : List UInt8))).toArray⟩ : ByteArray))) + (ByteArray.size y3)) ≤ (1099511627776 : Nat) then law39_line.l8 BIG a.kind a.i a.k a.at' a.by' a.lo a.hi a.bag a.draws BIG ((bOf (names.getD k []) ++ (⟨((32 :: ([] : List UInt8))).toArray⟩ : ByteArray)) ++ y3) else none)) else none) = some (bOf (names.getD k [] ++ (spw (Go.Lib.itoa a.i) ++ (sK a ++ (sAt a ++ (sBy a ++ (sSpan a ++ (sBag a ++ sDraws a)))))))) := by
    rw [sp_eq, if_pos (by rw [bOf_size, bOf_size, List.length_singleton]; omega)]
    simp only [veil_eq, Num2.pure _ ha.ok.i]
    rw [if_pos (by simp only [ByteArray.size_append, bOf_size, List.length_singleton]; omega), l8_eq a ha _ (by simp only [ByteArray.size_append, bOf_size, List.length_singleton]; omega), app_bOf, app_bOf, e0]
    congr 2
  by_cases h1 : a.kind ≤ 3
  · rw [if_pos (by simpa using h1)]
    refine Eq.trans main ?_
    rw [if_pos (.inl h1)]
  · rw [if_neg (by simpa using h1)]
    by_cases h2 : a.kind ≥ 9
    · rw [if_pos (by simpa using h2)]
      refine Eq.trans main ?_
      rw [if_pos (.inr h2)]
    · rw [if_neg (by simpa using h2), if_neg (by rintro (h | h); exact h1 h; exact h2 h), l8_eq a ha _ (by rw [bOf_size]; omega), e0]
      rfl
theorem join_flat (w : Word) (ws : List Word) : Go.Lib.join (w :: ws) [32] = w ++ ws.flatMap spw := by
  rw [Go.Lib.join_cons]
  rfl
theorem itoa_dig (n : Nat) (h : n < 10) : Go.Lib.itoa (n : Int) = [UInt8.ofNat (48 + n)] := by
  unfold Go.Lib.itoa
  rw [if_neg (by omega), show ((n : Int)).toNat = n from rfl, Go.Lib.decDigits_one h]
theorem span_text (lo hi : Int) (h : Go.Say.spanOk lo hi = true) : Go.Lib.itoa lo ++ 45 :: Go.Lib.itoa hi = Go.Say.spanT lo hi := by
  have h' := of_decide_eq_true h
  obtain ⟨p, rfl⟩ : ∃ p : Nat, lo = p := ⟨lo.toNat, by omega⟩
  obtain ⟨q, rfl⟩ : ∃ q : Nat, hi = q := ⟨hi.toNat, by omega⟩
  rw [itoa_dig p (by omega), itoa_dig q (by omega)]
  rfl
theorem line_words (a : Deed) (k : Nat) (hk : a.kind = k) (h : 1 ≤ k ∧ k ≤ 11) (hs : k = 1 → Go.Say.spanOk a.lo a.hi = true) : names.getD k [] ++ (sI a ++ (sK a ++ (sAt a ++ (sBy a ++ (sSpan a ++ (sBag a ++ sDraws a)))))) = Go.Say.lineW k a := by
  unfold Go.Say.lineW Go.Say.words
  rw [join_flat]
  unfold sI sK sAt sBy sSpan sBag sDraws
  rw [hk]
  have : k = 1 ∨ k = 2 ∨ k = 3 ∨ k = 4 ∨ k = 5 ∨ k = 6 ∨ k = 7 ∨ k = 8 ∨ k = 9 ∨ k = 10 ∨ k = 11 := by omega
  have em : ∀ l : List (Int × List Int), (l.flatMap fun f => spw (Go.Say.fieldW f)) = (l.map Go.Say.fieldW).flatMap spw := fun l => by rw [List.flatMap_map]
  have ed : ∀ l : List Int, (l.flatMap fun f => spw (Go.Lib.itoa f)) = (l.map Go.Lib.itoa).flatMap spw := fun l => by rw [List.flatMap_map]
  rw [em, ed]
  rcases this with rfl | rfl | rfl | rfl | rfl | rfl | rfl | rfl | rfl | rfl | rfl
  · rw [span_text _ _ (hs rfl)]
    simp [partsOf, Go.Say.say]
  all_goals simp [partsOf, Go.Say.say]
def sayable (a : Deed) : Prop := (1 ≤ a.kind ∧ a.kind ≤ 11) ∧ (a.kind = 1 → Go.Say.spanOk a.lo a.hi = true)
noncomputable instance sayDec (a : Deed) : Decidable (sayable a) := Classical.propDecidable _
noncomputable def lineA (a : Deed) : Word := if sayable a then Go.Say.lineW a.kind.toNat a else []
theorem Line.pure (a : Deed) (ha : Tiny a) : law39_line.f BIG a.kind a.i a.k a.at' a.by' a.lo a.hi a.bag a.draws = some (bOf (lineA a)) := by
  unfold law39_line.f law39_line.b lineA
  by_cases h1 : a.kind < 1
  · rw [if_pos (by simpa using h1), if_neg (fun h => by have := h.1; omega)]
    rfl
  rw [if_neg (by simpa using h1)]
  by_cases h2 : a.kind > 11
  · rw [if_pos (by simpa using h2), if_neg (fun h => by have := h.1; omega)]
    rfl
  rw [if_neg (by simpa using h2)]
  have hk : a.kind = (a.kind.toNat : Nat) := by omega
  have main : (a.kind = 1 → Go.Say.spanOk a.lo a.hi = true) → law39_line.l5 BIG a.kind a.i a.k a.at' a.by' a.lo a.hi a.bag a.draws BIG = some (bOf (if sayable a then Go.Say.lineW a.kind.toNat a else [])) := by
    intro hs
    rw [if_pos ⟨by omega, hs⟩, l5_eq a ha a.kind.toNat hk (by omega), line_words a a.kind.toNat hk (by omega) (fun h => hs (by omega))]
  by_cases h3 : a.kind = 1
  · rw [if_pos (by simpa using h3)]
    simp only [veil_eq, Valid.pure]
    by_cases h4 : Go.Say.spanOk a.lo a.hi = true
    · rw [if_neg (by simp [h4])]
      exact main fun _ => h4
    · rw [if_pos (by simp [h4]), if_neg (fun h => h4 (h.2 h3))]
      rfl
  · rw [if_neg (by simpa using h3)]
    exact main fun h => absurd h h3
theorem flat_lenG {α β : Type} (f : α → List β) (B : Nat) : ∀ l : List α, (∀ x ∈ l, (f x).length ≤ B) → (l.flatMap f).length ≤ B * l.length
  | [], _ => by simp
  | x :: l, h => by
    have h1 := h x List.mem_cons_self
    have h2 := flat_lenG f B l fun y hy => h y (List.mem_cons_of_mem _ hy)
    rw [List.flatMap_cons, List.length_append, List.length_cons, Nat.mul_add]
    omega
theorem parts_len (k : Nat) (h : 1 ≤ k ∧ k ≤ 11) : (partsOf.getD k []).length ≤ 3 := by
  have : k = 1 ∨ k = 2 ∨ k = 3 ∨ k = 4 ∨ k = 5 ∨ k = 6 ∨ k = 7 ∨ k = 8 ∨ k = 9 ∨ k = 10 ∨ k = 11 := by omega
  rcases this with rfl | rfl | rfl | rfl | rfl | rfl | rfl | rfl | rfl | rfl | rfl <;> decide
theorem words_len (a : Deed) (ha : Few40 a) (k : Nat) (h : 1 ≤ k ∧ k ≤ 11) : (Go.Say.words k a).length ≤ 1000 := by
  unfold Go.Say.words
  have h1 := flat_lenG (Go.Say.say a) 40 (partsOf.getD k []) fun j _ => by
    match j with
    | 0 | 1 | 2 | 3 | 4 => exact Nat.le_trans (Nat.le_refl 1) (by omega)
    | 5 => show (a.bag.map Go.Say.fieldW).length ≤ _; rw [List.length_map]; exact ha.bag
    | 6 => show (a.draws.map Go.Lib.itoa).length ≤ _; rw [List.length_map]; exact ha.draws
    | j + 7 => exact Nat.zero_le _
  have h2 := parts_len k h
  rw [List.length_cons]
  omega
def bnd (j : Nat) : Nat := [21, 21, 21, 21, 4, 400880, 840].getD j 0
theorem say_flat (a : Deed) (ht : Tiny a) (ha : Few40 a) (j : Nat) : ((Go.Say.say a j).flatMap spw).length ≤ bnd j := by
  have one : ∀ v, i64R v → (([Go.Lib.itoa v] : List Word).flatMap spw).length ≤ 21 := fun v hv => by
    have := itoa_len v hv
    simp [spw]
    omega
  match j with
  | 0 => exact one _ ht.ok.i
  | 1 => exact one _ ht.ok.k
  | 2 => exact one _ ht.ok.at'
  | 3 => exact one _ ht.ok.by'
  | 4 => exact Nat.le_refl 4
  | 5 =>
    show ((a.bag.map Go.Say.fieldW).flatMap spw).length ≤ 400880
    have := flat_len spw 10022 (a.bag.map Go.Say.fieldW) fun w hw => by
      obtain ⟨f, hf, rfl⟩ := List.mem_map.1 hw
      have h1 := itoa_len f.1 (ht.ok.bag f hf).1
      have h2 := Go.Say.hexs_len f.2
      have h3 := ha.data f hf
      unfold spw Go.Say.fieldW
      simp only [List.length_cons, List.length_append, h2]
      omega
    rw [List.length_map] at this
    have := ha.bag
    omega
  | 6 =>
    show ((a.draws.map Go.Lib.itoa).flatMap spw).length ≤ 840
    have := flat_len spw 21 (a.draws.map Go.Lib.itoa) fun w hw => by
      obtain ⟨d, hd, rfl⟩ := List.mem_map.1 hw
      have h1 := itoa_len d (ht.ok.draws d hd)
      unfold spw
      simp only [List.length_cons]
      omega
    rw [List.length_map] at this
    have := ha.draws
    omega
  | j + 7 => exact Nat.zero_le _
theorem line_len (a : Deed) (ht : Tiny a) (ha : Few40 a) (k : Nat) (h : 1 ≤ k ∧ k ≤ 11) : (Go.Say.lineW k a).length ≤ 402000 := by
  unfold Go.Say.lineW Go.Say.words
  rw [join_flat, List.length_append]
  have hn := name_len k
  have key : ∀ l : List Nat, ((l.flatMap (Go.Say.say a)).flatMap spw).length ≤ (l.map bnd).sum := by
    intro l
    induction l with
    | nil => exact Nat.le_refl 0
    | cons j l ih =>
      have := say_flat a ht ha j
      rw [List.flatMap_cons, List.flatMap_append, List.length_append, List.map_cons, List.sum_cons]
      omega
  have h2 := key (partsOf.getD k [])
  have : k = 1 ∨ k = 2 ∨ k = 3 ∨ k = 4 ∨ k = 5 ∨ k = 6 ∨ k = 7 ∨ k = 8 ∨ k = 9 ∨ k = 10 ∨ k = 11 := by omega
  have h3 : ((partsOf.getD k []).map bnd).sum ≤ 401000 := by
    rcases this with rfl | rfl | rfl | rfl | rfl | rfl | rfl | rfl | rfl | rfl | rfl <;> decide
  omega
theorem i64_small (v : Int) (h : -1000 ≤ v ∧ v ≤ 1000) : i64R v := by unfold i64R; omega
def ex1 : Deed := ⟨1, 3, 0, 0, 0, 1, 2, [(40, [10, 255])], []⟩
theorem itoa40 : Go.Lib.itoa 40 = [52, 48] := by
  unfold Go.Lib.itoa
  rw [if_neg (by omega), show Int.toNat 40 = 40 from rfl, Go.Lib.decDigits_two (by omega) (by omega)]
  rfl
theorem itoa_neg1 : Go.Lib.itoa (-1) = [45, 49] := by
  unfold Go.Lib.itoa
  rw [if_pos (by omega), show Int.natAbs (-1) = 1 from rfl, Go.Lib.decDigits_one (by omega)]
  rfl
theorem ex1_line : Go.Say.lineW 1 ex1 = [115, 116, 97, 114, 116, 32, 51, 32, 49, 45, 50, 32, 52, 48, 58, 48, 97, 102, 102] := by
  unfold Go.Say.lineW Go.Say.words
  rw [join_flat]
  show [115, 116, 97, 114, 116] ++ (([Go.Lib.itoa (3 : Nat)] ++ ([Go.Say.spanT 1 2] ++ ([Go.Lib.itoa 40 ++ 58 :: Go.Say.hexs [10, 255]] ++ []))) : List Word).flatMap spw = _
  rw [itoa_dig 3 (by omega), itoa40]
  rfl
theorem ex1_ok : Go.Say.Ok ex1 := by
  refine ⟨i64_small _ (by decide), i64_small _ (by decide), i64_small _ (by decide), i64_small _ (by decide), ?_, by simp [ex1]⟩
  intro f hf
  rw [List.mem_singleton.1 hf]
  refine ⟨i64_small _ (by decide), ?_⟩
  intro c hc
  rcases List.mem_cons.1 hc with rfl | hc
  · omega
  · rw [List.mem_singleton.1 hc]; omega
def ex3 : Deed := ⟨3, 0, 0, 0, 0, 0, 0, [], [5, -1]⟩
theorem ex3_line : Go.Say.lineW 3 ex3 = [116, 105, 99, 107, 32, 48, 32, 53, 32, 45, 49] := by
  unfold Go.Say.lineW Go.Say.words
  rw [join_flat]
  show [116, 105, 99, 107] ++ (([Go.Lib.itoa (0 : Nat)] ++ ([Go.Lib.itoa (5 : Nat), Go.Lib.itoa (-1)] ++ [])) : List Word).flatMap spw = _
  rw [itoa_dig 0 (by omega), itoa_dig 5 (by omega), itoa_neg1]
  rfl
theorem ex3_small : Small ex3 := by
  refine ⟨⟨by decide, by simp [ex3], by simp [ex3]⟩, by decide, ⟨i64_small _ (by decide), i64_small _ (by decide), i64_small _ (by decide), i64_small _ (by decide), by simp [ex3], ?_⟩⟩
  intro d hd
  rcases List.mem_cons.1 hd with rfl | hd
  · exact i64_small _ (by decide)
  · rw [List.mem_singleton.1 hd]; exact i64_small _ (by decide)
theorem stop03 : Go.Say.parseL [115, 116, 111, 112, 32, 48, 51] = none := by
  cases h : Go.Say.parseL [115, 116, 111, 112, 32, 48, 51] with
  | none => rfl
  | some a =>
    exfalso
    unfold Go.Say.parseL at h
    rw [show Go.Say.spl 32 [115, 116, 111, 112, 32, 48, 51] = [[115, 116, 111, 112], [48, 51]] by decide, Go.Say.parseW, show Go.Say.kindOf [115, 116, 111, 112] = some 2 by decide] at h
    have h := Go.Say.fin_some (show Go.Say.fin (Go.Say.reads [0] (zero 2) [[48, 51]]) = some a from h)
    obtain ⟨a', ws', e, _⟩ := Go.Say.reads_cons h
    obtain ⟨v, e2, hv, _⟩ := Go.Say.read_0 e
    have e3 : Go.Lib.itoa v = [48, 51] := (List.cons.inj e2).1.symm
    have e4 := Go.Say.atoi_itoa v hv.1 hv.2
    rw [e3] at e4
    have e5 : Go.Lib.atoiAll [48, 51] = .ok 3 := by first | rfl | decide
    rw [e5] at e4
    injection e4 with e6
    rw [← e6, show (3 : Int) = ((3 : Nat) : Int) from rfl, itoa_dig 3 (by omega)] at e3
    revert e3
    decide
theorem Awake.pure : law39_awake.f BIG () = some true := by
  unfold law39_awake.f law39_awake.b
  have p1 := Parse.pure (⟨((115 :: (116 :: (97 :: (114 :: (116 :: (32 :: (51 :: (32 :: (49 :: (45 :: (50 :: (32 :: (52 :: (48 :: (58 :: (48 :: (97 :: (102 :: (102 :: ([] : List UInt8))))))))))))))))))))).toArray⟩ : ByteArray) (by decide)
  have q1 : Go.Say.parseL (tOf (⟨((115 :: (116 :: (97 :: (114 :: (116 :: (32 :: (51 :: (32 :: (49 :: (45 :: (50 :: (32 :: (52 :: (48 :: (58 :: (48 :: (97 :: (102 :: (102 :: ([] : List UInt8))))))))))))))))))))).toArray⟩ : ByteArray)) = some (Go.Say.bare 1 ex1) := by
    have := Go.Say.parse_line (k := 1) (by omega) ex1_ok rfl (fun _ => rfl)
    rw [ex1_line] at this
    exact this
  rw [q1] at p1
  have p2 := Text.pure_ok ex3 ex3_small 3 rfl (by omega) (by omega) (by rw [ex3_line]; decide) (by decide)
  rw [ex3_line] at p2
  have p3 := Parse.pure (⟨((115 :: (116 :: (111 :: (112 :: (32 :: (48 :: (51 :: ([] : List UInt8))))))))).toArray⟩ : ByteArray) (by decide)
  rw [show Go.Say.parseL (tOf (⟨((115 :: (116 :: (111 :: (112 :: (32 :: (48 :: (51 :: ([] : List UInt8))))))))).toArray⟩ : ByteArray)) = none from stop03] at p3
  simp only [veil_eq, p1, p3]
  rw [show say_Text.f BIG (3 : Int) 0 0 0 0 0 0 [] (5 :: -(1 : Int) :: []) = _ from p2]
  simp only [toList_data]
  decide +kernel
theorem fold_keep (a : Deed) : ∀ (l : List Nat) (to : Deed), ((l.foldl (mv1 a) to).bag = a.bag ∨ (l.foldl (mv1 a) to).bag = to.bag) ∧ ((l.foldl (mv1 a) to).draws = a.draws ∨ (l.foldl (mv1 a) to).draws = to.draws)
  | [], to => ⟨.inr rfl, .inr rfl⟩
  | j :: l, to => by
    obtain ⟨h1, h2⟩ := fold_keep a l (mv1 a to j)
    have e : ((mv1 a to j).bag = a.bag ∨ (mv1 a to j).bag = to.bag) ∧ ((mv1 a to j).draws = a.draws ∨ (mv1 a to j).draws = to.draws) := by
      match j with
      | 0 | 1 | 2 | 3 | 4 => exact ⟨.inr rfl, .inr rfl⟩
      | 5 => exact ⟨.inl rfl, .inr rfl⟩
      | 6 => exact ⟨.inr rfl, .inl rfl⟩
      | j + 7 => exact ⟨.inr rfl, .inr rfl⟩
    obtain ⟨e1, e2⟩ := e
    rw [List.foldl_cons]
    refine ⟨?_, ?_⟩
    · rcases h1 with h1 | h1
      · exact .inl h1
      · rcases e1 with e1 | e1
        · exact .inl (h1.trans e1)
        · exact .inr (h1.trans e1)
    · rcases h2 with h2 | h2
      · exact .inl h2
      · rcases e2 with e2 | e2
        · exact .inl (h2.trans e2)
        · exact .inr (h2.trans e2)
theorem bare_sb {a : Deed} (h : Tiny a) : smallBag (bareA a).bag ∧ (bareA a).draws.length ≤ 1000000 := by
  obtain ⟨h1, h2⟩ := fold_keep a (partsB (bitsOf a.kind) 0) (zero a.kind)
  constructor
  · rcases h1 with h1 | h1
    · show smallBag (bareA a).bag
      rw [show (bareA a).bag = a.bag from h1]
      exact Tiny.sb h
    · rw [show (bareA a).bag = [] from h1]
      exact ⟨by decide, by simp⟩
  · rcases h2 with h2 | h2
    · rw [show (bareA a).draws = a.draws from h2]
      have := h.draws
      omega
    · rw [show (bareA a).draws = [] from h2]
      exact Nat.zero_le _
theorem bare_alike {a : Deed} (h : Tiny a) : law39_alike.f BIG (bareA a).kind (bareA a).i (bareA a).k (bareA a).at' (bareA a).by' (bareA a).lo (bareA a).hi (bareA a).bag (bareA a).draws (bareA a).kind (bareA a).i (bareA a).k (bareA a).at' (bareA a).by' (bareA a).lo (bareA a).hi (bareA a).bag (bareA a).draws = some true := by
  obtain ⟨h1, h2⟩ := bare_sb h
  rw [Alike.pure (bareA a) (bareA a) h1 h1 h2, decide_eq_true rfl]
/-- what is said of an act that can be said -/
structure Said (a : Deed) : Prop where
  text : say_Text.f BIG a.kind a.i a.k a.at' a.by' a.lo a.hi a.bag a.draws = some (bOf (lineA a), 0)
  line : law39_line.f BIG a.kind a.i a.k a.at' a.by' a.lo a.hi a.bag a.draws = some (bOf (lineA a))
  len : (lineA a).length ≤ 402000
  parse : Go.Say.parseL (lineA a) = some (bareA a)
  eq : lineA a = Go.Say.lineW a.kind.toNat a
theorem said_of {a : Deed} (ht : Tiny a) (hf : Few40 a) (h : sayable a) : Said a := by
  have hk : a.kind = (a.kind.toNat : Nat) := by have := h.1; omega
  have hr : 1 ≤ a.kind.toNat ∧ a.kind.toNat ≤ 11 := by have := h.1; omega
  have hs : a.kind.toNat = 1 → Go.Say.spanOk a.lo a.hi = true := fun e => h.2 (by omega)
  have el : lineA a = Go.Say.lineW a.kind.toNat a := by unfold lineA; rw [if_pos h]
  have hl := line_len a ht hf a.kind.toNat hr
  have hw := words_len a hf a.kind.toNat hr
  refine ⟨?_, Line.pure a ht, by rw [el]; exact hl, ?_, el⟩
  · rw [el]
    exact Text.pure_ok a (Tiny.small ht) a.kind.toNat hk hr hs (by omega) (by omega)
  · rw [el, Go.Say.parse_line hr ht.ok hk hs, bareA_kind a a.kind.toNat hk hr]
theorem SayTexts.pure (a b : Deed) (ha : Given a) (hb : Given b) : law39_SayTexts.f BIG a.kind a.i a.k a.at' a.by' a.lo a.hi a.bag a.draws b.kind b.i b.k b.at' b.by' b.lo b.hi b.bag b.draws = some true := by
  unfold law39_SayTexts.f law39_SayTexts.b
  obtain ⟨ra, ea, pa⟩ := Few.pure a ha
  obtain ⟨rb, eb, pb⟩ := Few.pure b hb
  simp only [veil_eq, ea, eb, Awake.pure]
  cases ra with
  | false => rfl
  | true =>
  obtain ⟨ta, fa⟩ := pa rfl
  rw [if_neg (by decide)]
  cases rb with
  | false => rfl
  | true =>
  obtain ⟨tb, fb⟩ := pb rfl
  rw [if_neg (by decide), Bare.pure a (Tiny.small ta), LBare.pure a]
  simp only [tup]
  rw [bare_alike ta]
  simp only
  rw [if_neg (by decide), Same.pure a b (Tiny.sb ta) (Tiny.sb tb) (by have := ta.draws; omega), Alike.pure a b (Tiny.sb ta) (Tiny.sb tb) (by have := ta.draws; omega)]
  simp only
  rw [if_neg (by simp)]
  by_cases h1 : a.kind < 1
  · rw [Text.pure_kind a (by omega)]
    simp only
    rw [if_pos (decide_eq_true h1)]
    simp only [toList_data]
    rfl
  by_cases h2 : a.kind > 11
  · rw [Text.pure_kind a (by omega)]
    simp only
    rw [if_neg (by simpa using h1), if_pos (decide_eq_true h2)]
    simp only [toList_data]
    rfl
  by_cases h3 : a.kind = 1 ∧ Go.Say.spanOk a.lo a.hi = false
  · rw [Text.pure_span a h3.1 h3.2]
    simp only [Valid.pure, h3.2]
    rw [if_neg (by simpa using h1), if_neg (by simpa using h2), if_pos (by simpa using h3.1), if_pos (by decide)]
    simp only [toList_data]
    rfl
  · have hsay : sayable a := ⟨by omega, fun e => by
      cases hs : Go.Say.spanOk a.lo a.hi with
      | true => rfl
      | false => exact absurd ⟨e, hs⟩ h3⟩
    have S := said_of ta fa hsay
    have hp := Parse.pure (bOf (lineA a)) (by rw [bOf_size]; have := S.len; omega)
    rw [tOf_bOf, S.parse] at hp
    rw [S.text]
    simp only
    rw [hp, if_neg (by simpa using h1), if_neg (by simpa using h2)]
    simp only [S.line, tup10, bare_alike ta, Valid.pure, toList_data]
    by_cases h4 : a.kind = 1
    · rw [if_pos (by simpa using h4), if_neg (by rw [hsay.2 h4]; decide)]
      simp
    · rw [if_neg (by simpa using h4)]
      simp
abbrev Elem := Int × (Int × (Int × (Int × (Int × ((Int × Int) × ((List (Int × (List Int))) × (List Int)))))))
def deedOf (y : Elem) : Deed := ⟨y.1, y.2.1, y.2.2.1, y.2.2.2.1, y.2.2.2.2.1, y.2.2.2.2.2.1.1, y.2.2.2.2.2.1.2, y.2.2.2.2.2.2.1, y.2.2.2.2.2.2.2⟩
theorem good_int {v : Int} (h : Go.Den.Good (.int .i64) v) : i64R v := by
  have h2 : (Lit.int .i64 v).wf = true := h
  simp [Lit.wf, IntKind.min, IntKind.max, IntKind.signed, IntKind.bits] at h2
  exact ⟨by omega, by omega⟩
theorem good_bytes {l : List Int} (h : Go.Den.Good (.sl (.int .u8)) l) : ∀ c ∈ l, 0 ≤ c ∧ c ≤ 255 := by
  intro c hc
  have h1 := h.2 c hc
  have h2 : (Lit.int .u8 c).wf = true := h1
  simp [Lit.wf, IntKind.min, IntKind.max, IntKind.signed, IntKind.bits] at h2
  omega
theorem reach_small : reachBytes ≤ 281474976710656 := by
  have : reachBytes = 140737488351232 := rfl
  omega
theorem good_act {y : Elem} (h : Go.Den.Good (.pair (.int .i64) (.pair (.int .i64) (.pair (.int .i64) (.pair (.int .i64) (.pair (.int .i64) (.pair (.pair (.int .i64) (.int .i64)) (.pair (.sl (.pair (.int .i64) (.sl (.int .u8)))) (.sl (.int .i64))))))))) y) : Given (deedOf y) := by
  obtain ⟨h1, h2, h3, h4, h5, ⟨h6, h7⟩, ⟨h8, h9⟩, h10, h11⟩ := h
  have hr := reach_small
  exact ⟨⟨good_int h2, good_int h3, good_int h4, good_int h5, fun f hf => ⟨good_int (h9 f hf).1, good_bytes (h9 f hf).2⟩, fun d hd => good_int (h11 d hd)⟩, good_int h6, good_int h7, ⟨Nat.le_trans h8 hr, fun f hf => Nat.le_trans (h9 f hf).2.1 hr⟩, Nat.le_trans h10 hr⟩
theorem sayTexts_envOk : EnvOk Tryz.prog law39_SayTexts_E := env_ok (l := [(7, s_law39_awake), (8, s_say_Parse), (9, s_law39_alike), (10, s_law39_bare), (11, s_law39_line), (13, s_law39_few), (14, s_say_Bare), (15, s_say_Same), (16, s_say_Text), (17, s_span_Valid)]) th_ok any_ok ⟨⟨s_law39_awake_ok, s_law39_awake_det⟩, ⟨s_say_Parse_ok, s_say_Parse_det⟩, ⟨s_law39_alike_ok, s_law39_alike_det⟩, ⟨s_law39_bare_ok, s_law39_bare_det⟩, ⟨s_law39_line_ok, s_law39_line_det⟩, ⟨s_law39_few_ok, s_law39_few_det⟩, ⟨s_say_Bare_ok, s_say_Bare_det⟩, ⟨s_say_Same_ok, s_say_Same_det⟩, ⟨s_say_Text_ok, s_say_Text_det⟩, ⟨s_span_Valid_ok, s_span_Valid_det⟩, trivial⟩ _
theorem sayTexts_tells (aKind : Int) (aI : Int) (aK : Int) (aAt : Int) (aBy : Int) (aSpanLo : Int) (aSpanHi : Int) (aBag : List (Int × List Int)) (aDraws : List Int) (bKind : Int) (bI : Int) (bK : Int) (bAt : Int) (bBy : Int) (bSpanLo : Int) (bSpanHi : Int) (bBag : List (Int × List Int)) (bDraws : List Int) (hl : Given ⟨aKind, aI, aK, aAt, aBy, aSpanLo, aSpanHi, aBag, aDraws⟩ ∧ Given ⟨bKind, bI, bK, bAt, bBy, bSpanLo, bSpanHi, bBag, bDraws⟩) : denF law39_SayTexts_E loopN BIG Tryz.f5 [.raw] [.agg [.d (.int .i64) aKind, .d (.int .i64) aI, .d (.int .i64) aK, .d (.int .i64) aAt, .d (.int .i64) aBy, .d (.int .i64) aSpanLo, .d (.int .i64) aSpanHi, .d (.sl (.pair (.int .i64) (.sl (.int .u8)))) aBag, .d (.sl (.int .i64)) aDraws], .agg [.d (.int .i64) bKind, .d (.int .i64) bI, .d (.int .i64) bK, .d (.int .i64) bAt, .d (.int .i64) bBy, .d (.int .i64) bSpanLo, .d (.int .i64) bSpanHi, .d (.sl (.pair (.int .i64) (.sl (.int .u8)))) bBag, .d (.sl (.int .i64)) bDraws]] [] isTrue = some () := by
  rw [denF_any sayTexts_envOk.D ((law39_SayTexts.eq BIG aKind aI aK aAt aBy aSpanLo aSpanHi aBag aDraws bKind bI bK bAt bBy bSpanLo bSpanHi bBag bDraws).trans (SayTexts.pure ⟨aKind, aI, aK, aAt, aBy, aSpanLo, aSpanHi, aBag, aDraws⟩ ⟨bKind, bI, bK, bAt, bBy, bSpanLo, bSpanHi, bBag, bDraws⟩ hl.1 hl.2)) (out := [.d .bool true]) (os := []) (fun rs ros hk => by
    unfold law39_SayTexts.k at hk
    split at hk
    · first | (cases hk; exact ⟨rfl, rfl⟩) | (have e := Option.some.inj hk; rw [← e]; exact ⟨rfl, rfl⟩)
    · cases hk)]
  rfl
set_option maxRecDepth 100000 in
theorem sayTexts_lifted (os : Os) (started : os.Started) (H : Type) (enc : TypeId × Value → H) :
    ReturnsInHanded {} Tryz.checked os 5 .any (fun w args => (Rows.sayTextsSpec.pre enc Tryz.prog Tryz.f5 [] false w args ∧ laidMetH Tryz.prog laidL w) ∧ sizedMet enc Tryz.prog Tryz.f5 (OpenSpec.ofChange Rows.sayTextsSpec) false w args)
      (Rows.sayTextsSpec.post enc Tryz.prog Tryz.f5 false true false false) := by
  refine handed_and_shaped (C := Tryz.checked) (X := fun w _ => laidMetH Tryz.prog laidL w) (fun _ _ _ hh h => h.of_heap hh) Tryz.own started (by kernel_rfl) Tryz.func5
    (ChangeSpec.witness_shaped (enc := enc) (C := Tryz.checked) (os := os) (X := fun w _ => laidMetH Tryz.prog laidL w) false (World.laidAll Tryz.prog os laidL) #[.agg #[.int .i64 0, .int .i64 0, .int .i64 0, .int .i64 0, .int .i64 0, .int .i64 0, .int .i64 0, .slice none 0 0, .slice none 0 0], .agg #[.int .i64 0, .int .i64 0, .int .i64 0, .int .i64 0, .int .i64 0, .int .i64 0, .int .i64 0, .slice none 0 0, .slice none 0 0]] 8 (World.laidAll_os _ _ _) (World.shaped_of_ZipB (by kernel_rfl) (by kernel_rfl)) (by kernel_rfl) (by kernel_rfl) (by kernel_rfl) (door_met os _)) ?_
  intro W base args ds gs before hval hW hwt hL hsh
  exact law_contract sayTexts_envOk Tryz.func5 rfl [(.pair (.int .i64) (.pair (.int .i64) (.pair (.int .i64) (.pair (.int .i64) (.pair (.int .i64) (.pair (.pair (.int .i64) (.int .i64)) (.pair (.sl (.pair (.int .i64) (.sl (.int .u8)))) (.sl (.int .i64)))))))), true), (.pair (.int .i64) (.pair (.int .i64) (.pair (.int .i64) (.pair (.int .i64) (.pair (.int .i64) (.pair (.pair (.int .i64) (.int .i64)) (.pair (.sl (.pair (.int .i64) (.sl (.int .u8)))) (.sl (.int .i64)))))))), true)] (tb := 4) (by kernel_rfl) (by kernel_rfl) (by kernel_rfl) rfl
    (fun ds h => by match ds, h with | [_, _], _ => rfl) Tryz.laidOut Tryz.mapsRow Tryz.slicesSize (fun y hg => ⟨BIG, sayTexts_tells y.1.1 y.1.2.1 y.1.2.2.1 y.1.2.2.2.1 y.1.2.2.2.2.1 y.1.2.2.2.2.2.1.1 y.1.2.2.2.2.2.1.2 y.1.2.2.2.2.2.2.1 y.1.2.2.2.2.2.2.2 y.2.1.1 y.2.1.2.1 y.2.1.2.2.1 y.2.1.2.2.2.1 y.2.1.2.2.2.2.1 y.2.1.2.2.2.2.2.1.1 y.2.1.2.2.2.2.2.1.2 y.2.1.2.2.2.2.2.2.1 y.2.1.2.2.2.2.2.2.2 ⟨good_act hg.1, good_act hg.2.1⟩⟩) W base args ds gs before hval hW hwt (laid_glob hL hsh)
theorem sayTexts_row : Rows.SayTextsSaid :=
  OpenClaim.holds_of_wide 5 Tryz.f5 rfl rfl rfl rfl rfl rfl rfl ⟨rfl, rfl, rfl, rfl, rfl⟩ rfl rfl rfl rfl rfl (by kernel_rfl) Tryz.func5 (by kernel_rfl)
    (of_decide_eq_true (by kernel_rfl)) (by unfold Func.isWrapper; first | (rw [if_pos (by decide +kernel)]; kernel_rfl) | (rw [if_neg (by decide +kernel)]; exact ⟨rfl, rfl⟩))
    (fun os started H enc _ => sayTexts_lifted os started H enc)
theorem sayTexts_holds : Rows.SayTextsCardSaid :=
  Claim7.holds_tied_plain_at .later [] [.data, .data, .data, .data, .sentinel, .sentinel, .pinned] true (true, "acceacf41988f24c40d8fbda90477dcb0669e49302460bda22ef914b14c1da6e") true
    sayTexts_row (fun _ h => by cases h) (by kernel_rfl) (fun _ h => by cases h) sayTexts_row_tie rfl ⟨rfl, rfl⟩ (by kernel_rfl) rfl
    (fun f fn hf hfn => by
      obtain rfl : f = 5 := Option.some.inj ((show Tryz.prog.funcNamed "polyglot/polyglotlaw39.SayTexts" = some 5 by kernel_rfl).symm.trans hf) |>.symm
      obtain rfl : fn = Tryz.f5 := (Option.some.inj (Tryz.func5.symm.trans hfn)).symm
      exact ⟨by kernel_rfl, fun j t ht => by
        have hm : t ∈ Tryz.f5.params.toList := by simpa using Array.mem_of_getElem? ht
        have hall : (Tryz.f5.params.toList.all fun u => !Tryz.prog.wantsStandIn u) = true := by kernel_rfl
        exact (show Tryz.prog.wantsStandIn t = false by simpa using List.all_eq_true.1 hall t hm)⟩)
    (by kernel_rfl)
end Go.Proofs.YthangnlmckeipaaGreatDoor
