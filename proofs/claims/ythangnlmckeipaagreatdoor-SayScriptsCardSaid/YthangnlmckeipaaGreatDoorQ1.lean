/- Words: splitting at a byte and joining; numbers as texts, there and back. -/
import Derived.Lib.SplitLaws
import Derived.Lib.Join
import Derived.Lib.AtoiAllCases
import Derived.Lib.ItoaNum
set_option linter.unusedVariables false
set_option linter.unusedSimpArgs false
namespace Go.Say
open Go.Lib

/-- cut at each byte c -/
def spl (c : UInt8) : List UInt8 → List (List UInt8)
  | [] => [[]]
  | x :: l => if x = c then [] :: spl c l else match spl c l with
    | [] => [[x]]
    | y :: ys => (x :: y) :: ys

theorem spl_ne (c : UInt8) : ∀ l, spl c l ≠ []
  | [] => by simp [spl]
  | x :: l => by
    unfold spl
    split
    · simp
    · split <;> simp

theorem spl_none {c : UInt8} : ∀ {l : List UInt8}, c ∉ l → spl c l = [l]
  | [], _ => rfl
  | x :: l, h => by
    simp only [List.mem_cons, not_or] at h
    unfold spl
    rw [if_neg (fun e => h.1 e.symm), spl_none h.2]

theorem spl_app {c : UInt8} : ∀ {a : List UInt8} (l : List UInt8), c ∉ a → spl c (a ++ c :: l) = a :: spl c l
  | [], l, _ => by show spl c (c :: l) = _; rw [spl, if_pos rfl]
  | x :: a, l, h => by
    simp only [List.mem_cons, not_or] at h
    show spl c (x :: (a ++ c :: l)) = _
    rw [spl, if_neg (fun e => h.1 e.symm), spl_app l h.2]

theorem cut_at {c : UInt8} {l : List UInt8} {i : Nat} (h : indexByte l c = i) : l = l.take i ++ c :: l.drop (i + 1) ∧ c ∉ l.take i ∧ i < l.length := by
  obtain ⟨h1, h2⟩ := indexByte_some h
  have hlt : i < l.length := (List.getElem?_eq_some_iff.1 h1).1
  have hc : l[i] = c := (List.getElem?_eq_some_iff.1 h1).2
  refine ⟨?_, ?_, hlt⟩
  · conv => lhs; rw [← List.take_append_drop i l, List.drop_eq_getElem_cons hlt, hc]
  · intro hm
    obtain ⟨k, hk⟩ := List.getElem?_of_mem hm
    rw [List.getElem?_take] at hk
    split at hk
    · rename_i hki; exact h2 k hki hk
    · cases hk

theorem splitK_spl (c : UInt8) : ∀ (n : Nat) (l : List UInt8), l.length ≤ n → ∀ k, l.count c ≤ k → splitK [c] 0 k l = spl c l := by
  intro n
  induction n with
  | zero =>
    intro l hl k _
    have : l = [] := List.eq_nil_of_length_eq_zero (by omega)
    subst this
    cases k with
    | zero => rfl
    | succ k => rfl
  | succ n ih =>
    intro l hl k hk
    rcases Int.lt_or_le (indexByte l c) 0 with hneg | hpos
    · have hge := indexByte_ge l c
      have h1 : indexByte l c = -1 := by omega
      have hno : c ∉ l := fun hm => by
        obtain ⟨j, hj⟩ := List.getElem?_of_mem hm
        exact indexByte_none h1 j hj
      rw [spl_none hno]
      cases k with
      | zero => rfl
      | succ k => unfold splitK; rw [index_one, h1, if_pos (by decide)]
    · obtain ⟨i, hi⟩ : ∃ i : Nat, indexByte l c = i := ⟨(indexByte l c).toNat, by omega⟩
      obtain ⟨e, hno, hlt⟩ := cut_at hi
      have hcount : l.count c = 1 + (l.drop (i + 1)).count c := by
        conv => lhs; rw [e]
        rw [List.count_append, List.count_cons_self, List.count_eq_zero_of_not_mem hno]
        omega
      obtain ⟨k, rfl⟩ : ∃ k', k = k' + 1 := ⟨k - 1, by omega⟩
      have hsp : spl c l = l.take i :: spl c (l.drop (i + 1)) := by
        conv => lhs; rw [e]
        rw [spl_app _ hno]
      have hm : ¬ (((i : Nat) : Int) == -1) = true := fun h => by have := beq_iff_eq.1 h; omega
      unfold splitK
      rw [index_one, hi, if_neg hm, Int.toNat_natCast, Nat.add_zero, hsp, show i + [c].length = i + 1 from rfl, ih (l.drop (i + 1)) (by rw [List.length_drop]; omega) k (by omega)]

theorem split_eq (s sep : ByteArray) (c : UInt8) (h : sep.data.toList = [c]) : (splitB sep 0 (countB s sep) s).map (·.data.toList) = spl c s.data.toList := by
  rw [splitB_data, h]
  refine splitK_spl c _ _ (Nat.le_refl _) _ ?_
  show _ ≤ count s.data.toList sep.data.toList
  rw [h, count_one]
  exact Nat.le_refl _

theorem join_spl (c : UInt8) : ∀ l, join (spl c l) [c] = l
  | [] => by simp [spl, join_one]
  | x :: l => by
    have ih := join_spl c l
    unfold spl
    split
    · rename_i e
      subst e
      cases hs : spl x l with
      | nil => exact absurd hs (spl_ne x l)
      | cons y ys =>
        rw [hs, join_cons] at ih
        rw [join_cons]
        have e : joinTail [x] (y :: ys) = x :: (y ++ joinTail [x] ys) := by simp [joinTail]
        rw [e, ih]
        rfl
    · split
      · rename_i hs; exact absurd hs (spl_ne c l)
      · rename_i y ys hs
        rw [hs, join_cons] at ih
        rw [join_cons]
        show x :: (y ++ joinTail [c] ys) = _
        rw [ih]

theorem spl_join (c : UInt8) : ∀ (w : List UInt8) (ws : List (List UInt8)), (∀ x ∈ w :: ws, c ∉ x) → spl c (join (w :: ws) [c]) = w :: ws
  | w, [], h => by rw [join_one]; exact spl_none (h w List.mem_cons_self)
  | w, v :: ws, h => by
    have ih := spl_join c v ws fun x hx => h x (List.mem_cons_of_mem _ hx)
    have e : join (w :: v :: ws) [c] = w ++ c :: join (v :: ws) [c] := by
      rw [join_cons, join_cons]
      unfold joinTail
      simp
    rw [e, spl_app _ (h w List.mem_cons_self), ih]

theorem spl_no (c : UInt8) : ∀ (l : List UInt8), ∀ w ∈ spl c l, c ∉ w
  | [], w, h => by simp [spl] at h; subst h; simp
  | x :: l, w, h => by
    have ih := spl_no c l
    unfold spl at h
    split at h
    · rcases List.mem_cons.1 h with rfl | h
      · simp
      · exact ih w h
    · rename_i hne
      split at h
      · rename_i hs; exact absurd hs (spl_ne c l)
      · rename_i y ys hs
        rw [hs] at ih
        rcases List.mem_cons.1 h with rfl | h
        · intro hm
          rcases List.mem_cons.1 hm with e | hm
          · exact hne e.symm
          · exact ih y List.mem_cons_self hm
        · exact ih w (List.mem_cons_of_mem _ h)

/- numbers -/
theorem puint_app : ∀ (a b : List UInt8) (acc v : Nat), parseUint10 acc a = .ok v → parseUint10 acc (a ++ b) = parseUint10 v b
  | [], b, acc, v, h => by
    unfold parseUint10 at h
    cases h
    rfl
  | c :: a, b, acc, v, h => by
    unfold parseUint10 at h
    show parseUint10 acc (c :: (a ++ b)) = _
    rw [parseUint10]
    split at h
    · rename_i hd
      rw [if_pos hd]
      split at h
      · cases h
      · rename_i h1
        rw [if_neg h1]
        split at h
        · cases h
        · rename_i h2
          rw [if_neg h2]
          exact puint_app a b _ v h
    · cases h

theorem dig_nat (d : Nat) (h : d < 10) : (UInt8.ofNat (48 + d)).toNat = 48 + d := by
  rw [UInt8.toNat_ofNat']
  omega

theorem puint_dec : ∀ (n u : Nat), u ≤ n → u < 18446744073709551616 → parseUint10 0 (decDigits u) = .ok u := by
  intro n
  induction n with
  | zero =>
    intro u hu _
    have : u = 0 := by omega
    subst this
    rw [decDigits, dif_pos (by omega), parseUint10, dig_nat 0 (by omega), if_pos (by omega), if_neg (by omega), if_neg (by omega)]
    rfl
  | succ n ih =>
    intro u hu hlt
    rw [decDigits]
    split
    · rename_i h10
      rw [parseUint10, dig_nat u h10, if_pos (by omega), if_neg (by omega), if_neg (by omega)]
      show parseUint10 _ [] = _
      unfold parseUint10
      congr 1
      omega
    · rename_i h10
      rw [puint_app _ _ 0 (u / 10) (ih (u / 10) (by omega) (by omega)), parseUint10, dig_nat (u % 10) (by omega), if_pos (by omega), if_neg (by omega), if_neg (by omega)]
      show parseUint10 _ [] = _
      unfold parseUint10
      congr 1
      omega

theorem dec_digit : ∀ (n u : Nat), u ≤ n → ∀ c ∈ decDigits u, 48 ≤ c.toNat ∧ c.toNat ≤ 57 := by
  intro n
  induction n with
  | zero =>
    intro u hu c hc
    rw [decDigits, dif_pos (by omega)] at hc
    rw [List.mem_singleton.1 hc, dig_nat u (by omega)]
    omega
  | succ n ih =>
    intro u hu c hc
    rw [decDigits] at hc
    split at hc
    · rename_i h10
      rw [List.mem_singleton.1 hc, dig_nat u h10]
      omega
    · rcases List.mem_append.1 hc with hc | hc
      · exact ih (u / 10) (by omega) c hc
      · rw [List.mem_singleton.1 hc, dig_nat (u % 10) (by omega)]
        omega

theorem dec_ne (u : Nat) : ∃ c r, decDigits u = c :: r ∧ 48 ≤ c.toNat ∧ c.toNat ≤ 57 := by
  have h := decDigits_length u
  have hp := nDigits_pos u
  cases hd : decDigits u with
  | nil => rw [hd] at h; simp at h; omega
  | cons c r => exact ⟨c, r, rfl, dec_digit u u (Nat.le_refl _) c (by rw [hd]; exact List.mem_cons_self)⟩

theorem atoi_itoa (v : Int) (h0 : -9223372036854775808 ≤ v) (h1 : v ≤ 9223372036854775807) : atoiAll (itoa v) = .ok v := by
  unfold itoa
  split
  · rename_i hn
    obtain ⟨c, r, hd, _⟩ := dec_ne v.natAbs
    unfold atoiAll
    have hp : parseMag (decDigits v.natAbs) = .ok v.natAbs := by
      unfold parseMag
      rw [if_neg (by rw [hd]; simp)]
      exact puint_dec _ _ (Nat.le_refl _) (by omega)
    have e45 : (45 : UInt8).toNat = 45 := rfl
    simp only [e45]
    simp only [or_true, if_true]
    rw [hp]
    show (if ¬ True ∧ 9223372036854775808 ≤ v.natAbs then NumEnd.range else if True ∧ 9223372036854775808 < v.natAbs then NumEnd.range else NumEnd.ok (-(v.natAbs : Int))) = NumEnd.ok v
    rw [if_neg (fun h => h.1 trivial), if_neg (by omega)]
    congr 1
    omega
  · rename_i hn
    obtain ⟨c, r, hd, hc0, hc1⟩ := dec_ne v.toNat
    have hp : parseMag (decDigits v.toNat) = .ok v.toNat := by
      unfold parseMag
      rw [if_neg (by rw [hd]; simp)]
      exact puint_dec _ _ (Nat.le_refl _) (by omega)
    rw [hd] at hp ⊢
    unfold atoiAll
    simp only
    rw [if_neg (by omega), hp]
    have e1 : ¬ c.toNat = 45 := by omega
    show (if ¬ (c.toNat = 45) ∧ 9223372036854775808 ≤ v.toNat then NumEnd.range else if (c.toNat = 45) ∧ 9223372036854775808 < v.toNat then NumEnd.range else NumEnd.ok (if c.toNat = 45 then -(v.toNat : Int) else (v.toNat : Int))) = NumEnd.ok v
    rw [if_neg (by omega), if_neg (by omega), if_neg e1]
    congr 1
    omega

/-- the number of a word -/
def parseN (w : List UInt8) : Option Int := match atoiAll w with
  | .ok v => if itoa v = w then some v else none
  | _ => none
theorem parseN_iff (w : List UInt8) (v : Int) : parseN w = some v ↔ (w = itoa v ∧ -9223372036854775808 ≤ v ∧ v ≤ 9223372036854775807) := by
  constructor
  · intro h
    unfold parseN at h
    split at h
    · rename_i u hu
      split at h
      · rename_i he
        cases h
        obtain ⟨b0, b1⟩ := atoiAll_bounds hu
        exact ⟨he.symm, by omega, by omega⟩
      · cases h
    · cases h
  · rintro ⟨rfl, h0, h1⟩
    unfold parseN
    rw [atoi_itoa v h0 h1]
    simp
theorem itoa_byte (v : Int) : ∀ c ∈ itoa v, c = 45 ∨ (48 ≤ c.toNat ∧ c.toNat ≤ 57) := by
  intro c hc
  unfold itoa at hc
  split at hc
  · rcases List.mem_cons.1 hc with e | hc
    · exact .inl e
    · exact .inr (dec_digit _ _ (Nat.le_refl _) c hc)
  · exact .inr (dec_digit _ _ (Nat.le_refl _) c hc)
end Go.Say
