/- Fields as words, there and back. -/
import Derived.Lib.CutLaws
import Derived.Test.YthangnlmckeipaaGreatDoorQ1
set_option linter.unusedVariables false
set_option linter.unusedSimpArgs false
namespace Go.Say
open Go.Lib

theorem indexByte_app {c : UInt8} {a : List UInt8} (b : List UInt8) (h : c ∉ a) : indexByte (a ++ c :: b) c = a.length := by
  rcases Int.lt_or_le (indexByte (a ++ c :: b) c) 0 with hneg | hpos
  · have hge := indexByte_ge (a ++ c :: b) c
    have h1 : indexByte (a ++ c :: b) c = -1 := by omega
    exact absurd (by simp) (indexByte_none h1 a.length)
  · obtain ⟨i, hi⟩ : ∃ i : Nat, indexByte (a ++ c :: b) c = i := ⟨(indexByte (a ++ c :: b) c).toNat, by omega⟩
    obtain ⟨h1, h2⟩ := indexByte_some hi
    rw [hi]
    congr 1
    rcases Nat.lt_trichotomy i a.length with k | k | k
    · rw [List.getElem?_append_left k] at h1
      exact absurd (List.mem_of_getElem? h1) h
    · exact k
    · exact absurd (by simp) (h2 a.length k)

def digits : List UInt8 := [48, 49, 50, 51, 52, 53, 54, 55, 56, 57, 97, 98, 99, 100, 101, 102]
def hexD (d : Nat) : UInt8 := digits.getD d 48
theorem hexD_at : ∀ d : Nat, d < 16 → indexByte digits (hexD d) = d := by decide
theorem hexD_of {c : UInt8} {d : Nat} (h : indexByte digits c = d) : d < 16 ∧ hexD d = c := by
  obtain ⟨h1, _⟩ := indexByte_some h
  have hlt : d < digits.length := (List.getElem?_eq_some_iff.1 h1).1
  refine ⟨hlt, ?_⟩
  unfold hexD
  rw [List.getD_eq_getElem?_getD, h1]
  rfl
def hexs (l : List Int) : List UInt8 := l.flatMap fun c => [hexD (c.toNat / 16), hexD (c.toNat % 16)]
def unhex : List UInt8 → Option (List Int)
  | [] => some []
  | [_] => none
  | a :: b :: r => if indexByte digits a < 0 ∨ indexByte digits b < 0 then none else (unhex r).map fun d => (indexByte digits a * 16 + indexByte digits b) :: d
theorem unhex_hexs : ∀ l : List Int, (∀ c ∈ l, 0 ≤ c ∧ c ≤ 255) → unhex (hexs l) = some l
  | [], _ => rfl
  | c :: l, h => by
    have hc := h c List.mem_cons_self
    have ih := unhex_hexs l fun x hx => h x (List.mem_cons_of_mem _ hx)
    have e : hexs (c :: l) = hexD (c.toNat / 16) :: hexD (c.toNat % 16) :: hexs l := rfl
    rw [e, unhex, hexD_at _ (by omega), hexD_at _ (by omega), if_neg (by omega), ih]
    simp
    omega
theorem hexs_unhex : ∀ (n : Nat) (w : List UInt8) (l : List Int), w.length ≤ n → unhex w = some l → w = hexs l ∧ ∀ c ∈ l, 0 ≤ c ∧ c ≤ 255 := by
  intro n
  induction n with
  | zero =>
    intro w l hn h
    have : w = [] := List.eq_nil_of_length_eq_zero (by omega)
    subst this
    cases h
    exact ⟨rfl, by simp⟩
  | succ n ih =>
    intro w l hn h
    match w, h with
    | [], h => cases h; exact ⟨rfl, by simp⟩
    | [_], h => cases h
    | a :: b :: r, h =>
      rw [unhex] at h
      split at h
      · cases h
      rename_i hno
      rw [Option.map_eq_some_iff] at h
      obtain ⟨d, hd, rfl⟩ := h
      obtain ⟨hr, hb⟩ := ih r d (by simp at hn; omega) hd
      obtain ⟨x, hx⟩ : ∃ x : Nat, indexByte digits a = x := ⟨(indexByte digits a).toNat, by omega⟩
      obtain ⟨y, hy⟩ : ∃ y : Nat, indexByte digits b = y := ⟨(indexByte digits b).toNat, by omega⟩
      obtain ⟨x16, ex⟩ := hexD_of hx
      obtain ⟨y16, ey⟩ := hexD_of hy
      rw [hx, hy]
      refine ⟨?_, fun c hc => ?_⟩
      · have e : hexs (((x : Int) * 16 + (y : Int)) :: d) = hexD (((x : Int) * 16 + (y : Int)).toNat / 16) :: hexD (((x : Int) * 16 + (y : Int)).toNat % 16) :: hexs d := rfl
        rw [e, show ((x : Int) * 16 + (y : Int)).toNat / 16 = x by omega, show ((x : Int) * 16 + (y : Int)).toNat % 16 = y by omega, ex, ey, ← hr]
      · rcases List.mem_cons.1 hc with rfl | hc
        · omega
        · exact hb c hc
theorem hexs_byte : ∀ (l : List Int), ∀ c ∈ hexs l, c ∈ digits ∨ c = 48 := by
  intro l c hc
  unfold hexs at hc
  rw [List.mem_flatMap] at hc
  obtain ⟨x, _, hx⟩ := hc
  have key : ∀ d, hexD d ∈ digits ∨ hexD d = 48 := fun d => by
    unfold hexD
    rw [List.getD_eq_getElem?_getD]
    cases h : digits[d]? with
    | none => exact .inr rfl
    | some y => exact .inl (List.mem_of_getElem? h)
  simp only [List.mem_cons, List.not_mem_nil, or_false] at hx
  rcases hx with rfl | rfl
  · exact key _
  · exact key _
theorem hexs_len (l : List Int) : (hexs l).length = 2 * l.length := by
  induction l with
  | nil => rfl
  | cons c l ih =>
    show ([hexD (c.toNat / 16), hexD (c.toNat % 16)] ++ hexs l).length = _
    rw [List.length_append, ih, List.length_cons]
    simp
    omega

/-- a field as a word -/
def fieldW (f : Int × List Int) : List UInt8 := itoa f.1 ++ 58 :: hexs f.2
/-- the field of a word -/
def readW (w : List UInt8) : Option (Int × List Int) :=
  match parseN (cut w [58]).1 with
  | none => none
  | some t => if (cut w [58]).2.2 = false ∨ (cut w [58]).2.1.length % 2 ≠ 0 then none else (unhex (cut w [58]).2.1).map fun d => (t, d)
theorem itoa_no {c : UInt8} (hc : c = 58 ∨ c = 32 ∨ c = 10) (v : Int) : c ∉ itoa v := by
  intro h
  have := itoa_byte v c h
  rcases hc with rfl | rfl | rfl
  · rcases this with e | e
    · exact absurd e (by decide)
    · exact absurd e (by decide)
  · rcases this with e | e
    · exact absurd e (by decide)
    · exact absurd e (by decide)
  · rcases this with e | e
    · exact absurd e (by decide)
    · exact absurd e (by decide)
theorem fieldW_no {c : UInt8} (hc : c = 32 ∨ c = 10) (f : Int × List Int) : c ∉ fieldW f := by
  intro h
  unfold fieldW at h
  rw [List.mem_append, List.mem_cons] at h
  rcases h with h | h | h
  · exact itoa_no (.inr hc) _ h
  · rcases hc with rfl | rfl
    · exact absurd h (by decide)
    · exact absurd h (by decide)
  · have := hexs_byte _ c h
    rcases hc with rfl | rfl
    · rcases this with e | e
      · exact absurd e (by decide)
      · exact absurd e (by decide)
    · rcases this with e | e
      · exact absurd e (by decide)
      · exact absurd e (by decide)
theorem cut_field (a b : List UInt8) (h : (58 : UInt8) ∉ a) : cut (a ++ 58 :: b) [58] = (a, b, true) := by
  unfold cut
  rw [index_one, indexByte_app b h, if_pos (by omega), Int.toNat_natCast]
  simp
theorem readW_field (f : Int × List Int) (h0 : -9223372036854775808 ≤ f.1) (h1 : f.1 ≤ 9223372036854775807) (hb : ∀ c ∈ f.2, 0 ≤ c ∧ c ≤ 255) : readW (fieldW f) = some f := by
  unfold readW fieldW
  rw [cut_field _ _ (itoa_no (.inl rfl) _)]
  dsimp only
  rw [(parseN_iff _ _).2 ⟨rfl, h0, h1⟩]
  dsimp only
  rw [if_neg (by rw [hexs_len]; simp), unhex_hexs _ hb]
  rfl
theorem readW_some {w : List UInt8} {f : Int × List Int} (h : readW w = some f) : w = fieldW f ∧ (-9223372036854775808 ≤ f.1 ∧ f.1 ≤ 9223372036854775807) ∧ ∀ c ∈ f.2, 0 ≤ c ∧ c ≤ 255 := by
  unfold readW at h
  split at h
  · cases h
  rename_i t ht
  split at h
  · cases h
  rename_i hc
  rw [Option.map_eq_some_iff] at h
  obtain ⟨d, hd, rfl⟩ := h
  obtain ⟨e1, b0, b1⟩ := (parseN_iff _ _).1 ht
  obtain ⟨e2, hb⟩ := hexs_unhex _ _ _ (Nat.le_refl _) hd
  refine ⟨?_, ⟨b0, b1⟩, hb⟩
  have hok : (cut w [58]).2.2 = true := by
    cases h : (cut w [58]).2.2 with
    | true => rfl
    | false => exact absurd (.inl h) hc
  unfold fieldW
  rw [← e1, ← e2]
  unfold cut at hok ⊢
  split
  · rename_i hp
    rw [index_one] at hp ⊢
    obtain ⟨i, hi⟩ : ∃ i : Nat, indexByte w 58 = i := ⟨(indexByte w 58).toNat, by omega⟩
    obtain ⟨e, _, _⟩ := cut_at hi
    rw [hi, Int.toNat_natCast]
    exact e
  · rename_i hp
    rw [if_neg hp] at hok
    cases hok
end Go.Say
