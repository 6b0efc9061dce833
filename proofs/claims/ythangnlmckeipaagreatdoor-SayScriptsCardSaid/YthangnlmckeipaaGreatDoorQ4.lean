/- What is read is what is said. -/
import Derived.Test.YthangnlmckeipaaGreatDoorQ3
set_option linter.unusedVariables false
set_option linter.unusedSimpArgs false
namespace Go.Say
open Go.Lib

theorem reads_cons {j : Nat} {js : List Nat} {a : Deed} {ws : List Word} {r : Deed × List Word} (h : reads (j :: js) a ws = some r) : ∃ a' ws', read j a ws = some (a', ws') ∧ reads js a' ws' = some r := by
  rw [reads] at h
  split at h
  · cases h
  · rename_i a' ws' e
    exact ⟨a', ws', e, h⟩
theorem read_0 {a a' : Deed} {ws ws' : List Word} (h : read 0 a ws = some (a', ws')) : ∃ v, ws = itoa v :: ws' ∧ i64 v ∧ a' = { a with i := v } := by
  cases ws with
  | nil => cases h
  | cons w ws =>
    obtain ⟨v, hv, e⟩ := map_some h
    cases e
    obtain ⟨rfl, h2⟩ := read_num hv
    exact ⟨v, rfl, h2, rfl⟩
theorem read_1 {a a' : Deed} {ws ws' : List Word} (h : read 1 a ws = some (a', ws')) : ∃ v, ws = itoa v :: ws' ∧ i64 v ∧ a' = { a with k := v } := by
  cases ws with
  | nil => cases h
  | cons w ws =>
    obtain ⟨v, hv, e⟩ := map_some h
    cases e
    obtain ⟨rfl, h2⟩ := read_num hv
    exact ⟨v, rfl, h2, rfl⟩
theorem read_2 {a a' : Deed} {ws ws' : List Word} (h : read 2 a ws = some (a', ws')) : ∃ v, ws = itoa v :: ws' ∧ i64 v ∧ a' = { a with at' := v } := by
  cases ws with
  | nil => cases h
  | cons w ws =>
    obtain ⟨v, hv, e⟩ := map_some h
    cases e
    obtain ⟨rfl, h2⟩ := read_num hv
    exact ⟨v, rfl, h2, rfl⟩
theorem read_3 {a a' : Deed} {ws ws' : List Word} (h : read 3 a ws = some (a', ws')) : ∃ v, ws = itoa v :: ws' ∧ i64 v ∧ a' = { a with by' := v } := by
  cases ws with
  | nil => cases h
  | cons w ws =>
    obtain ⟨v, hv, e⟩ := map_some h
    cases e
    obtain ⟨rfl, h2⟩ := read_num hv
    exact ⟨v, rfl, h2, rfl⟩
theorem read_4 {a a' : Deed} {ws ws' : List Word} (h : read 4 a ws = some (a', ws')) : ∃ lo hi, ws = spanT lo hi :: ws' ∧ spanOk lo hi = true ∧ a' = { a with lo := lo, hi := hi } := by
  cases ws with
  | nil => cases h
  | cons w ws =>
    obtain ⟨⟨lo, hi⟩, hv, e⟩ := map_some h
    cases e
    obtain ⟨rfl, h2⟩ := span_back hv
    exact ⟨lo, hi, rfl, h2, rfl⟩
theorem read_5 {a a' : Deed} {ws ws' : List Word} (h : read 5 a ws = some (a', ws')) : ∃ l, ws = l.map fieldW ∧ (∀ f ∈ l, fieldOk f) ∧ a' = { a with bag := a.bag ++ l } ∧ ws' = [] := by
  obtain ⟨l, hv, e⟩ := map_some (show (readAll readW ws).map (fun l => ({ a with bag := a.bag ++ l }, ([] : List Word))) = some (a', ws') from h)
  cases e
  obtain ⟨h1, h2⟩ := readAll_some fieldW fieldOk (fun w x hx => read_field hx) hv
  exact ⟨l, h1, h2, rfl, rfl⟩
theorem read_6 {a a' : Deed} {ws ws' : List Word} (h : read 6 a ws = some (a', ws')) : ∃ l, ws = l.map itoa ∧ (∀ d ∈ l, i64 d) ∧ a' = { a with draws := a.draws ++ l } ∧ ws' = [] := by
  obtain ⟨l, hv, e⟩ := map_some (show (readAll parseN ws).map (fun l => ({ a with draws := a.draws ++ l }, ([] : List Word))) = some (a', ws') from h)
  cases e
  obtain ⟨h1, h2⟩ := readAll_some itoa i64 (fun w x hx => read_num hx) hv
  exact ⟨l, h1, h2, rfl, rfl⟩
theorem i64_0 : i64 0 := by unfold i64; omega

structure Back (k : Nat) (ws : List Word) (a : Deed) : Prop where
  tail : ws = (words k a).tail
  ok : Ok a
  kind : a.kind = k
  bare : bare k a = a
  span : k = 1 → spanOk a.lo a.hi = true

theorem words_read {k : Nat} (hk : 1 ≤ k ∧ k ≤ 11) {ws : List Word} {a : Deed} (h : parseK k ws = some a) : Back k ws a := by
  have h := fin_some h
  obtain ⟨h1, h2⟩ := hk
  have z := i64_0
  have : k = 1 ∨ k = 2 ∨ k = 3 ∨ k = 4 ∨ k = 5 ∨ k = 6 ∨ k = 7 ∨ k = 8 ∨ k = 9 ∨ k = 10 ∨ k = 11 := by omega
  rcases this with rfl | rfl | rfl | rfl | rfl | rfl | rfl | rfl | rfl | rfl | rfl
  · obtain ⟨_, _, e, h⟩ := reads_cons (show reads [0, 4, 5] (zero 1) ws = some (a, []) from h)
    obtain ⟨v, rfl, hv, rfl⟩ := read_0 e
    obtain ⟨_, _, e, h⟩ := reads_cons h
    obtain ⟨lo, hi, rfl, hs, rfl⟩ := read_4 e
    obtain ⟨_, _, e, h⟩ := reads_cons h
    obtain ⟨l, rfl, hl, rfl, rfl⟩ := read_5 e
    cases h
    exact ⟨by simp [words, partsOf, say, zero], ⟨hv, z, z, z, by simpa [zero] using hl, by simp [zero]⟩, rfl, by simp [bare, partsOf, mv1, zero], fun _ => hs⟩
  · obtain ⟨_, _, e, h⟩ := reads_cons (show reads [0] (zero 2) ws = some (a, []) from h)
    obtain ⟨v, rfl, hv, rfl⟩ := read_0 e
    cases h
    exact ⟨by simp [words, partsOf, say, zero], ⟨hv, z, z, z, by simp [zero], by simp [zero]⟩, rfl, by simp [bare, partsOf, mv1, zero], by simp⟩
  · obtain ⟨_, _, e, h⟩ := reads_cons (show reads [0, 6] (zero 3) ws = some (a, []) from h)
    obtain ⟨v, rfl, hv, rfl⟩ := read_0 e
    obtain ⟨_, _, e, h⟩ := reads_cons h
    obtain ⟨l, rfl, hl, rfl, rfl⟩ := read_6 e
    cases h
    exact ⟨by simp [words, partsOf, say, zero], ⟨hv, z, z, z, by simp [zero], by simpa [zero] using hl⟩, rfl, by simp [bare, partsOf, mv1, zero], by simp⟩
  · obtain ⟨_, _, e, h⟩ := reads_cons (show reads [1] (zero 4) ws = some (a, []) from h)
    obtain ⟨v, rfl, hv, rfl⟩ := read_1 e
    cases h
    exact ⟨by simp [words, partsOf, say, zero], ⟨z, hv, z, z, by simp [zero], by simp [zero]⟩, rfl, by simp [bare, partsOf, mv1, zero], by simp⟩
  · obtain ⟨_, _, e, h⟩ := reads_cons (show reads [1] (zero 5) ws = some (a, []) from h)
    obtain ⟨v, rfl, hv, rfl⟩ := read_1 e
    cases h
    exact ⟨by simp [words, partsOf, say, zero], ⟨z, hv, z, z, by simp [zero], by simp [zero]⟩, rfl, by simp [bare, partsOf, mv1, zero], by simp⟩
  · obtain ⟨_, _, e, h⟩ := reads_cons (show reads [1] (zero 6) ws = some (a, []) from h)
    obtain ⟨v, rfl, hv, rfl⟩ := read_1 e
    cases h
    exact ⟨by simp [words, partsOf, say, zero], ⟨z, hv, z, z, by simp [zero], by simp [zero]⟩, rfl, by simp [bare, partsOf, mv1, zero], by simp⟩
  · obtain ⟨_, _, e, h⟩ := reads_cons (show reads [1, 2, 3] (zero 7) ws = some (a, []) from h)
    obtain ⟨v, rfl, hv, rfl⟩ := read_1 e
    obtain ⟨_, _, e, h⟩ := reads_cons h
    obtain ⟨v2, rfl, hv2, rfl⟩ := read_2 e
    obtain ⟨_, _, e, h⟩ := reads_cons h
    obtain ⟨v3, rfl, hv3, rfl⟩ := read_3 e
    cases h
    exact ⟨by simp [words, partsOf, say, zero], ⟨z, hv, hv2, hv3, by simp [zero], by simp [zero]⟩, rfl, by simp [bare, partsOf, mv1, zero], by simp⟩
  · obtain ⟨_, _, e, h⟩ := reads_cons (show reads [1, 2] (zero 8) ws = some (a, []) from h)
    obtain ⟨v, rfl, hv, rfl⟩ := read_1 e
    obtain ⟨_, _, e, h⟩ := reads_cons h
    obtain ⟨v2, rfl, hv2, rfl⟩ := read_2 e
    cases h
    exact ⟨by simp [words, partsOf, say, zero], ⟨z, hv, hv2, z, by simp [zero], by simp [zero]⟩, rfl, by simp [bare, partsOf, mv1, zero], by simp⟩
  · obtain ⟨_, _, e, h⟩ := reads_cons (show reads [0, 1] (zero 9) ws = some (a, []) from h)
    obtain ⟨v, rfl, hv, rfl⟩ := read_0 e
    obtain ⟨_, _, e, h⟩ := reads_cons h
    obtain ⟨v2, rfl, hv2, rfl⟩ := read_1 e
    cases h
    exact ⟨by simp [words, partsOf, say, zero], ⟨hv, hv2, z, z, by simp [zero], by simp [zero]⟩, rfl, by simp [bare, partsOf, mv1, zero], by simp⟩
  · obtain ⟨_, _, e, h⟩ := reads_cons (show reads [0] (zero 10) ws = some (a, []) from h)
    obtain ⟨v, rfl, hv, rfl⟩ := read_0 e
    cases h
    exact ⟨by simp [words, partsOf, say, zero], ⟨hv, z, z, z, by simp [zero], by simp [zero]⟩, rfl, by simp [bare, partsOf, mv1, zero], by simp⟩
  · obtain ⟨_, _, e, h⟩ := reads_cons (show reads [0, 5] (zero 11) ws = some (a, []) from h)
    obtain ⟨v, rfl, hv, rfl⟩ := read_0 e
    obtain ⟨_, _, e, h⟩ := reads_cons h
    obtain ⟨l, rfl, hl, rfl, rfl⟩ := read_5 e
    cases h
    exact ⟨by simp [words, partsOf, say, zero], ⟨hv, z, z, z, by simpa [zero] using hl, by simp [zero]⟩, rfl, by simp [bare, partsOf, mv1, zero], by simp⟩

/-- the kind of a name -/
def kindOf (w : Word) : Option Nat := (List.range 12).find? fun k => k != 0 && (names.getD k [] == w)
def parseW : List Word → Option Deed
  | [] => none
  | w :: ws => match kindOf w with
    | none => none
    | some k => parseK k ws
theorem kind_name : ∀ k : Nat, 1 ≤ k → k ≤ 11 → kindOf (names.getD k []) = some k := by
  intro k h1 h2
  have : k = 1 ∨ k = 2 ∨ k = 3 ∨ k = 4 ∨ k = 5 ∨ k = 6 ∨ k = 7 ∨ k = 8 ∨ k = 9 ∨ k = 10 ∨ k = 11 := by omega
  rcases this with rfl | rfl | rfl | rfl | rfl | rfl | rfl | rfl | rfl | rfl | rfl <;> decide
theorem name_kind {w : Word} {k : Nat} (h : kindOf w = some k) : (1 ≤ k ∧ k ≤ 11) ∧ w = names.getD k [] := by
  have h1 := List.find?_some h
  have h2 := List.mem_of_find?_eq_some h
  have h3 := List.mem_range.1 h2
  simp at h1
  refine ⟨⟨by omega, by omega⟩, ?_⟩
  simpa using h1.2.symm

theorem parse_words {k : Nat} (hk : 1 ≤ k ∧ k ≤ 11) {a : Deed} (ha : Ok a) (hkind : a.kind = k) (hs : k = 1 → spanOk a.lo a.hi = true) : parseW (words k a) = some (bare k a) := by
  have := read_words hk ha hkind hs
  show parseW (names.getD k [] :: _) = _
  rw [parseW, kind_name k hk.1 hk.2]
  exact this
theorem words_parse {ws : List Word} {a : Deed} (h : parseW ws = some a) : ∃ k, (1 ≤ k ∧ k ≤ 11) ∧ ws = words k a ∧ Ok a ∧ a.kind = (k : Nat) ∧ bare k a = a ∧ (k = 1 → spanOk a.lo a.hi = true) := by
  cases ws with
  | nil => cases h
  | cons w ws =>
    rw [parseW] at h
    cases hk : kindOf w with
    | none => rw [hk] at h; cases h
    | some k =>
      rw [hk] at h
      obtain ⟨h1, h2⟩ := name_kind hk
      obtain ⟨b1, b2, b3, b4, b5⟩ := words_read h1 h
      refine ⟨k, h1, ?_, b2, b3, b4, b5⟩
      rw [h2, b1]
      rfl

theorem say_no {c : UInt8} (hc : c = 32 ∨ c = 10) (a : Deed) (j : Nat) (hs : j = 4 → spanOk a.lo a.hi = true) : ∀ w ∈ say a j, c ∉ w := by
  have hi : ∀ v, c ∉ itoa v := fun v => itoa_no (by rcases hc with h | h; exact .inr (.inl h); exact .inr (.inr h)) v
  intro w hw
  match j with
  | 0 | 1 | 2 | 3 => rw [List.mem_singleton.1 hw]; exact hi _
  | 4 =>
    rw [List.mem_singleton.1 hw]
    have h' := of_decide_eq_true (hs rfl)
    have e1 : (UInt8.ofNat (48 + a.lo.toNat)).toNat = 48 + a.lo.toNat := by simp [UInt8.toNat_ofNat']; omega
    have e2 : (UInt8.ofNat (48 + a.hi.toNat)).toNat = 48 + a.hi.toNat := by simp [UInt8.toNat_ofNat']; omega
    unfold spanT
    simp only [List.mem_cons, List.not_mem_nil, or_false, not_or]
    refine ⟨fun h => ?_, fun h => ?_, fun h => ?_⟩
    · have := congrArg UInt8.toNat h
      rw [e1] at this
      rcases hc with rfl | rfl
      · have e : (32 : UInt8).toNat = 32 := rfl
        omega
      · have e : (10 : UInt8).toNat = 10 := rfl
        omega
    · rcases hc with rfl | rfl <;> cases h
    · have := congrArg UInt8.toNat h
      rw [e2] at this
      rcases hc with rfl | rfl
      · have e : (32 : UInt8).toNat = 32 := rfl
        omega
      · have e : (10 : UInt8).toNat = 10 := rfl
        omega
  | 5 =>
    obtain ⟨f, _, rfl⟩ := List.mem_map.1 hw
    exact fieldW_no hc f
  | 6 =>
    obtain ⟨f, _, rfl⟩ := List.mem_map.1 hw
    exact hi _
  | j + 7 => cases hw
theorem words_no {c : UInt8} (hc : c = 32 ∨ c = 10) {k : Nat} (hk : 1 ≤ k ∧ k ≤ 11) (a : Deed) (hs : k = 1 → spanOk a.lo a.hi = true) : ∀ w ∈ words k a, c ∉ w := by
  intro w hw
  rcases List.mem_cons.1 hw with rfl | hw
  · have : k = 1 ∨ k = 2 ∨ k = 3 ∨ k = 4 ∨ k = 5 ∨ k = 6 ∨ k = 7 ∨ k = 8 ∨ k = 9 ∨ k = 10 ∨ k = 11 := by omega
    rcases hc with rfl | rfl <;> rcases this with rfl | rfl | rfl | rfl | rfl | rfl | rfl | rfl | rfl | rfl | rfl <;> decide
  · obtain ⟨j, hj, hw⟩ := List.mem_flatMap.1 hw
    refine say_no hc a j (fun e => ?_) w hw
    subst e
    refine hs ?_
    have : k = 1 ∨ k = 2 ∨ k = 3 ∨ k = 4 ∨ k = 5 ∨ k = 6 ∨ k = 7 ∨ k = 8 ∨ k = 9 ∨ k = 10 ∨ k = 11 := by omega
    rcases this with rfl | rfl | rfl | rfl | rfl | rfl | rfl | rfl | rfl | rfl | rfl
    · rfl
    all_goals (revert hj; decide)

/-- the line of an act -/
def lineW (k : Nat) (a : Deed) : List UInt8 := join (words k a) [32]
def parseL (t : List UInt8) : Option Deed := parseW (spl 32 t)
theorem parse_line {k : Nat} (hk : 1 ≤ k ∧ k ≤ 11) {a : Deed} (ha : Ok a) (hkind : a.kind = k) (hs : k = 1 → spanOk a.lo a.hi = true) : parseL (lineW k a) = some (bare k a) := by
  unfold parseL lineW
  have e := spl_join 32 (names.getD k []) (words k a).tail (words_no (.inl rfl) hk a hs)
  rw [show words k a = names.getD k [] :: (words k a).tail from rfl, e]
  exact parse_words hk ha hkind hs
theorem line_parse {t : List UInt8} {a : Deed} (h : parseL t = some a) : ∃ k, (1 ≤ k ∧ k ≤ 11) ∧ t = lineW k a ∧ Ok a ∧ a.kind = (k : Nat) ∧ bare k a = a ∧ (k = 1 → spanOk a.lo a.hi = true) := by
  obtain ⟨k, h1, h2, h3⟩ := words_parse h
  refine ⟨k, h1, ?_, h3⟩
  unfold lineW
  rw [← h2, join_spl]
end Go.Say
