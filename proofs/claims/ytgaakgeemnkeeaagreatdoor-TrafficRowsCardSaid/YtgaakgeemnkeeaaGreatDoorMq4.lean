/- Rows of one's own, sorted. -/
import Derived.Test.YtgaakgeemnkeeaaGreatDoorMq3
set_option linter.unusedVariables false
set_option linter.unusedSimpArgs false
namespace Go.Proofs.YtgaakgeemnkeeaaGreatDoor
open Go.RowKit Go.Shelf Go.Lib Go.Sort
theorem flat_at {α : Type} (enc : α → List Value) (k : Nat) (hk : ∀ x, (enc x).length = k) : ∀ (l : List α) (i c : Nat) (hi : i < l.length), c < k → (l.flatMap enc)[i * k + c]? = (enc l[i])[c]?
  | [], i, c, hi, _ => absurd hi (Nat.not_lt_zero _)
  | x :: l, 0, c, hi, hc => by
    rw [List.flatMap_cons, Nat.zero_mul, Nat.zero_add, List.getElem?_append_left (by rw [hk]; exact hc)]
    rfl
  | x :: l, i + 1, c, hi, hc => by
    rw [List.flatMap_cons, List.getElem?_append_right (by rw [hk, Nat.add_mul]; omega), hk, show (i + 1) * k + c - k = i * k + c by rw [Nat.add_mul]; omega, flat_at enc k hk l i c (by simpa using hi) hc]
    rfl
theorem flat_length {α : Type} (enc : α → List Value) (k : Nat) (hk : ∀ x, (enc x).length = k) : ∀ l : List α, (l.flatMap enc).length = l.length * k
  | [] => by simp
  | x :: l => by rw [List.flatMap_cons, List.length_append, hk, flat_length enc k hk l, List.length_cons, Nat.add_mul]; omega
theorem flatK_list (d : Array R4) : (flatK rowCells 4 d).toList = d.toList.flatMap rowCells := by
  have hl := flat_length rowCells 4 rowCells_len d.toList
  apply List.ext_getElem?
  intro t
  rcases Nat.lt_or_ge t (d.size * 4) with ht | ht
  · have h1 : t / 4 < d.size := by omega
    have h2 : t % 4 < 4 := by omega
    have e := flat_at rowCells 4 rowCells_len d.toList (t / 4) (t % 4) (by simpa using h1) h2
    rw [show t / 4 * 4 + t % 4 = t by omega] at e
    rw [e]
    have hs : t < (flatK rowCells 4 d).size := by rw [size_flatK]; exact ht
    rw [Array.getElem?_toList, Array.getElem?_eq_getElem hs]
    have e2 := get_flatK rowCells 4 d t ht
    rw [getElem!_pos (flatK rowCells 4 d) t hs, getElem!_pos d (t / 4) h1] at e2
    have h3 : t % 4 < (rowCells d[t / 4]).length := h2
    rw [getElem!_pos (rowCells d[t / 4]) (t % 4) h3] at e2
    have e3 : d.toList[t / 4]'(by simpa using h1) = d[t / 4] := Array.getElem_toList _
    rw [e2, e3, List.getElem?_eq_getElem h3]
  · rw [List.getElem?_eq_none (by rw [Array.length_toList, size_flatK]; exact ht), List.getElem?_eq_none (by rw [hl, Array.length_toList]; exact ht)]
theorem holds_of {w : World} {g : Nat} {cur : Array Value} {d : Array R4} (hg : w.heap[g]? = some (.cells cur 37 (0, 0))) (hc : cur.toList.take (d.size * 4) = d.toList.flatMap rowCells) (hs : d.size * 4 ≤ cur.size) : HoldsK rowCells 4 w g 0 d := by
  intro j hj
  rw [size_flatK] at hj
  have h1 : (flatK rowCells 4 d)[j]! = cur[j]'(by omega) := by
    have hs2 : j < (flatK rowCells 4 d).size := by rw [size_flatK]; exact hj
    rw [getElem!_pos (flatK rowCells 4 d) j hs2]
    have e : (flatK rowCells 4 d).toList[j]? = (cur.toList.take (d.size * 4))[j]? := by rw [flatK_list, hc]
    rw [List.getElem?_take_of_lt hj, Array.getElem?_toList, Array.getElem?_toList, Array.getElem?_eq_getElem hs2, Array.getElem?_eq_getElem (by omega : j < cur.size)] at e
    exact Option.some.inj e
  rw [h1, Nat.zero_add]
  constructor
  · simp only [World.cell?, hg, id_eq]
    rw [Array.getElem?_eq_getElem (by omega : j < cur.size)]
    rfl
  · simp [World.frozen?, hg]
theorem sort_heap {w : World} {g : Nat} {cur : Array Value} (hg : w.heap[g]? = some (.cells cur 37 (0, 0))) (m : Nat) (d : Array R4) (os : Array Obj) : (sortWorldK rowCells 4 w g 0 m d os).heap[g]? = some (.cells (putCells id 0 (flatK rowCells 4 d) cur) 37 (0, 0)) := by
  have hlt : g < w.heap.size := (Array.getElem?_eq_some_iff.1 hg).1
  unfold sortWorldK grow putRowK putRow mapBlock Go.Sort.ahead
  simp only
  rw [Array.getElem?_append_left (by simpa using hlt), Array.getElem?_modify, if_pos rfl, hg]
  rfl
theorem put_take (d : Array R4) (cur : Array Value) (hs : d.size * 4 ≤ cur.size) : (putCells id 0 (flatK rowCells 4 d) cur).toList.take (d.size * 4) = d.toList.flatMap rowCells := by
  rw [← flatK_list]
  apply List.ext_getElem?
  intro t
  rcases Nat.lt_or_ge t (d.size * 4) with ht | ht
  · have hs2 : t < (flatK rowCells 4 d).size := by rw [size_flatK]; exact ht
    rw [List.getElem?_take_of_lt ht, Array.getElem?_toList, Array.getElem?_toList, Array.getElem?_eq_getElem hs2]
    unfold putCells
    rw [Array.getElem?_mapIdx, Array.getElem?_eq_getElem (by omega : t < cur.size), Option.map_some, if_pos ⟨Nat.zero_le _, by rw [Nat.zero_add, size_flatK]; exact ht⟩, Nat.sub_zero, getElem!_pos (flatK rowCells 4 d) t hs2]
    rfl
  · rw [List.getElem?_eq_none (by rw [List.length_take]; omega), List.getElem?_eq_none (by rw [Array.length_toList, size_flatK]; exact ht)]
theorem sort_below {w : World} {g : Nat} {cur : Array Value} (base : Nat) (hb : base ≤ g) (hg : w.heap[g]? = some (.cells cur 37 (0, 0))) (m : Nat) (d : Array R4) (os : Array Obj) : Below base w (sortWorldK rowCells 4 w g 0 m d os) := by
  have hlt : g < w.heap.size := (Array.getElem?_eq_some_iff.1 hg).1
  refine ⟨rfl, rfl, rfl, ?_, fun j hj => ?_⟩
  · unfold sortWorldK grow putRowK putRow mapBlock Go.Sort.ahead
    simp
  · unfold sortWorldK grow putRowK putRow mapBlock Go.Sort.ahead
    simp only
    rw [Array.getElem?_append_left (by simp; omega), Array.getElem?_modify, if_neg (by omega)]
/-- a row of one's own, sorted: the same rows, in order -/
theorem sorted_own {w : World} {base : Nat} {v : Value} {S : List R4} (hown : w.ownsRow base 37 4 v S.length (S.flatMap rowCells)) (hl : S.length ≤ 1000000) :
    Calls Tryz.prog 11 #[v, .func (.func 12) #[] #[]] w fun e w' => e = .returned (.tuple #[]) ∧ ∃ L : List R4, L.Perm S ∧ L.Pairwise (fun x y => ltOf cmpR y x = false) ∧ w'.ownsRow base 37 4 v L.length (L.flatMap rowCells) ∧ Below base w w' := by
  obtain ⟨h1, h2⟩ := hown
  rcases h2 with ⟨rfl, h0⟩ | ⟨g, cap, cur, rfl, hb, hg, hn, hm, hs, ht⟩
  · refine (sorted_nil none 0 _ w).mono ?_
    rintro e w' ⟨rfl, rfl⟩
    have : S = [] := List.eq_nil_of_length_eq_zero h0
    subst this
    exact ⟨rfl, [], List.Perm.refl _, List.Pairwise.nil, World.ownsRow_nil _ _ _ _, Below.refl _ _⟩
  · have hd : S.toArray.size = S.length := by simp
    have hH : HoldsK rowCells 4 w g 0 S.toArray := holds_of hg (by rw [hd]; exact ht) (by rw [hd, hs]; exact Nat.mul_le_mul_right 4 hn)
    have hc := sorted_call g 0 cap S.toArray w hH (Array.getElem?_eq_some_iff.1 hg).1 (by rw [hd]; omega)
    rw [hd] at hc
    refine hc.mono ?_
    rintro e w' ⟨rfl, d', n, os, ⟨p1, _, p3⟩, hsrt, rfl⟩
    have hsz : d'.size = S.length := p1.trans hd
    have hdl : d'.toList.length = S.length := (Array.length_toList (xs := d')).trans hsz
    refine ⟨rfl, d'.toList, ?_, ?_, ⟨by rw [flat_length rowCells 4 rowCells_len], .inr ⟨g, cap, _, by rw [hdl], hb, sort_heap hg n d' os, by rw [hdl]; exact hn, hm, by rw [← hs]; simp [putCells], ?_⟩⟩, sort_below base hb hg n d' os⟩
    · rw [show d'.extract 0 S.length = d' by rw [← hsz]; exact Array.extract_size, show S.toArray.extract 0 S.length = S.toArray by simp] at p3
      simpa using p3
    · rw [List.pairwise_iff_getElem]
      intro i j hi hj hij
      have hj' : j < d'.size := by simpa using hj
      have hi' : i < d'.size := by simpa using hi
      have := hsrt i j (Nat.zero_le _) hij (by omega)
      rw [getElem!_pos d' j hj', getElem!_pos d' i hi'] at this
      simpa using this
    · rw [Array.length_toList (xs := d')]
      exact put_take d' cur (by rw [hsz, hs]; exact Nat.mul_le_mul_right 4 hn)
end Go.Proofs.YtgaakgeemnkeeaaGreatDoor
