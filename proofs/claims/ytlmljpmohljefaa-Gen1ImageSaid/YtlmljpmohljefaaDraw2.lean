/- Any order: the states on the way. -/
import Derived.Test.YtlmljpmohljefaaDraw1
set_option linter.unusedVariables false
set_option linter.unusedSimpArgs false
namespace Go.Den

structure Rec where
  on : Bool
  wr : Bool
  F : List Nat
  v : AV
  o' : Objs

def opAt (all : Array Oper) (k : Nat) : Oper := (all[k]?).getD default

theorem opAt_some {all : Array Oper} {k : Nat} {o : Oper} (h : all[k]? = some o) : opAt all k = o := by simp [opAt, h]
theorem opAt_lt {all : Array Oper} {k : Nat} (h : k < all.size) : all[k]? = some (opAt all k) := by simp [opAt, h]

def app (op : Oper) (x : Rec) (st : St) : St := ⟨putS st.s op.dst x.v, if (x.on && x.wr) = true then overF x.F (viewF x.F x.o') st.o else st.o, st.m⟩

def stL (all : Array Oper) (x : Nat → Rec) (st0 : St) (L : Nat → Bool) : Nat → St
  | 0 => st0
  | k + 1 => if L k = true then app (opAt all k) (x k) (stL all x st0 L k) else stL all x st0 L k

section
variable {all : Array Oper} {x : Nat → Rec} {st0 : St}

theorem putS_len (s : List AV) (d : Option Nat) (v : AV) : (putS s d v).length = s.length := by cases d <;> simp [putS]

theorem stL_len (L : Nat → Bool) : ∀ m, (stL all x st0 L m).s.length = st0.s.length
  | 0 => rfl
  | m + 1 => by
    unfold stL
    split
    · simp only [app, putS_len]; exact stL_len L m
    · exact stL_len L m

theorem stL_m (L : Nat → Bool) : ∀ m, (stL all x st0 L m).m = st0.m
  | 0 => rfl
  | m + 1 => by
    unfold stL
    split
    · exact stL_m L m
    · exact stL_m L m

theorem getS_put (s : List AV) (d : Option Nat) (v : AV) (t : Nat) : getS (putS s d v) t = if d = some t then (if t < s.length then v else .dead) else getS s t := by
  unfold getS
  cases d with
  | none => simp [putS]
  | some d =>
    simp only [putS, List.getD_eq_getElem?_getD, List.getElem?_set, Option.some.injEq]
    split
    · rename_i e; subst e
      split <;> simp
    · rfl

theorem slot_eq (L L' : Nat → Bool) (t : Nat) : ∀ m, (∀ i, i < m → (opAt all i).dst = some t → L i = L' i) → getS (stL all x st0 L m).s t = getS (stL all x st0 L' m).s t
  | 0, h => rfl
  | m + 1, h => by
    have ih := slot_eq L L' t m fun i hi => h i (by omega)
    have hl := stL_len (all := all) (x := x) (st0 := st0) L m
    have hl' := stL_len (all := all) (x := x) (st0 := st0) L' m
    by_cases hd : (opAt all m).dst = some t
    · have := h m (by omega) hd
      unfold stL
      rw [this]
      split
      · simp only [app, getS_put, hd, if_true, hl, hl']
      · exact ih
    · unfold stL
      split <;> split <;> first | exact ih | (simp only [app, getS_put, hd, if_false]; exact ih)

theorem obj_eq (L L' : Nat → Bool) (a : Nat) : ∀ m, (∀ i, i < m → ((x i).on && (x i).wr) = true → (x i).F.contains a = true → L i = L' i) → (stL all x st0 L m).o a = (stL all x st0 L' m).o a
  | 0, h => rfl
  | m + 1, h => by
    have ih := obj_eq L L' a m fun i hi => h i (by omega)
    by_cases hw : ((x m).on && (x m).wr) = true
    · by_cases hf : (x m).F.contains a = true
      · have := h m (by omega) hw hf
        unfold stL
        rw [this]
        split
        · simp only [app, hw, if_true, overF, hf]
        · exact ih
      · unfold stL
        split <;> split <;> first | exact ih | (simp only [app, hw, if_true, overF, hf, if_false]; exact ih)
    · unfold stL
      split <;> split <;> first | exact ih | (simp only [app, hw, if_false]; exact ih)

theorem pre_le (k : Nat) : ∀ m, m ≤ k → stL all x st0 (fun i => decide (i < k)) m = stL all x st0 (fun _ => true) m
  | 0, _ => rfl
  | m + 1, h => by
    unfold stL
    rw [pre_le k m (by omega)]
    simp [show m < k from by omega]

theorem pre_ge (k : Nat) : ∀ j, stL all x st0 (fun i => decide (i < k)) (k + j) = stL all x st0 (fun _ => true) k
  | 0 => pre_le k k (Nat.le_refl _)
  | j + 1 => by
    rw [show k + (j + 1) = (k + j) + 1 from by omega]
    unfold stL
    rw [pre_ge k j]
    simp [show ¬ k + j < k from by omega]
    cases k <;> rfl

theorem meets_no {F F' : List Nat} (h : meets F F' = false) (a : Nat) (h1 : F.contains a = true) (h2 : F'.contains a = true) : False := by
  unfold meets at h
  rw [List.any_eq_false] at h
  have h1' : a ∈ F := by simpa using h1
  exact h a h1' h2

theorem app_comm (op1 op2 : Oper) (x1 x2 : Rec) (st : St) (hd : ∀ d, op1.dst = some d → op2.dst ≠ some d) (hF : (x1.on && x1.wr) = true → (x2.on && x2.wr) = true → meets x1.F x2.F = false) : app op1 x1 (app op2 x2 st) = app op2 x2 (app op1 x1 st) := by
  have hs : putS (putS st.s op2.dst x2.v) op1.dst x1.v = putS (putS st.s op1.dst x1.v) op2.dst x2.v := by
    cases h1 : op1.dst with
    | none => rfl
    | some d1 =>
      cases h2 : op2.dst with
      | none => rfl
      | some d2 =>
        simp only [putS]
        refine List.set_comm _ _ ?_
        intro e
        exact hd d1 h1 (by rw [h2, e])
  have ho : (app op1 x1 (app op2 x2 st)).o = (app op2 x2 (app op1 x1 st)).o := by
    simp only [app]
    by_cases h1 : (x1.on && x1.wr) = true <;> by_cases h2 : (x2.on && x2.wr) = true
    · rw [if_pos h1, if_pos h2, if_pos h2, if_pos h1]
      funext a
      unfold overF
      by_cases c1 : x1.F.contains a = true <;> by_cases c2 : x2.F.contains a = true
      · exact (meets_no (hF h1 h2) a c1 c2).elim
      · rw [if_pos c1, if_neg c2, if_pos c1]
      · rw [if_neg c1, if_pos c2, if_pos c2]
      · rw [if_neg c1, if_neg c2, if_neg c2, if_neg c1]
    · rw [if_pos h1, if_neg h2, if_neg h2, if_pos h1]
    · rw [if_neg h1, if_pos h2, if_pos h2, if_neg h1]
    · rw [if_neg h1, if_neg h2, if_neg h2, if_neg h1]
  have hm : (app op1 x1 (app op2 x2 st)).m = (app op2 x2 (app op1 x1 st)).m := rfl
  have hs' : (app op1 x1 (app op2 x2 st)).s = (app op2 x2 (app op1 x1 st)).s := hs
  generalize app op1 x1 (app op2 x2 st) = A at *
  generalize app op2 x2 (app op1 x1 st) = C at *
  cases A; cases C
  simp only at hs' ho hm
  subst hs' ho hm
  rfl

theorem add_eq (L L' : Nat → Bool) (k : Nat) (hk : L k = false) (hk' : L' k = true) (hL : ∀ i, i ≠ k → L' i = L i)
    (hc : ∀ j, k < j → L j = true → (∀ d, (opAt all j).dst = some d → (opAt all k).dst ≠ some d) ∧ (((x j).on && (x j).wr) = true → ((x k).on && (x k).wr) = true → meets (x j).F (x k).F = false)) :
    ∀ m, stL all x st0 L' m = if k < m then app (opAt all k) (x k) (stL all x st0 L m) else stL all x st0 L m
  | 0 => by simp [stL]
  | m + 1 => by
    have ih := add_eq L L' k hk hk' hL hc m
    unfold stL
    rw [ih]
    by_cases hlt : k < m
    · have h1 : k < m + 1 := by omega
      rw [hL m (by omega)]
      simp only [hlt, h1, if_true]
      split
      · rename_i hLm
        exact app_comm _ _ _ _ _ (hc m hlt hLm).1 (hc m hlt hLm).2
      · rfl
    · simp only [hlt, if_false]
      by_cases e : m = k
      · subst e
        simp [hk, hk']
      · have h1 : ¬ k < m + 1 := by omega
        rw [hL m e]
        simp only [h1, if_false]
end

/- who comes ahead -/
theorem fold_bits (acc : List Nat) (i : Nat) : ∀ (ps : List Nat) (m0 : Nat), (ps.foldl (fun m p => m ||| (1 <<< p) ||| acc.getD p 0) m0).testBit i = (m0.testBit i || ps.any fun p => p == i || (acc.getD p 0).testBit i)
  | [], m0 => by simp
  | p :: ps, m0 => by
    rw [List.foldl_cons, fold_bits acc i ps]
    simp only [Nat.testBit_or, Nat.one_shiftLeft, Nat.testBit_two_pow, List.any_cons]
    have : decide (p = i) = (p == i) := by
      by_cases h : p = i <;> simp [h]
    rw [this]
    simp only [Bool.or_assoc]

theorem ancsGo_at : ∀ (ops : List Oper) (acc : List Nat), (ancsGo ops acc).length = acc.length + ops.length ∧ (∀ j, j < acc.length → (ancsGo ops acc).getD j 0 = acc.getD j 0) ∧
    ∀ (j : Nat) (o : Oper), ops[j]? = some o → (ancsGo ops acc).getD (acc.length + j) 0 = (preds o).foldl (fun m p => m ||| (1 <<< p) ||| ((ancsGo ops acc).take (acc.length + j)).getD p 0) 0
  | [], acc => ⟨rfl, fun _ _ => rfl, fun j o h => by simp at h⟩
  | o :: rest, acc => by
    let v := (preds o).foldl (fun m p => m ||| (1 <<< p) ||| acc.getD p 0) 0
    obtain ⟨h1, h2, h3⟩ := ancsGo_at rest (acc ++ [v])
    have he : ancsGo (o :: rest) acc = ancsGo rest (acc ++ [v]) := rfl
    rw [he]
    have htake : (ancsGo rest (acc ++ [v])).take acc.length = acc := by
      apply List.ext_getElem?
      intro k
      rw [List.getElem?_take]
      split
      · rename_i hk
        have := h2 k (by simp; omega)
        rw [List.getD_eq_getElem?_getD, List.getD_eq_getElem?_getD, List.getElem?_append_left hk] at this
        have hl : k < (ancsGo rest (acc ++ [v])).length := by rw [h1]; simp; omega
        rw [List.getElem?_eq_getElem hl, List.getElem?_eq_getElem hk] at this ⊢
        simpa using this
      · rename_i hk
        rw [List.getElem?_eq_none (by omega)]
    refine ⟨by rw [h1]; simp; omega, fun j hj => ?_, fun j o' ho => ?_⟩
    · rw [h2 j (by simp; omega)]
      rw [List.getD_eq_getElem?_getD, List.getD_eq_getElem?_getD, List.getElem?_append_left hj]
    · cases j with
      | zero =>
        simp at ho
        subst ho
        rw [Nat.add_zero, h2 acc.length (by simp), htake]
        simp [v]
      | succ j =>
        have := h3 j o' (by simpa using ho)
        rw [show (acc ++ [v]).length + j = acc.length + (j + 1) from by simp; omega] at this
        exact this

theorem anc_cases {ops : List Oper} {i k : Nat} (h : anc (ancs ops) i k = true) : ∃ o, ops[k]? = some o ∧ (i ∈ preds o ∨ ∃ p ∈ preds o, p < k ∧ anc (ancs ops) i p = true) := by
  obtain ⟨h1, h2, h3⟩ := ancsGo_at ops []
  unfold anc at h
  cases ho : ops[k]? with
  | none =>
    have hk : ops.length ≤ k := by simpa using ho
    have : (ancs ops).getD k 0 = 0 := by
      unfold ancs
      rw [List.getD_eq_getElem?_getD, List.getElem?_eq_none (by rw [h1]; simpa using hk)]; rfl
    rw [this] at h
    simp at h
  | some o =>
    refine ⟨o, rfl, ?_⟩
    have := h3 k o ho
    simp only [List.length_nil, Nat.zero_add] at this
    unfold ancs at h
    rw [this, fold_bits] at h
    simp only [Nat.zero_testBit, Bool.false_or, List.any_eq_true, Bool.or_eq_true, beq_iff_eq] at h
    obtain ⟨p, hp, hb⟩ := h
    rcases hb with rfl | hb
    · exact .inl hp
    · right
      refine ⟨p, hp, ?_⟩
      rw [List.getD_eq_getElem?_getD, List.getElem?_take] at hb
      split at hb
      · rename_i hlt
        exact ⟨hlt, by unfold anc ancs; rw [List.getD_eq_getElem?_getD]; exact hb⟩
      · simp at hb

theorem anc_closed {all : Array Oper} {L : Nat → Bool} (hL : ∀ k, L k = true → ∀ p ∈ preds (opAt all k), L p = true) {i : Nat} : ∀ (k : Nat), (∀ p ∈ preds (opAt all k), L p = true) → anc (ancs all.toList) i k = true → L i = true := by
  intro k
  induction k using Nat.strongRecOn with
  | _ k ih =>
    intro hk h
    obtain ⟨o, ho, hc⟩ := anc_cases h
    have ho' : opAt all k = o := opAt_some (by simpa using ho)
    rw [ho'] at hk
    rcases hc with hi | ⟨p, hp, hlt, hi⟩
    · exact hk i hi
    · exact ih p hlt (hL p (hk p hp)) hi

theorem anc_lt {all : Array Oper} (hp : ∀ k, k < all.size → ∀ p ∈ preds (opAt all k), p < k) {i : Nat} : ∀ (k : Nat), anc (ancs all.toList) i k = true → i < k := by
  intro k
  induction k using Nat.strongRecOn with
  | _ k ih =>
    intro h
    obtain ⟨o, ho, hc⟩ := anc_cases h
    have hk : k < all.size := by
      have := (List.getElem?_eq_some_iff.1 ho).1
      simpa using this
    have ho' : opAt all k = o := opAt_some (by simpa using ho)
    have hpk := hp k hk
    rw [ho'] at hpk
    rcases hc with hi | ⟨p, hp', hlt, hi⟩
    · exact hpk i hi
    · have := ih p hlt hi; omega

theorem slotsOk_spec {all : Array Oper} {as : List Nat} (h : slotsOk all as = true) : ∀ j, j < all.size → (∀ p ∈ preds (opAt all j), p < j) ∧ ∀ i, i < all.size → ∀ d, (opAt all i).dst = some d → (d ∈ (opAt all j).looksAt all → anc as i j = true ∨ anc as j i = true ∨ i = j) ∧ (i ≠ j → (opAt all j).dst ≠ some d) := by
  intro j hj
  unfold slotsOk at h
  rw [List.all_eq_true] at h
  have h1 := h j (List.mem_range.2 hj)
  rw [opAt_lt hj] at h1
  simp only [Bool.and_eq_true] at h1
  obtain ⟨h1, h2⟩ := h1
  refine ⟨fun p hp => by simpa using List.all_eq_true.1 h1 p hp, fun i hi d hd => ?_⟩
  have h3 := List.all_eq_true.1 h2 i (List.mem_range.2 hi)
  rw [opAt_lt hi] at h3
  simp only [hd, Bool.and_eq_true, Bool.or_eq_true] at h3
  refine ⟨fun hm => ?_, fun hne => ?_⟩
  · rcases h3.1 with k | k
    · simp [hm] at k
    · rcases k with k | k | k
      · exact .inl k
      · exact .inr (.inl k)
      · exact .inr (.inr (by simpa using k))
  · rcases h3.2 with k | k
    · exact absurd (by simpa using k) hne
    · simpa using k
end Go.Den
