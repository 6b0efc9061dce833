/- The head of a loop. -/
import Derived.Test.YtlmljpmohljefaaSound17
set_option linter.unusedVariables false
set_option linter.unusedSimpArgs false
namespace Go.Den
variable {P : Program}

theorem keepS_VRL {g : G} (keep : List Nat) : ∀ (k : Nat) (s : List AV) (vs : List Value), VRL g s vs → VRL g (keepS keep k s) vs
  | k, [], [], h => h
  | k, a :: s, v :: vs, ⟨h1, h2⟩ => by
    refine ⟨?_, keepS_VRL keep (k + 1) s vs h2⟩
    split
    · exact h1
    · trivial
  | k, [], _ :: _, h => h.elim
  | k, _ :: _, [], h => h.elim

theorem promote_sound {R : Type} {B : Base} {w : World} (vs : List Value) : ∀ (ps : List (Nat × Nat × Ty)) (s : List AV) (o : Objs) (g : G) (κ : List AV → Objs → Option R) (r : R),
    promote ps s o κ = some r → WInv B g o w → VRL g s vs → ∃ s' o' g', κ s' o' = some r ∧ WInv B g' o' w ∧ VRL g' s' vs ∧ GE g g'
  | [], s, o, g, κ, r, h, hw, hs => ⟨s, o, g, h, hw, hs, GE.refl g⟩
  | (t, e, ty) :: rest, s, o, g, κ, r, h, hw, hs => by
    unfold promote at h
    split at h
    · split at h
      · rename_i n off _
        split at h
        · rename_i cs hn
          split at h
          · rename_i hc
            split at h
            case isFalse => cases h
            rename_i hf
            unfold newK at h
            split at h
            case h_2 => cases h
            rename_i hfree
            have hw1 := new_row (w' := w) hw hfree e ty [] [] (.slice none 0 0) false hf rfl (World.ownsRow_nil w 0 e ty.sz) ⟨rfl, rfl, rfl, Nat.le_refl _, fun _ _ _ => rfl⟩ (.inl rfl)
            have hg1 := setE_ge hw hfree (Value.slice none 0 0, ty.sz)
            have hne : n ≠ 2000000 + t := by
              intro e
              rw [← e, hn] at hfree
              cases hfree
            have hn1 : upd o (2000000 + t) (.row e ty [] false) n = some (.box cs) := by simp [upd, hne, hn]
            obtain ⟨b, ws, ty', hE, hh, hv, h1, hm⟩ := hw1.objs n _ hn1
            obtain ⟨u, hu, hr⟩ := VRL_get hv _ _ hc
            have hv2 : VRL (setE g (2000000 + t) (Value.slice none 0 0, ty.sz)) (cs.set ((t - 1000) % 64) (.row (2000000 + t))) ws := know_VRL hv _ (v := u) hu (by rw [show u = _ from hr]; exact ⟨ty.sz, setE_at _ _ _, rfl⟩)
            have hw2 : WInv B (setE g (2000000 + t) (Value.slice none 0 0, ty.sz)) (upd (upd o (2000000 + t) (.row e ty [] false)) n (.box (cs.set ((t - 1000) % 64) (.row (2000000 + t))))) w :=
              hw1.put n _ (GE.refl _) (fun _ _ => rfl) ⟨b, ws, ty', hE, hh, hv2, h1, hm⟩ ⟨rfl, rfl, rfl, Nat.le_refl _⟩ (fun _ _ _ => rfl) rfl (fun _ a v _ _ ha => (hw1.mem a v ha).1) (fun _ _ hk => .inr ⟨_, hn1, rfl, hk⟩)
            obtain ⟨s', o', g', hk, hw', hs', hg⟩ := promote_sound vs rest _ _ _ κ r h hw2 (VRL_mono hg1 s vs hs)
            exact ⟨s', o', g', hk, hw', hs', hg1.trans hg⟩
          · exact promote_sound vs rest s o g κ r h hw hs
        · exact promote_sound vs rest s o g κ r h hw hs
      · exact promote_sound vs rest s o g κ r h hw hs
    split at h
    · rename_i ht
      split at h
      case isFalse => cases h
      rename_i hf
      unfold newK at h
      split at h
      case h_2 => cases h
      rename_i hfree
      have hw1 := new_row (w' := w) hw hfree e ty [] [] (.slice none 0 0) false hf rfl (World.ownsRow_nil w 0 e ty.sz) ⟨rfl, rfl, rfl, Nat.le_refl _, fun _ _ _ => rfl⟩ (.inl rfl)
      have hg1 := setE_ge hw hfree (Value.slice none 0 0, ty.sz)
      have hv : vs[t]? = some (.slice none 0 0) := by
        unfold getS at ht
        cases hst : s[t]? with
        | none => simp [List.getD, hst] at ht
        | some a =>
          simp [List.getD, hst] at ht
          subst ht
          obtain ⟨v, hv, hr⟩ := VRL_get hs t _ hst
          rw [show v = _ from hr] at hv
          exact hv
      obtain ⟨s', o', g', hk, hw', hs', hg⟩ := promote_sound vs rest _ _ _ κ r h hw1 (know_VRL (VRL_mono hg1 s vs hs) (.row (2000000 + t)) hv ⟨ty.sz, setE_at _ _ _, rfl⟩)
      exact ⟨s', o', g', hk, hw', hs', hg1.trans hg⟩
    · exact promote_sound vs rest s o g κ r h hw hs

/-- a live name takes a new one -/
theorem move_sound {B : Base} {g : G} {o : Objs} {w : World} (hw : WInv B g o w) {n m : Nat} {x : Obj} (hn : o n = some x) (hfree : o m = none) :
    WInv B ⟨g.M, fun j => if j = m then g.E n else g.E j⟩ (mvO n m o) w ∧ GE g ⟨g.M, fun j => if j = m then g.E n else g.E j⟩ ∧ ∀ k j u, mvF n m k = some j → g.E k = some u → (if j = m then g.E n else g.E j) = some u := by
  have hEm : g.E m = none := hw.dom m hfree
  have hne : n ≠ m := fun e => by rw [e, hfree] at hn; cases hn
  obtain ⟨u0, hu0⟩ : ∃ u, g.E n = some u := Option.isSome_iff_exists.1 (OR_some (hw.objs n x hn))
  have hgm : ∀ k u, g.E k = some u → k ≠ m := fun k u h e => by rw [e, hEm] at h; cases h
  let g2 : G := ⟨g.M, fun j => if j = n then none else if j = m then g.E n else g.E j⟩
  have hf : ∀ k j, mvF n m k = some j → (k = n ∧ j = m) ∨ (k ≠ n ∧ k ≠ m ∧ j = k) := by
    intro k j h
    unfold mvF at h
    split at h
    · rename_i e; cases h; exact .inl ⟨e, rfl⟩
    · split at h
      · cases h
      · cases h; exact .inr ⟨by assumption, by assumption, rfl⟩
  have hE : ∀ k j, mvF n m k = some j → g2.E j = g.E k := by
    intro k j h
    rcases hf k j h with ⟨rfl, rfl⟩ | ⟨h1, h2, rfl⟩
    · simp [g2, Ne.symm hne]
    · simp [g2, h1, h2]
  have hw2 : WInv B g2 (fun j => if j = n then none else if j = m then (o n).map (renO (mvF n m)) else (o j).map (renO (mvF n m))) w := by
    refine hw.ren (mvF n m) ?_ hE ?_ rfl
    · intro j x2 hj
      split at hj
      · cases hj
      · split at hj
        · rename_i h1 h2
          subst h2
          rw [hn] at hj
          simp only [Option.map_some, Option.some.injEq] at hj
          exact ⟨n, x, by simp [mvF], hn, hj.symm⟩
        · rename_i h1 h2
          cases ho : o j with
          | none => rw [ho] at hj; cases hj
          | some y =>
            rw [ho] at hj
            simp only [Option.map_some, Option.some.injEq] at hj
            exact ⟨j, y, by simp [mvF, h1, h2], ho, hj.symm⟩
    · intro j hj
      simp only [g2]
      split
      · rfl
      · split
        · rename_i h1 h2
          rw [if_neg h1, if_pos h2, hn] at hj
          cases hj
        · rename_i h1 h2
          rw [if_neg h1, if_neg h2] at hj
          cases ho : o j with
          | none => exact hw.dom j ho
          | some y => rw [ho] at hj; cases hj
  have hg2 : GE g2 ⟨g.M, fun j => if j = m then g.E n else g.E j⟩ := by
    refine ⟨fun _ _ h => h, fun k u h => ?_⟩
    simp only [g2] at h
    split at h
    · cases h
    · exact h
  refine ⟨hw2.put n .gone hg2 (fun k hk => by simp [g2, hk]) ?_ ⟨rfl, rfl, rfl, Nat.le_refl _⟩ (fun _ _ _ => rfl) rfl ?_ ?_, ⟨fun _ _ h => h, fun k u h => ?_⟩, fun k j u h1 h2 => ?_⟩
  · show (if n = m then g.E n else g.E n).isSome = true
    simp [hu0]
  · rintro b a v ⟨y, hy, _⟩ _ _
    simp at hy
  · intro b hl
    cases hl
  · simp only [if_neg (hgm k u h)]
    exact h
  · rcases hf k j h1 with ⟨rfl, rfl⟩ | ⟨_, h3, rfl⟩
    · simp [h2]
    · simp [h3, h2]

theorem datK_sound {R : Type} {B : Base} {w : World} (vs : List Value) : ∀ (ts : List Nat) (s : List AV) (o : Objs) (g : G) (κ : List AV → Objs → Option R) (r : R),
    datK ts s o κ = some r → WInv B g o w → VRL g s vs → ∃ s' o' g', κ s' o' = some r ∧ WInv B g' o' w ∧ VRL g' s' vs ∧ GE g g'
  | [], s, o, g, κ, r, h, hw, hs => ⟨s, o, g, h, hw, hs, GE.refl g⟩
  | t :: rest, s, o, g, κ, r, h, hw, hs => by
    unfold datK at h
    split at h
    · split at h
      · rename_i e ty l frz hn hfree
        generalize ht0 : t - 1000 = n0 at h hn
        generalize ht1 : 4000000 + t = m0 at h hfree
        obtain ⟨hw2, hg2, hE2⟩ := move_sound hw hn hfree
        obtain ⟨s', o', g', hk, hw', hs', hg'⟩ := datK_sound vs rest _ _ _ κ r h hw2 (VRL_ren (g := g) (g2 := ⟨g.M, fun j => if j = m0 then g.E n0 else g.E j⟩) (mvF n0 m0) rfl hE2 s vs hs)
        exact ⟨s', o', g', hk, hw', hs', hg2.trans hg'⟩
      · exact datK_sound vs rest s o g κ r h hw hs
    split at h
    · rename_i n ht
      split at h
      · rename_i e ty l frz hn
        have hv : ∃ v, vs[t]? = some v ∧ VR g (.row n) v := by
          unfold getS at ht
          cases hst : s[t]? with
          | none => simp [List.getD, hst] at ht
          | some a =>
            simp [List.getD, hst] at ht
            subst ht
            exact VRL_get hs t _ hst
        obtain ⟨v, hvt, z, hE, h1⟩ := hv
        obtain ⟨M', hw', hg, hf, hcr⟩ := freeze_sound hw hn hE
        obtain ⟨s', o', g', hk, hw2, hs2, hg2⟩ := datK_sound vs rest _ _ _ κ r h hw' (know_VRL (VRL_mono hg s vs hs) (.d (.sl ty) l) hvt ⟨hf, hcr⟩)
        exact ⟨s', o', g', hk, hw2, hs2, hg.trans hg2⟩
      · cases h
    · exact datK_sound vs rest s o g κ r h hw hs

theorem pick_some (f : Nat → Option Nat) (o : Objs) : ∀ (l : List Nat) (m : Nat) (x2 : Obj), ofL (pickO f o l) m = some x2 → ∃ n x, n ∈ l ∧ f n = some m ∧ o n = some x ∧ x2 = renO f x
  | [], m, x2, h => by simp [pickO, ofL] at h
  | n :: l, m, x2, h => by
    unfold pickO at h
    split at h
    · rename_i j x hf hn
      unfold ofL at h
      split at h
      · rename_i e
        subst e
        cases h
        exact ⟨n, x, List.mem_cons_self, hf, hn, rfl⟩
      · obtain ⟨n', x', h1, h2⟩ := pick_some f o l m x2 h
        exact ⟨n', x', List.mem_cons_of_mem _ h1, h2⟩
    · obtain ⟨n', x', h1, h2⟩ := pick_some f o l m x2 h
      exact ⟨n', x', List.mem_cons_of_mem _ h1, h2⟩

theorem pick_mem (f : Nat → Option Nat) (o : Objs) : ∀ (l : List Nat) (n j : Nat) (x : Obj), n ∈ l → f n = some j → o n = some x → ofL (pickO f o l) j ≠ none
  | [], n, j, x, h, _, _ => by cases h
  | m :: l, n, j, x, h, hf, hn => by
    unfold pickO
    split
    · rename_i j' x' hf' hn'
      unfold ofL
      split
      · simp
      · rename_i hne
        rcases List.mem_cons.1 h with e | e
        · subst e; rw [hf] at hf'; cases hf'; exact absurd rfl hne
        · exact pick_mem f o l n j x e hf hn
    · rename_i hno
      rcases List.mem_cons.1 h with e | e
      · subst e; exact absurd hn (hno j x hf)
      · exact pick_mem f o l n j x e hf hn

theorem tidyK_sound {R : Type} {B : Base} {g0 : G} {m : Nat} {d : List Deferred} (hg0 : ∀ n u, g0.E n = some u → n < m) (A : LA) (st : St) (a : Act) (w : World) (κ : St → Option R) (r : R)
    (h : tidyK A st κ = some r) (hi : Inv B g0 m d st a w) : ∃ st', κ st' = some r ∧ Inv B g0 m d st' a w := by
  obtain ⟨g, hw, hs, hg, hm, hd⟩ := hi
  unfold tidyK at h
  obtain ⟨s00, o00, g00, h00, hw00, hs00, hg00⟩ := promote_sound a.tmps.toList A.prom st.s st.o g _ r h hw hs
  obtain ⟨s0, o, g1, h1, hw1, hs1, hg01⟩ := datK_sound a.tmps.toList A.dat s00 o00 g00 _ r h00 hw00 hs00
  have hg1 := hg00.trans hg01
  simp only at h1
  generalize hs2 : keepS A.keep 0 s0 = s at h1
  generalize hns : (gather o 200 (namesOs o st.m ++ namesL s) []).filter (64 ≤ ·) = ns at h1
  split at h1
  case isFalse => cases h1
  rename_i hc
  obtain ⟨hm64, hpl⟩ := hc
  refine ⟨_, h1, ?_⟩
  have hsr : VRL g1 s a.tmps.toList := by rw [← hs2]; exact keepS_VRL A.keep 0 s0 _ hs1
  have hat := placeOk_at ns 0 hpl
  simp only [Nat.zero_add] at hat
  have hcan : ∀ n j, canon ns st.m n = some j → (n < st.m ∧ j = n) ∨ (st.m ≤ n ∧ ∃ i, j = 64 + i ∧ ns[i]? = some n) := by
    intro n j hj
    unfold canon at hj
    split at hj
    · rename_i hlt; cases hj; exact .inl ⟨hlt, rfl⟩
    · rename_i hlt
      rw [Option.map_eq_some_iff] at hj
      obtain ⟨i, hi, rfl⟩ := hj
      exact .inr ⟨by omega, i, rfl, place_get hi⟩
  let g2 : G := ⟨g1.M, fun j => if j < st.m then g1.E j else if 64 ≤ j then (ns[j - 64]?).bind g1.E else none⟩
  have hE : ∀ n j, canon ns st.m n = some j → g2.E j = g1.E n := by
    intro n j hj
    rcases hcan n j hj with ⟨hlt, rfl⟩ | ⟨hge, i, rfl, hi⟩
    · simp only [g2, hlt, if_true]
    · have h1 : ¬ 64 + i < st.m := by omega
      have h2 : 64 + i - 64 = i := by omega
      simp only [g2, h1, if_false, Nat.le_add_right, if_true, h2, hi, Option.bind_some]
  have hw2 : WInv B g2 (ofL (pickO (canon ns st.m) o (List.range st.m ++ ns))) w := by
    refine hw1.ren (canon ns st.m) ?_ hE ?_ rfl
    · intro j x2 hj
      obtain ⟨n, x, _, h2⟩ := pick_some _ _ _ _ _ hj
      exact ⟨n, x, h2⟩
    · intro j hj
      simp only [g2]
      split
      · rename_i hlt
        cases hE1 : g1.E j with
        | none => rfl
        | some u =>
          obtain ⟨x, hx⟩ := hw1.some_dom hE1
          exact absurd hj (pick_mem _ _ _ j j x (List.mem_append_left _ (List.mem_range.2 hlt)) (by unfold canon; rw [if_pos hlt]) hx)
      · rename_i hlt
        split
        · rename_i h64
          cases hn : ns[j - 64]? with
          | none => rfl
          | some n =>
            simp only [Option.bind_some]
            cases hE1 : g1.E n with
            | none => rfl
            | some u =>
              obtain ⟨x, hx⟩ := hw1.some_dom hE1
              have hmem := List.mem_of_getElem? hn
              have hn64 : 64 ≤ n := by
                rw [← hns, List.mem_filter] at hmem
                simpa using hmem.2
              refine absurd hj (pick_mem _ _ _ n j x (List.mem_append_right _ (List.mem_of_getElem? hn)) ?_ hx)
              unfold canon
              rw [if_neg (by omega), hat _ _ hn]
              simp only [Option.map_some]
              congr 1; omega
        · rfl
  refine ⟨g2, hw2, VRL_ren (g := g1) (g2 := g2) (canon ns st.m) rfl (fun n j u h1 h2 => (hE n j h1).trans h2) s _ hsr, ⟨fun a v ha => hg1.M a v (hg.M a v ha), fun n u hn => ?_⟩, hm, hd⟩
  have hlt : n < st.m := by rw [hm]; exact hg0 n u hn
  rw [hE n n (by unfold canon; rw [if_pos hlt])]
  exact hg1.E n u (hg.E n u hn)
end Go.Den
