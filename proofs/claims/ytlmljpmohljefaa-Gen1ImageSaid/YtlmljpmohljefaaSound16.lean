/- A call, by what is known of the function (the call itself). -/
import Derived.Test.YtlmljpmohljefaaSound15
set_option linter.unusedVariables false
set_option linter.unusedSimpArgs false
namespace Go.Den
variable {P : Program}

theorem place_lt {ns : List Nat} {n j : Nat} (h : place ns n = some j) : j < ns.length := (List.getElem?_eq_some_iff.1 (place_get h)).1

theorem nm_inj {dst i j : Nat} (h : nm dst i = nm dst j) : i = j := by unfold nm at h; omega

theorem callK_sound {R : Type} {B : Base} {g : G} {o : Objs} {w : World} (hw : WInv B g o w) {f : FuncId} {S : Sum} (hS : SumOk P f S) (dst : Nat) (avs : List AV) (vs : List Value) (κ : AV → Objs → Option R) (r : R)
    (h : callK S dst avs o κ = some r) (hv : VRL g avs vs) :
    Calls P f vs.toArray w fun e w' => ∃ v, e = .returned v ∧ ∃ av o' g', κ av o' = some r ∧ WInv B g' o' w' ∧ GE g g' ∧ VR g' av v := by
  unfold callK at h
  obtain ⟨args, o1, g1, h1, hv1, hw1, hg1⟩ := prepK_sound _ _ _ _ g o _ r h hv hw
  simp only at h1
  split at h1
  case isFalse => cases h1
  rename_i hpl
  generalize hns : gather o1 200 (namesL args) [] = ns at h1 hpl
  have hat := placeOk_at ns 0 hpl
  simp only [Nat.zero_add] at hat
  obtain ⟨objs, h2, hlen, hobj⟩ := objsAt_some ns _ r h1
  let g2 : G := ⟨g1.M, fun j => (ns[j]?).bind g1.E⟩
  let F : Nat → Bool := fun n => ns.contains n
  have hE2 : ∀ n m, place ns n = some m → g2.E m = g1.E n := fun n m hm => by simp only [g2]; rw [place_get hm]; rfl
  have hw2 : WInv (within w g1 o1 F) g2 (atL objs) w := by
    refine hw1.part F (place ns) ?_ ?_ hE2 ?_ rfl
    · intro m x2 hm
      have hlt : m < ns.length := by rw [← hlen]; exact (List.getElem?_eq_some_iff.1 hm).1
      obtain ⟨x, hx, hxe⟩ := hobj m ns[m] (List.getElem?_eq_getElem hlt)
      refine ⟨ns[m], x, hat m _ (List.getElem?_eq_getElem hlt), hx, ?_⟩
      rw [show atL objs m = objs[m]? from rfl] at hm
      rw [hm] at hxe; cases hxe; rfl
    · intro n m x hm _
      have := place_get hm
      simpa [F] using List.mem_of_getElem? this
    · intro m hm
      have : ns[m]? = none := by
        rw [List.getElem?_eq_none_iff, ← hlen]
        exact List.getElem?_eq_none_iff.1 hm
      simp only [g2, this]; rfl
  have hE2' : ∀ n m u, place ns n = some m → g1.E n = some u → g2.E m = some u := fun n m u h1 h2 => (hE2 n m h1).trans h2
  have hv2 : VRL g2 (renL (place ns) args) vs := VRL_ren (g := g1) (g2 := g2) (place ns) rfl hE2' args vs hv1
  refine Calls.mono (hS.2 _ objs _ r h2 _ g2 w vs hw2 hv2) ?_
  rintro e w' ⟨v, rfl, rs, os, g', hk, hw', hg', hvr⟩
  refine ⟨v, rfl, ?_⟩
  split at hk
  case isFalse => cases hk
  rename_i hc
  obtain ⟨hle, hfree⟩ := hc
  let fb := backO ns dst os.length
  have hfree' := freeK_at _ hfree
  have hfb1 : ∀ j, j < ns.length → fb j = ns[j]? := fun j hj => by simp [fb, backO, hj]
  have hfb2 : ∀ j, ns.length ≤ j → j < os.length → fb j = some (nm dst (j - ns.length)) := fun j h1 h2 => by simp [fb, backO, h2, Nat.not_lt.2 h1]
  have hfb3 : ∀ j, os.length ≤ j → fb j = none := fun j hj => by simp [fb, backO, Nat.not_lt.2 hj, Nat.not_lt.2 (Nat.le_trans hle hj)]
  have hin : ∀ j n, j < ns.length → ns[j]? = some n → ∃ x, o1 n = some x := fun j n hj hn => let ⟨x, hx, _⟩ := hobj j n hn; ⟨x, hx⟩
  have hout : ∀ j, ns.length ≤ j → j < os.length → o1 (nm dst (j - ns.length)) = none := fun j h1 h2 => hfree' _ (by omega)
  have inj : ∀ i j n, i < os.length → j < os.length → fb i = some n → fb j = some n → i = j := by
    intro i j n hi hj h1 h2
    by_cases hi' : i < ns.length <;> by_cases hj' : j < ns.length
    · rw [hfb1 i hi'] at h1; rw [hfb1 j hj'] at h2
      have := hat i n h1
      have := hat j n h2
      simp_all
    · rw [hfb1 i hi'] at h1; rw [hfb2 j (by omega) hj] at h2
      obtain ⟨x, hx⟩ := hin i n hi' h1
      have := hout j (by omega) hj
      cases h2; rw [hx] at this; cases this
    · rw [hfb2 i (by omega) hi] at h1; rw [hfb1 j hj'] at h2
      obtain ⟨x, hx⟩ := hin j n hj' h2
      have := hout i (by omega) hi
      cases h1; rw [hx] at this; cases this
    · rw [hfb2 i (by omega) hi] at h1; rw [hfb2 j (by omega) hj] at h2
      cases h1
      have := nm_inj (Option.some.inj h2)
      omega
  let o3 : Objs := setAll fb 0 os (fun _ => none)
  let F' : Nat → Bool := fun n => (List.range os.length).any fun j => fb j == some n
  have hF' : ∀ n, F' n = true ↔ ∃ j, j < os.length ∧ fb j = some n := fun n => by simp [F']
  have hset : ∀ (ob : Objs) n, F' n = false → setAll fb 0 os ob n = ob n := fun ob n hn => setAll_no fb n os 0 ob fun j hj hh => by
    rw [Nat.zero_add] at hh
    have := (hF' n).2 ⟨j, hj, hh⟩
    rw [hn] at this; cases this
  have hsetat : ∀ (ob : Objs) n j, (hj : j < os.length) → fb j = some n → setAll fb 0 os ob n = some (renO fb os[j]) := fun ob n j hj hn =>
    setAll_at fb n os 0 ob j os[j] (List.getElem?_eq_getElem hj) (by rw [Nat.zero_add]; exact hn) fun i hi hne hh => hne (inj i j n hi hj (by rw [Nat.zero_add] at hh; exact hh) hn)
  let g3 : G := ⟨g'.M, fun n => ((List.range os.length).find? fun j => fb j == some n).bind g'.E⟩
  have hE3 : ∀ n m, fb n = some m → g3.E m = g'.E n := by
    intro n m hm
    have hn : n < os.length := by
      rcases Nat.lt_or_ge n os.length with k | k
      · exact k
      · rw [hfb3 n k] at hm; cases hm
    simp only [g3]
    cases hfd : (List.range os.length).find? (fun j => fb j == some m) with
    | none =>
      have := List.find?_eq_none.1 hfd n (List.mem_range.2 hn)
      simp [hm] at this
    | some j =>
      have h1 := List.find?_some hfd
      have h2 := List.mem_range.1 (List.mem_of_find?_eq_some hfd)
      have : j = n := inj j n m h2 hn (by simpa using h1) hm
      subst this; rfl
  have hE3n : ∀ m, F' m = false → g3.E m = none := by
    intro m hm
    simp only [g3]
    cases hfd : (List.range os.length).find? (fun j => fb j == some m) with
    | none => rfl
    | some j =>
      have h1 := List.find?_some hfd
      have h2 := List.mem_range.1 (List.mem_of_find?_eq_some hfd)
      have := (hF' m).2 ⟨j, h2, by simpa using h1⟩
      rw [hm] at this; cases this
  have hw3 : WInv (within w g1 o1 F) g3 o3 w' := by
    refine hw'.ren fb ?_ hE3 ?_ rfl
    · intro m x2 hm
      by_cases hf : F' m = true
      · obtain ⟨j, hj, hjm⟩ := (hF' m).1 hf
        simp only [o3] at hm
        rw [hsetat _ m j hj hjm] at hm
        cases hm
        exact ⟨j, os[j], hjm, List.getElem?_eq_getElem hj, rfl⟩
      · simp only [o3] at hm
        rw [hset _ m (by simpa using hf)] at hm
        cases hm
    · intro m hm
      by_cases hf : F' m = true
      · obtain ⟨j, hj, hjm⟩ := (hF' m).1 hf
        simp only [o3] at hm
        rw [hsetat _ m j hj hjm] at hm
        cases hm
      · exact hE3n m (by simpa using hf)
  have hm0 : ∀ n, F n = true → F' n = true := by
    intro n hn
    have : n ∈ ns := by simpa [F] using hn
    obtain ⟨j, hj, rfl⟩ := List.getElem_of_mem this
    exact (hF' _).2 ⟨j, by omega, by rw [hfb1 j hj]; exact List.getElem?_eq_getElem hj⟩
  have hm1 : ∀ n u, F' n = true → g1.E n = some u → g3.E n = some u := by
    intro n u hf hn
    obtain ⟨j, hj, hjm⟩ := (hF' n).1 hf
    rw [hE3 j n hjm]
    by_cases hj' : j < ns.length
    · rw [hfb1 j hj'] at hjm
      refine hg'.E j u ?_
      simp only [g2, hjm]
      exact hn
    · rw [hfb2 j (by omega) hj] at hjm
      have := hw1.dom _ (hout j (by omega) hj)
      cases hjm
      rw [this] at hn; cases hn
  have hm2 : ∀ n, F' n = false → o3 n = none := by
    intro n hf
    simp only [o3]
    exact hset _ n hf
  obtain ⟨hwm, hgm, hgm'⟩ := hw1.merge F F' hw3 hm0 hm1 hm2
  have heq : over F' o3 o1 = setAll fb 0 os o1 := by
    funext n
    unfold over
    split
    · rename_i hf
      obtain ⟨j, hj, hjm⟩ := (hF' n).1 hf
      simp only [o3]
      rw [hsetat _ n j hj hjm, hsetat _ n j hj hjm]
    · rename_i hf
      rw [hset _ n (by simpa using hf)]
  rw [heq] at hwm
  exact ⟨_, _, _, hk, hwm, hg1.trans hgm, VR_mono hgm' _ _ (VR_ren (g := g') (g2 := g3) fb rfl (fun n m u h1 h2 => (hE3 n m h1).trans h2) _ _ hvr)⟩
end Go.Den
