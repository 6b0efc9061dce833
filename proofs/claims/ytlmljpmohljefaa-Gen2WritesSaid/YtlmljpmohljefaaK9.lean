import Derived.Test.YtlmljpmohljefaaS8
import Derived.Test.YtlmljpmohljefaaK7
set_option linter.unusedVariables false
set_option linter.unusedSimpArgs false
namespace Go.Proofs.Ytlmljpmohljefaa
open Go.Den
theorem numB_be : ∀ (n : Nat) (v : Int), 0 ≤ v → v < 256 ^ n → numB (be n v) = v
  | 0, v, h0, h1 => by simp at h1; simp [be, numB]; omega
  | n + 1, v, h0, h1 => by
    have hp : v / 256 < 256 ^ n := by
      rw [Int.pow_succ] at h1
      generalize (256 : Int) ^ n = M at h1 ⊢
      omega
    have ih := numB_be n (v / 256) (by omega) hp
    show numB (be n (v / 256) ++ [v % 256]) = v
    unfold numB at ih ⊢
    rw [List.foldl_append, ih]
    simp
    omega
theorem be_mem : ∀ (n : Nat) (v c : Int), c ∈ be n v → 0 ≤ c ∧ c ≤ 255
  | 0, v, c, h => by simp [be] at h
  | n + 1, v, c, h => by
    have h' : c ∈ be n (v / 256) ++ [v % 256] := h
    rcases List.mem_append.1 h' with h | h
    · exact be_mem n _ c h
    · simp at h; omega
theorem read_be (l : List Int) (n a : Int) (v : Int) (rest : List Int) (hl : atOk l a = true) (h1 : 1 ≤ n) (h7 : n ≤ 7) (h0 : 0 ≤ v) (hv : v < 256 ^ n.toNat) (h : l.drop a.toNat = be n.toNat v ++ rest) :
    readF l n a false = (v, a + n, false) ∧ l.drop (a + n).toNat = rest ∧ atOk l (a + n) = true := by
  obtain ⟨k1, k2, k3⟩ := (atOk_iff l a).1 hl
  have hlen : l.length - a.toNat = n.toNat + rest.length := by
    have := congrArg List.length h
    simpa [be_length] using this
  have hn : (if (decide (n < 1) || decide (n > 7)) = true then (-1 : Int) else n) = n := if_neg (by simp; omega)
  have hseg : seg l a n = be n.toNat v := by
    unfold seg
    rw [List.drop_take, show (a + n).toNat = a.toNat + n.toNat from by omega, Nat.add_sub_cancel_left, h]
    exact List.take_left' (be_length _ _)
  refine ⟨?_, ?_, (atOk_iff l _).2 ⟨k1, by omega, by omega⟩⟩
  · unfold readF
    dsimp only
    rw [hn]
    have hst : stepF l n a false = (seg l a n, true, a + n, false) := by
      unfold stepF
      rw [if_neg (by simp), if_neg (by simp; omega)]
    rw [hst]
    dsimp only
    rw [if_pos rfl, hseg, numB_be _ v h0 hv]
  · rw [show (a + n).toNat = a.toNat + n.toNat from by omega, ← List.drop_drop, h]
    exact List.drop_left' (be_length _ _)
theorem one_be (l : List Int) (a : Int) (r : Int × Int × Int × (Int × Int) × Bool × List (Int × List Int)) (rest : List Int) (hl : atOk l a = true) (hr : recOkT r = true) (hi : r.2.1 ≤ 65535) (hb : r.2.2.2.2.2 = []) (h : l.drop a.toNat = recB r ++ rest) :
    oneF l a false = (r, a + 5, false) ∧ l.drop (a + 5).toNat = rest ∧ atOk l (a + 5) = true := by
  obtain ⟨id, inc, st, ⟨lo, hi'⟩, cut, bag⟩ := r
  obtain ⟨f1, f2, f3, f4, f5, f6, f7, _, _⟩ := recOk_facts hr
  obtain ⟨_, s1, s2⟩ := state_eq hr
  have f8 := (okS_iff _ _).1 f7
  dsimp only at f1 f2 f3 f5 f6 f7 f8 hi hb
  subst hb
  unfold recB at h
  dsimp only at h
  rw [List.append_assoc] at h
  obtain ⟨a1, a2, a3⟩ := read_be l 2 a id _ hl (by omega) (by omega) f1 (by simp; omega) h
  rw [List.append_assoc] at a2
  obtain ⟨b1, b2, b3⟩ := read_be l 2 (a + 2) inc _ a3 (by omega) (by omega) f3 (by simp; omega) a2
  obtain ⟨c1, c2, c3⟩ := read_be l 1 (a + 2 + 2) _ rest b3 (by omega) (by omega) s1 (by simpa using s2) b2
  have e5 : a + 2 + 2 + 1 = a + 5 := by omega
  rw [e5] at c1 c2 c3
  refine ⟨?_, c2, c3⟩
  unfold oneF
  dsimp only
  rw [a1]
  dsimp only
  rw [b1]
  dsimp only
  rw [c1]
  dsimp only
  have hs : stateL (id, inc, st, (lo, hi'), cut, ([] : List (Int × List Int))) = (if cut then st + 4 * lo + 16 * hi' + 64 else st + 4 * lo + 16 * hi') := rfl
  rw [hs]
  cases cut
  · simp only [Bool.false_eq_true, if_false]
    rw [if_neg (by simp; omega)]
    have e1 : (st + 4 * lo + 16 * hi') % 4 = st := by omega
    have e2 : (st + 4 * lo + 16 * hi') / 4 % 4 = lo := by omega
    have e3 : (st + 4 * lo + 16 * hi') / 16 % 4 = hi' := by omega
    have e4 : ((st + 4 * lo + 16 * hi') / 64 % 2 == 1) = false := by simp; omega
    rw [e1, e2, e3, e4]
  · simp only [if_true]
    rw [if_neg (by simp; omega)]
    have e1 : (st + 4 * lo + 16 * hi' + 64) % 4 = st := by omega
    have e2 : (st + 4 * lo + 16 * hi' + 64) / 4 % 4 = lo := by omega
    have e3 : (st + 4 * lo + 16 * hi' + 64) / 16 % 4 = hi' := by omega
    have e4 : ((st + 4 * lo + 16 * hi' + 64) / 64 % 2 == 1) = true := by simp; omega
    rw [e1, e2, e3, e4]
theorem dec_be (l : List Int) : ∀ (recs : List (Int × Int × Int × (Int × Int) × Bool × List (Int × List Int))) (a : Int) (rest : List Int), atOk l a = true → (∀ r ∈ recs, recOkT r = true ∧ r.2.1 ≤ 65535 ∧ r.2.2.2.2.2 = []) → l.drop a.toNat = recs.flatMap recB ++ rest →
    ∃ a', decGo l recs.length a false = (recs, a', false) ∧ l.drop a'.toNat = rest ∧ atOk l a' = true
  | [], a, rest, hl, _, h => ⟨a, rfl, by simpa using h, hl⟩
  | r :: recs, a, rest, hl, hr, h => by
    obtain ⟨r1, r2, r3⟩ := hr r (by simp)
    rw [List.flatMap_cons, List.append_assoc] at h
    obtain ⟨o1, o2, o3⟩ := one_be l a r _ hl r1 r2 r3 h
    obtain ⟨a', d1, d2, d3⟩ := dec_be l recs (a + 5) rest o3 (fun x hx => hr x (by simp [hx])) o2
    refine ⟨a', ?_, d2, d3⟩
    rw [List.length_cons, decGo, if_neg (by simp), o1]
    dsimp only
    rw [d1]
theorem of_code {lo hi : Int} (h : okS lo hi = true) : ofGo allF (lo * 16 + hi) = (lo, hi, true) := by
  have := (okS_iff lo hi).1 h
  have h1 : lo = 1 ∨ lo = 2 ∨ lo = 3 := by omega
  have h2 : hi = 1 ∨ hi = 2 ∨ hi = 3 := by omega
  rcases h1 with rfl | rfl | rfl <;> rcases h2 with rfl | rfl | rfl <;> first | omega | rfl
theorem body_bytes (kind from0 inc lo hi seq target : Int) (recs : List (Int × Int × Int × (Int × Int) × Bool × List (Int × List Int))) (hlen : recs.length ≤ 255) : inB (bodyF kind from0 inc lo hi seq target recs) = true := by
  have hm : ∀ (l : List (Int × Int × Int × (Int × Int) × Bool × List (Int × List Int))), (l.flatMap recB).length = 5 * l.length := by
    intro l
    induction l with
    | nil => rfl
    | cons x l ih => rw [List.flatMap_cons, List.length_append, ih, recB_length, List.length_cons]; omega
  refine (inB_iff _).2 ⟨?_, fun c hc => ?_⟩
  · unfold bodyF headB
    simp only [List.length_append, be_length, hm]
    omega
  · unfold bodyF headB at hc
    simp only [List.mem_append, List.mem_flatMap] at hc
    rcases hc with (hc | hc | hc | hc | hc | hc | hc) | ⟨r, _, hc⟩
    all_goals first | exact be_mem _ _ c hc | skip
    unfold recB at hc
    simp only [List.mem_append] at hc
    rcases hc with hc | hc | hc <;> exact be_mem _ _ c hc
theorem back (kind from0 inc lo hi seq target : Int) (recs : List (Int × Int × Int × (Int × Int) × Bool × List (Int × List Int))) (h : fits1 kind from0 inc lo hi seq target 0 0 0 recs = true) :
    decF (bodyF kind from0 inc lo hi seq target recs) = (kind, from0, inc, lo, hi, seq, target, recs, 0) := by
  have hf := h
  rw [fits_same] at hf
  obtain ⟨hv, hx⟩ := fits_facts hf
  obtain ⟨v1, v2, v3, v4, v5, v6, v7, v8, v9, v10, v11, _, v12, v13⟩ := valid_facts hv
  have v14 := (okS_iff _ _).1 v7
  have hb := body_bytes kind from0 inc lo hi seq target recs v12
  have h0 : atOk (bodyF kind from0 inc lo hi seq target recs) 0 = true := (atOk_iff _ 0).2 ⟨hb, by omega, by omega⟩
  generalize hl : bodyF kind from0 inc lo hi seq target recs = l at *
  have e0 : l.drop (0 : Int).toNat = be (Int.toNat 1) kind ++ (be 2 from0 ++ (be 6 inc ++ (be 1 (lo * 16 + hi) ++ (be 2 seq ++ (be 2 target ++ (be 1 (recs.length : Int) ++ (recs.flatMap recB ++ []))))))) := by
    rw [← hl]
    simp [bodyF, headB, n1]
  obtain ⟨a1, a2, a3⟩ := read_be l 1 0 kind _ h0 (by omega) (by omega) (by omega) (by simp; omega) e0
  obtain ⟨b1, b2, b3⟩ := read_be l 2 _ from0 _ a3 (by omega) (by omega) v3 (by simp; omega) a2
  obtain ⟨c1, c2, c3⟩ := read_be l 6 _ inc _ b3 (by omega) (by omega) v5 (by simp; omega) b2
  obtain ⟨d1, d2, d3⟩ := read_be l 1 _ (lo * 16 + hi) _ c3 (by omega) (by omega) (by omega) (by simp; omega) c2
  obtain ⟨f1, f2, f3⟩ := read_be l 2 _ seq _ d3 (by omega) (by omega) v8 (by simp; omega) d2
  obtain ⟨g1, g2, g3⟩ := read_be l 2 _ target _ f3 (by omega) (by omega) v10 (by simp; omega) f2
  obtain ⟨i1, i2, i3⟩ := read_be l 1 _ (recs.length : Int) _ g3 (by omega) (by omega) (by omega) (by simp; omega) g2
  obtain ⟨a', j1, j2, j3⟩ := dec_be l recs _ [] i3 (fun r hr => ⟨v13 r hr, hx r hr⟩) i2
  unfold decF
  dsimp only
  rw [a1]
  dsimp only
  rw [b1]
  dsimp only
  rw [c1]
  dsimp only
  rw [d1]
  dsimp only
  rw [f1]
  dsimp only
  rw [g1]
  dsimp only
  rw [i1]
  dsimp only
  rw [Int.toNat_natCast, j1, of_code v7]
  dsimp only
  have hleft : leftF l a' false = 0 := by
    unfold leftF
    have := (atOk_iff l a').1 j3
    have hz := congrArg List.length j2
    simp at hz
    simp
    omega
  unfold endF
  rw [hleft, h]
  rfl
theorem fitsL_zero {kind from0 inc lo hi seq target life epoch base : Int} {recs : List (Int × Int × Int × (Int × Int) × Bool × List (Int × List Int))} (h : fitsL kind from0 inc lo hi seq target life epoch base recs = true) : life = 0 ∧ epoch = 0 ∧ base = 0 := by
  unfold fitsL at h
  split at h
  · cases h
  · rename_i hc
    simp only [Bool.or_eq_true, not_or, bne_iff_ne, ne_eq, Decidable.not_not] at hc
    exact ⟨hc.2.2.1, hc.2.2.2.1, hc.2.2.2.2⟩
theorem Gen1Back.pure (kind from0 inc lo hi seq target life epoch base : Int) (recs : List (Int × Int × Int × (Int × Int) × Bool × List (Int × List Int))) (hl : smallRecs recs = true) : Gen1Back.f 0 kind from0 inc lo hi seq target life epoch base recs = some true := by
  unfold Gen1Back.f Gen1Back.b
  rw [hl]
  cases few8 recs
  · rfl
  cases hf : fitsL kind from0 inc lo hi seq target life epoch base recs
  · rfl
  obtain ⟨rfl, rfl, rfl⟩ := fitsL_zero hf
  have h1 : fits1 kind from0 inc lo hi seq target 0 0 0 recs = true := by rw [fits_same]; exact hf
  have hv := (fits_facts hf).1
  have hlen := (valid_facts hv).2.2.2.2.2.2.2.2.2.2.2.2.1
  have he : encF kind from0 inc lo hi seq target 0 0 0 recs = (bodyF kind from0 inc lo hi seq target recs, 0) := by
    unfold encF
    rw [hv, h1]
    rfl
  rw [he]
  dsimp only
  rw [body_bytes kind from0 inc lo hi seq target recs hlen, veil_eq, back kind from0 inc lo hi seq target recs h1]
  dsimp only
  rw [hl, allGo_self]
  simp
end Go.Proofs.Ytlmljpmohljefaa
