import Derived.Test.YtlmljpmohljefaaC5
set_option linter.unusedVariables false
set_option linter.unusedSimpArgs false
namespace Go.Proofs.Ytlmljpmohljefaa
open Go.Den
theorem SAll.pure : SAll.f 9 () = some allF := by kernel_rfl
theorem SOf.flat (c : Int) : SOf.f 9 c = (if (codeF 1 1 == c) = true then some (1, 1, true) else if (codeF 1 2 == c) = true then some (1, 2, true) else if (codeF 1 3 == c) = true then some (1, 3, true) else
  if (codeF 2 2 == c) = true then some (2, 2, true) else if (codeF 2 3 == c) = true then some (2, 3, true) else if (codeF 3 3 == c) = true then some (3, 3, true) else some (0, 0, false)) := by kernel_rfl
theorem SOf.pure (c : Int) : SOf.f 9 c = some ((ofGo allF c).1, (ofGo allF c).2.1, (ofGo allF c).2.2) := by
  rw [SOf.flat]
  unfold allF ofGo ofGo ofGo ofGo ofGo ofGo ofGo
  repeat' split
  all_goals rfl
theorem inB_iff (l : List Int) : inB l = true ↔ l.length < 1099511600000 ∧ ∀ c ∈ l, 0 ≤ c ∧ c ≤ 255 := by
  unfold inB
  rw [Bool.and_eq_true, roomy_iff]
  simp [List.all_eq_true]
theorem atOk_iff (l : List Int) (a : Int) : atOk l a = true ↔ inB l = true ∧ 0 ≤ a ∧ a ≤ (l.length : Int) := by
  unfold atOk
  simp only [Bool.and_eq_true, decide_eq_true_eq]
theorem ORead.pure (l : List Int) (hl : inB l = true) : ORead.f 0 l = some (l, 0, false) := by
  have hr' := ((inB_iff l).1 hl).1
  unfold ORead.f ORead.b
  rw [if_pos (by refine ⟨by omega, by omega, by omega, by omega⟩), if_pos (by simp)]
  simp
theorem OStep.pure (n : Int) (l : List Int) (a : Int) (bad : Bool) (hl : atOk l a = true) : OStep.f 0 n l a bad = some ((stepF l n a bad).1, (stepF l n a bad).2.1, l, (stepF l n a bad).2.2.1, (stepF l n a bad).2.2.2) := by
  obtain ⟨h1, h2, h3⟩ := (atOk_iff l a).1 hl
  have h4 := ((inB_iff l).1 h1).1
  unfold OStep.f OStep.b stepF
  cases bad
  · simp only [Bool.false_eq_true, if_false]
    by_cases c1 : n < 0
    · simp [c1]
    · rw [wrap_small ((l.length : Int) - a) (by omega) (by omega)]
      by_cases c2 : n > (l.length : Int) - a
      · simp [c1, c2]
      · rw [wrap_small (a + n) (by omega) (by omega)]
        rw [if_neg (by simpa using c1), if_neg (by simpa using c2), if_pos ⟨h2, by omega, by omega⟩, if_neg (by simp [c1]; omega)]
        rfl
  · rfl
theorem RBad.pure (l : List Int) (a : Int) (bad : Bool) : RBad.f 0 l a bad = some (bad, l, a, bad) := rfl
theorem RLeft.pure (l : List Int) (a : Int) (bad : Bool) (hl : atOk l a = true) : RLeft.f 0 l a bad = some (leftF l a bad, l, a, bad) := by
  obtain ⟨h1, h2, h3⟩ := (atOk_iff l a).1 hl
  have h4 := ((inB_iff l).1 h1).1
  unfold RLeft.f RLeft.b leftF
  rw [wrap_small _ (by omega) (by omega)]
  cases bad <;> rfl
theorem RDone.pure (l : List Int) (a : Int) (bad : Bool) (hl : atOk l a = true) : RDone.f 0 l a bad = some (!bad && (leftF l a bad == 0), l, a, bad) := by
  unfold RDone.f RDone.b
  rw [hl]
  cases bad <;> rfl
theorem or8 (x c : Int) (h0 : 0 ≤ x) (h1 : x < 281474976710656) (c0 : 0 ≤ c) (c1 : c ≤ 255) : bits Go.BinOp.or .i64 (Go.IntKind.wrap .i64 (x * ((2 : Int) ^ (Min.min (Int.toNat (8 : Int)) (Go.IntKind.bits .i64))))) (Go.IntKind.wrap .i64 c) = x * 256 + c := by
  have hp : ((2 : Int) ^ (Min.min (Int.toNat (8 : Int)) (Go.IntKind.bits .i64))) = 256 := rfl
  rw [hp, wrap_small (x * 256) (by omega) (by omega), wrap_small c (by omega) (by omega)]
  obtain ⟨X, rfl⟩ := Int.eq_ofNat_of_zero_le h0
  obtain ⟨C, rfl⟩ := Int.eq_ofNat_of_zero_le c0
  unfold bits
  dsimp only
  have e1 : ((X : Int) * 256) = ((X * 256 : Nat) : Int) := by omega
  rw [e1]
  have b64 : Go.IntKind.bits .i64 = 64 := rfl
  have t1 : (BitVec.ofInt (Go.IntKind.bits .i64) ((X * 256 : Nat) : Int)).toNat = X * 256 := by
    rw [b64, BitVec.ofInt_natCast, BitVec.toNat_ofNat, Nat.mod_eq_of_lt (by omega)]
  have t2 : (BitVec.ofInt (Go.IntKind.bits .i64) (C : Int)).toNat = C := by
    rw [b64, BitVec.ofInt_natCast, BitVec.toNat_ofNat, Nat.mod_eq_of_lt (by omega)]
  rw [BitVec.toNat_or, t1, t2]
  have t3 : X * 256 ||| C = X * 256 + C := by
    have := Nat.shiftLeft_add_eq_or_of_lt (a := X) (b := C) (i := 8) (by omega)
    rw [Nat.shiftLeft_eq] at this
    exact this.symm
  rw [t3, wrap_small _ (by omega) (by omega)]
  omega
theorem RNum.loop (fuel : Nat) (n : Int) (l : List Int) (a0 : Int) (bad0 : Bool) (p : List Int) (hp : p.length ≤ 7) (hb : ∀ c ∈ p, 0 ≤ c ∧ c ≤ 255) (a : Int) (bad : Bool) : ∀ (k i : Nat) (v : Int), i ≤ p.length → p.length - i < k → 0 ≤ v → v < 256 ^ i →
    RNum.l8 fuel n l a0 bad0 k v p (p.length : Int) (i : Int) a bad = some ((p.drop i).foldl (fun v c => v * 256 + c) v, l, a, bad) := by
  intro k
  induction k with
  | zero => intro i v h1 h2; omega
  | succ k ih =>
    intro i v h1 h2 h3 h4
    rw [RNum.l8]
    unfold RNum.b8
    by_cases hi : i < p.length
    · rw [if_pos (by simp; omega), idx_at, List.getElem?_eq_getElem hi]
      dsimp only
      obtain ⟨b1, b2⟩ := hb p[i] (List.getElem_mem hi)
      have hv : v < 281474976710656 := by
        have : i = 0 ∨ i = 1 ∨ i = 2 ∨ i = 3 ∨ i = 4 ∨ i = 5 ∨ i = 6 := by omega
        rcases this with rfl | rfl | rfl | rfl | rfl | rfl | rfl <;> simp at h4 <;> omega
      rw [or8 v _ h3 hv b1 b2, wrap_small _ (by omega) (by omega), List.drop_eq_getElem_cons hi]
      rw [show ((i : Int) + 1) = ((i + 1 : Nat) : Int) from by omega]
      exact ih (i + 1) _ (by omega) (by omega) (by omega) (by rw [Int.pow_succ]; generalize (256 : Int) ^ i = M at h4 ⊢; omega)
    · rw [if_neg (by simp; omega), List.drop_of_length_le (by omega)]
      rfl
theorem seg_length (l : List Int) (a n : Int) (h2 : 0 ≤ a) (h0 : 0 ≤ n) (h3 : n ≤ (l.length : Int) - a) : (seg l a n).length = n.toNat := by
  unfold seg
  simp
  omega
theorem seg_mem {l : List Int} {a n c : Int} (h : c ∈ seg l a n) : c ∈ l := List.mem_of_mem_take (List.mem_of_mem_drop h)
theorem stepF_neg (l : List Int) (a : Int) (bad : Bool) : stepF l (-1) a bad = ([], false, a, true) := by
  unfold stepF
  cases bad
  · simp
  · rfl
theorem RNum.pure (n : Int) (l : List Int) (a : Int) (bad : Bool) (hl : atOk l a = true) : RNum.f 9 n l a bad = some ((readF l n a bad).1, l, (readF l n a bad).2.1, (readF l n a bad).2.2) := by
  obtain ⟨h1, h2, h3⟩ := (atOk_iff l a).1 hl
  obtain ⟨h4, h5⟩ := (inB_iff l).1 h1
  unfold RNum.f RNum.b readF
  rw [hl, stepF_neg]
  by_cases c1 : n < 1
  · simp [c1, stepF_neg]
  · by_cases c2 : n > 7
    · simp [c1, c2, stepF_neg]
    · simp only [c1, c2, decide_false, Bool.or_self, Bool.false_eq_true, if_false, if_true]
      cases hs : (stepF l n a bad).2.1
      · simp
      · simp only [Bool.not_true, Bool.false_eq_true, if_false, if_true]
        have hp : (stepF l n a bad).1 = seg l a n ∧ n ≤ (l.length : Int) - a := by
          unfold stepF at hs ⊢
          split at hs
          · cases hs
          · split at hs
            · cases hs
            · rename_i k1 k2
              rw [if_neg k1, if_neg k2]
              simp only [Bool.or_eq_true, decide_eq_true_eq, not_or] at k2
              exact ⟨rfl, by omega⟩
        rw [hp.1]
        have := RNum.loop 9 n l a bad (seg l a n) (by rw [seg_length l a n h2 (by omega) hp.2]; omega) (fun c hc => h5 c (seg_mem hc)) (stepF l n a bad).2.2.1 (stepF l n a bad).2.2.2 9 0 0 (by omega) (by rw [seg_length l a n h2 (by omega) hp.2]; omega) (by omega) (by simp)
        exact this
theorem readF_at (l : List Int) (n a : Int) (bad : Bool) (hl : atOk l a = true) : atOk l (readF l n a bad).2.1 = true := by
  obtain ⟨h1, h2, h3⟩ := (atOk_iff l a).1 hl
  refine (atOk_iff _ _).2 ⟨h1, ?_⟩
  have key : ∀ m, 0 ≤ (stepF l m a bad).2.2.1 ∧ (stepF l m a bad).2.2.1 ≤ (l.length : Int) := by
    intro m
    unfold stepF
    cases bad
    · rw [if_neg (by simp)]
      split
      · exact ⟨h2, h3⟩
      · rename_i k2
        simp only [Bool.or_eq_true, decide_eq_true_eq, not_or] at k2
        dsimp only
        omega
    · exact ⟨h2, h3⟩
  exact key _
theorem readF_byte (l : List Int) (a : Int) (bad : Bool) (hl : atOk l a = true) : 0 ≤ (readF l 1 a bad).1 ∧ (readF l 1 a bad).1 ≤ 255 := by
  obtain ⟨h1, h2, h3⟩ := (atOk_iff l a).1 hl
  obtain ⟨h4, h5⟩ := (inB_iff l).1 h1
  unfold readF
  have hn : (if (decide ((1 : Int) < 1) || decide ((1 : Int) > 7)) = true then (-1 : Int) else 1) = 1 := by decide
  dsimp only
  rw [hn]
  split
  · rename_i hs
    unfold stepF at hs ⊢
    split at hs
    · cases hs
    · split at hs
      · cases hs
      · rename_i k1 k2
        rw [if_neg k1, if_neg k2]
        simp only [Bool.or_eq_true, decide_eq_true_eq, not_or] at k2
        have hlen := seg_length l a 1 h2 (by omega) (by omega)
        have : ∃ c, seg l a 1 = [c] := by
          match hh : seg l a 1, hlen with
          | [c], _ => exact ⟨c, rfl⟩
        obtain ⟨c, hc⟩ := this
        have := h5 c (seg_mem (a := a) (n := 1) (by rw [hc]; simp))
        dsimp only
        rw [hc]
        simp [numB]
        omega
  · omega
def bitsTab : Bool := (List.range 256).all fun v => bits Go.BinOp.and .i64 (v : Int) 3 == (v : Int) % 4 && bits Go.BinOp.and .i64 (Int.fdiv (v : Int) 4) 3 == (v : Int) / 4 % 4 && bits Go.BinOp.and .i64 (Int.fdiv (v : Int) 16) 3 == (v : Int) / 16 % 4 && ((bits Go.BinOp.and .i64 (v : Int) 64 != 0) == ((v : Int) / 64 % 2 == 1))
theorem bits_tab : bitsTab = true := by kernel_rfl
theorem bits_of (v : Int) (h0 : 0 ≤ v) (h1 : v ≤ 255) : bits Go.BinOp.and .i64 v 3 = v % 4 ∧ bits Go.BinOp.and .i64 (Int.fdiv v 4) 3 = v / 4 % 4 ∧ bits Go.BinOp.and .i64 (Int.fdiv v 16) 3 = v / 16 % 4 ∧ (bits Go.BinOp.and .i64 v 64 != 0) = (v / 64 % 2 == 1) := by
  have := bits_tab
  unfold bitsTab at this
  have h := List.all_eq_true.1 this v.toNat (List.mem_range.2 (by omega))
  rw [Int.toNat_of_nonneg h0] at h
  simp only [Bool.and_eq_true, beq_iff_eq] at h
  exact ⟨h.1.1.1, h.1.1.2, h.1.2, h.2⟩
theorem One1.pure (l : List Int) (a : Int) (bad : Bool) (hl : atOk l a = true) : One1.f 0 l a bad = some ((oneF l a bad).1.1, (oneF l a bad).1.2.1, (oneF l a bad).1.2.2.1, (oneF l a bad).1.2.2.2.1.1, (oneF l a bad).1.2.2.2.1.2, (oneF l a bad).1.2.2.2.2.1, [], l, (oneF l a bad).2.1, (oneF l a bad).2.2) := by
  unfold One1.f One1.b oneF
  have h2 := readF_at l 2 a bad hl
  have h3 := readF_at l 2 _ (readF l 2 a bad).2.2 h2
  have hb := readF_byte l _ (readF l 2 (readF l 2 a bad).2.1 (readF l 2 a bad).2.2).2.2 h3
  rw [if_pos hl, if_pos h2, if_pos h3]
  obtain ⟨e1, e2, e3, e4⟩ := bits_of _ hb.1 hb.2
  have p1 : ((2 : Int) ^ (Min.min (Int.toNat (2 : Int)) (Go.IntKind.bits .i64))) = 4 := rfl
  have p2 : ((2 : Int) ^ (Min.min (Int.toNat (4 : Int)) (Go.IntKind.bits .i64))) = 16 := rfl
  rw [p1, p2, e1, e2, e3, e4]
  dsimp only
  split <;> rfl
end Go.Proofs.Ytlmljpmohljefaa
