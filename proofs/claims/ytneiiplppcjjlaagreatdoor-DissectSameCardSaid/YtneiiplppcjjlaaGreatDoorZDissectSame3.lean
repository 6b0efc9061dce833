/- DissectSame, part 3: what the row leans on. -/
import Derived.Test.YtneiiplppcjjlaaGreatDoorZDissectSame2
set_option linter.unusedVariables false
set_option linter.unusedSimpArgs false
set_option maxRecDepth 100000
namespace Go.Proofs.YtneiiplppcjjlaaGreatDoor
open Go.Den
noncomputable section
theorem Num.loop (qa : Nat) (v : Int) : ∀ (j k : Nat) (u : Int) (b : List Int), 0 ≤ u → u < 10 ^ (j + 1) → j ≤ 18 → j < k → b.length = 20 →
  zj.l6 qa v k ((j + 2 : Nat) : Int) u b = some (strOf ((if v < 0 then [45] else []) ++ (qeN j u ++ b.drop (j + 2)))) := by
 intro j
 induction j with
 | zero =>
  intro k u b h0 h1 hj hk hb
  obtain ⟨k, rfl⟩ : ∃ k', k = k' + 1 := ⟨k - 1, by omega⟩
  have h1 : u < 10 := by simpa using h1
  rw [zj.l6]
  unfold zj.b6
  rw [show IntKind.wrap .i64 (((0 + 2 : Nat) : Int) - 1) = ((1 : Nat) : Int) from by decide, Qh, List.getElem?_eq_getElem (by omega)]
  dsimp only
  rw [Int.tdiv_eq_ediv_of_nonneg h0, Int.tmod_eq_emod_of_nonneg h0, show u / 10 = 0 from by omega, show u % 10 = u from by omega, if_pos (by decide), Z4 (48 + u) (by omega) (by omega), show IntKind.wrap .u8 (48 + u) = 48 + u from by rw [qgh]; omega]
  have hd : (b.set 1 (48 + u)).drop 1 = (48 + u) :: b.drop 2 := by
   rw [List.drop_eq_getElem_cons (by simp; omega), List.getElem_set_self, List.drop_set_of_lt (by omega)]
  by_cases hv : v < 0
  ·rw [if_pos (by simpa using hv), show IntKind.wrap .i64 (((1 : Nat) : Int) - 1) = ((0 : Nat) : Int) from by decide, Qh, Int.toNat_natCast, List.getElem?_eq_getElem (by simp; omega)]
   dsimp only
   rw [if_pos (by simp), if_pos hv, Int.toNat_natCast, List.take_length, qeN]
   refine congrArg (fun l => some (strOf l)) ?_
   rw [List.drop_zero]
   have e : (b.set 1 (48 + u)).set 0 45 = 45 :: (b.set 1 (48 + u)).drop 1 := by
    cases b with
    | nil => simp at hb
    | cons x b => simp
   rw [e, hd]
   all_goals rfl
  ·rw [if_neg (by simpa using hv), if_pos (by simp; omega), if_neg hv, Int.toNat_natCast, List.take_length, hd, qeN]
   all_goals rfl
 | succ j ih =>
  intro k u b h0 h1 hj hk hb
  obtain ⟨k, rfl⟩ : ∃ k', k = k' + 1 := ⟨k - 1, by omega⟩
  have hu : u < 10000000000000000000 := by
   have : (10 : Int) ^ (j + 1 + 1) ≤ 10 ^ 19 := by
    have : (10 : Nat) ^ (j + 1 + 1) ≤ 10 ^ 19 := Nat.pow_le_pow_right (by decide) (by omega)
    exact_mod_cast this
   have e : (10 : Int) ^ 19 = 10000000000000000000 := by decide
   omega
  rw [zj.l6]
  unfold zj.b6
  rw [show IntKind.wrap .i64 (((j + 1 + 2 : Nat) : Int) - 1) = ((j + 2 : Nat) : Int) from by rw [qV _ (by omega) (by omega)]; omega, Qh, List.getElem?_eq_getElem (by omega)]
  dsimp only
  rw [Int.tdiv_eq_ediv_of_nonneg h0, Int.tmod_eq_emod_of_nonneg h0, Z4 (u / 10) (by omega) (by omega), Z4 (48 + u % 10) (by omega) (by omega), show IntKind.wrap .u8 (48 + u % 10) = 48 + u % 10 from by rw [qgh]; omega, Int.toNat_natCast]
  have hd : (b.set (j + 2) (48 + u % 10)).drop (j + 2) = (48 + u % 10) :: b.drop (j + 3) := by
   rw [List.drop_eq_getElem_cons (by simp; omega), List.getElem_set_self, List.drop_set_of_lt (by omega)]
  by_cases h10 : u < 10
  ·have e10 : u % 10 = u := by omega
   rw [e10] at hd ⊢
   rw [if_pos (c := (u / 10 == 0) = true) (by simp; omega)]
   by_cases hv : v < 0
   ·rw [if_pos (by simpa using hv), show IntKind.wrap .i64 (((j + 2 : Nat) : Int) - 1) = ((j + 1 : Nat) : Int) from by rw [qV _ (by omega) (by omega)]; omega, Qh, List.getElem?_eq_getElem (by simp; omega)]
    dsimp only
    rw [if_pos (by simp; omega), if_pos hv, Int.toNat_natCast, List.take_length, qj2 _ u h10]
    refine congrArg (fun l => some (strOf l)) ?_
    rw [List.drop_eq_getElem_cons (by simp; omega), List.getElem_set_self]
    rw [List.drop_set_of_lt (by omega), hd]
    all_goals rfl
   ·rw [if_neg (by simpa using hv), if_pos (by simp; omega), if_neg hv, List.take_length, hd, qj2 _ u h10]
    all_goals rfl
  ·rw [if_neg (by simp; omega), ih k (u / 10) (b.set (j + 2) (48 + u % 10)) (by omega) (by rw [Int.pow_succ] at h1; generalize (10 : Int) ^ (j + 1) = M at h1 ⊢; omega) (by omega) (by omega) (by simpa using hb), hd, qeN, if_neg h10]
   simp
theorem qeu.pure (v : Int) (h0 : -9223372036854775808 ≤ v) (h1 : v < 9223372036854775808) : zj.f BIG v = some (Q8 v) := by
 have hB : 18 < BIG := by rw [qaj]; omega
 have e19 : (10 : Int) ^ (18 + 1) = 10000000000000000000 := by decide
 unfold zj.f zj.b Q8 qqf
 by_cases hv : v < 0
 ·rw [if_pos (by simpa using hv), if_pos hv]
  have e1 : IntKind.wrap .u64 v = v + 18446744073709551616 := by simp [IntKind.wrap, IntKind.signed, IntKind.bits]; omega
  have e2 : IntKind.wrap .u64 (0 - (v + 18446744073709551616)) = -v := by simp [IntKind.wrap, IntKind.signed, IntKind.bits]; omega
  have := Num.loop BIG v 18 BIG (-v) (List.replicate 20 (zeroI (Ty.int .u8))) (by omega) (by rw [e19]; omega) (by omega) hB (by simp)
  rw [e1, e2]
  rw [if_pos hv] at this
  simpa using this
 ·rw [if_neg (by simpa using hv), if_neg hv]
  have := Num.loop BIG v 18 BIG v (List.replicate 20 (zeroI (Ty.int .u8))) (by omega) (by rw [e19]; omega) (by omega) hB (by simp)
  rw [Z4 v (by omega) (by omega)]
  rw [if_neg hv] at this
  simpa using this
def pv (top : Bool) : Nat → List Int → Option (Int × List Int)
 | _, [] => none
 | 0, c :: r => if c > 1 then none else if c = 0 then none else some (c, r)
 | k + 1, c :: r => if c < 128 then (if c = 0 ∧ top = false then none else some (c, r)) else
   match pv false k r with
   | some (v, s) => some (c - 128 + 128 * v, s)
   | none => none
theorem qqa : ∀ (k : Nat) (top : Bool) (l : List Int), (∀ c ∈ l, 0 ≤ c ∧ c ≤ 255) → ∀ v r, pv top k l = some (v, r) →
  l = viF k v ++ r ∧ 0 ≤ v ∧ v < 2 * 128 ^ k ∧ (top = false → 1 ≤ v) := by
 intro k
 induction k with
 | zero =>
  intro top l hb v r h
  cases l with
  | nil => rw [pv] at h; cases h
  | cons c l =>
   obtain ⟨c0, c1⟩ := hb c (List.mem_cons_self ..)
   rw [pv] at h
   split at h
   ·cases h
   ·split at h
    ·cases h
    ·cases h
     refine ⟨rfl, c0, by simp; omega, fun _ => by omega⟩
 | succ k ih =>
  intro top l hb v r h
  cases l with
  | nil => rw [pv] at h; cases h
  | cons c l =>
   obtain ⟨c0, c1⟩ := hb c (List.mem_cons_self ..)
   have hp : (1 : Int) ≤ 128 ^ k := Int.pow_pos (by decide)
   rw [pv] at h
   split at h
   ·rename_i hc
    split at h
    ·cases h
    ·rename_i hz
     have hz : ¬ (c = 0 ∧ top = false) := hz
     obtain ⟨rfl, rfl⟩ : c = v ∧ l = r := by cases h; exact ⟨rfl, rfl⟩
     refine ⟨?_, c0, ?_, fun ht => ?_⟩
     ·rw [viF, if_neg (by omega)]; rfl
     ·rw [Int.pow_succ]; generalize (128 : Int) ^ k = M at hp ⊢; omega
     ·by_cases hz' : c = 0
      ·exact absurd ⟨hz', ht⟩ hz
      ·omega
   ·rename_i hc
    split at h
    ·rename_i w s hw
     cases h
     obtain ⟨e, w0, w1, w2⟩ := ih false l (fun c h => hb c (List.mem_cons_of_mem _ h)) w _ hw
     have w2 := w2 rfl
     refine ⟨?_, by omega, ?_, fun _ => by omega⟩
     ·rw [viF, if_pos (by omega), show (c - 128 + 128 * w) % 128 + 128 = c from by omega, show (c - 128 + 128 * w) / 128 = w from by omega, e]; rfl
     ·rw [Int.pow_succ]; generalize (128 : Int) ^ k = M at hp w1 ⊢; omega
    ·cases h
theorem qqW : ∀ (k : Nat) (top : Bool) (v : Int) (r : List Int), 0 ≤ v → v < 2 * 128 ^ k → (top = false ∨ k = 0 → 1 ≤ v) → pv top k (viF k v ++ r) = some (v, r) := by
 intro k
 induction k with
 | zero =>
  intro top v r h0 h1 h2
  have := h2 (Or.inr rfl)
  simp at h1
  rw [viF]
  show pv top 0 (v :: r) = _
  rw [pv, if_neg (by omega), if_neg (by omega)]
 | succ k ih =>
  intro top v r h0 h1 h2
  rw [viF]
  have hp : (1 : Int) ≤ 128 ^ k := Int.pow_pos (by decide)
  by_cases hc : v ≥ 128
  ·rw [if_pos hc]
   show pv top (k + 1) ((v % 128 + 128) :: (viF k (v / 128) ++ r)) = _
   rw [pv, if_neg (by omega), ih false (v / 128) r (by omega) (by rw [Int.pow_succ] at h1; generalize (128 : Int) ^ k = M at hp h1 ⊢; omega) (fun _ => by omega)]
   show some (v % 128 + 128 - 128 + 128 * (v / 128), r) = _
   rw [show v % 128 + 128 - 128 + 128 * (v / 128) = v from by omega]
  ·rw [if_neg hc]
   show pv top (k + 1) (v :: r) = _
   rw [pv, if_pos (by omega), if_neg]
   intro ⟨a, b⟩
   have := h2 (Or.inl b)
   omega
def pV (l : List Int) : Option (Int × List Int) := pv true 9 l
theorem ql9 {l : List Int} (hb : ∀ c ∈ l, 0 ≤ c ∧ c ≤ 255) {v : Int} {r : List Int} (h : pV l = some (v, r)) : l = vi v ++ r ∧ 0 ≤ v ∧ v < 18446744073709551616 := by
 obtain ⟨a, b, c, _⟩ := qqa 9 true l hb v r h
 exact ⟨a, b, by simpa using c⟩
theorem qqX {v : Int} (r : List Int) (h0 : 0 ≤ v) (h1 : v < 18446744073709551616) : pV (vi v ++ r) = some (v, r) :=
 qqW 9 true v r h0 (by simpa using h1) (fun h => by simp at h)
theorem qoI : (List.range 256).all (fun n => bits BinOp.and .u8 (n : Int) 127 == (n : Int) % 128) = true := by kernel_rfl
theorem qpL (c : Int) (h0 : 0 ≤ c) (h1 : c ≤ 255) : bits BinOp.and .u8 c 127 = c % 128 := by
 have := List.all_eq_true.1 qoI c.toNat (by simp; omega)
 rw [show ((c.toNat : Nat) : Int) = c from by omega] at this
 simpa using this
theorem qnd (x y : Int) (m : Nat) (h0 : 0 ≤ x) (h1 : x < 2 ^ m) (y0 : 0 ≤ y) (hy : y * 2 ^ m < 18446744073709551616) (hx : x + y * 2 ^ m < 18446744073709551616) : bits BinOp.or .u64 x (y * 2 ^ m) = x + y * 2 ^ m := by
 obtain ⟨a, rfl⟩ := Int.eq_ofNat_of_zero_le h0
 obtain ⟨b, rfl⟩ := Int.eq_ofNat_of_zero_le y0
 have e2 : ((b : Int) * 2 ^ m) = ((b * 2 ^ m : Nat) : Int) := by simp
 rw [e2] at hy hx ⊢
 have h1' : a < 2 ^ m := by
  have : ((2 : Int) ^ m) = ((2 ^ m : Nat) : Int) := by simp
  rw [this] at h1
  exact Int.ofNat_lt.1 h1
 unfold bits
 dsimp only
 have b64 : IntKind.bits .u64 = 64 := rfl
 have t1 : (BitVec.ofInt (IntKind.bits .u64) (a : Int)).toNat = a := by
  rw [b64, BitVec.ofInt_natCast, BitVec.toNat_ofNat, Nat.mod_eq_of_lt (by omega)]
 have t2 : (BitVec.ofInt (IntKind.bits .u64) ((b * 2 ^ m : Nat) : Int)).toNat = b * 2 ^ m := by
  rw [b64, BitVec.ofInt_natCast, BitVec.toNat_ofNat, Nat.mod_eq_of_lt (by omega)]
 rw [BitVec.toNat_or, t1, t2]
 have t3 : a ||| b * 2 ^ m = a + b * 2 ^ m := by
  rw [Nat.or_comm, Nat.mul_comm, ← Nat.two_pow_add_eq_or_of_lt h1']
  omega
 rw [t3, Z4 _ (by omega) (by omega)]
 omega
theorem qna : IntKind.bits .u64 = 64 := rfl
theorem Get.loop (qa : Nat) (b : List Int) (hb : ∀ c ∈ b, 0 ≤ c ∧ c ≤ 255) (hl : b.length < 1099511600000) : ∀ (j k : Nat) (i : Nat) (x : Int), i + j = 9 → j < k → i ≤ b.length → 0 ≤ x → x < 2 ^ (7 * i) →
  match pv (i == 0) j (b.drop i) with
  | some (v, r) => zn.l4 qa b k x (i : Int) = some (x + v * 2 ^ (7 * i), (b.length : Int) - (r.length : Int), 0)
  | none => ∃ e, (e = 2 ∨ e = 4) ∧ zn.l4 qa b k x (i : Int) = some (0, 0, e) := by
 intro j
 induction j with
 | zero =>
  intro k i x hi hk hle x0 x1
  obtain ⟨k, rfl⟩ : ∃ k', k = k' + 1 := ⟨k - 1, by omega⟩
  obtain rfl : i = 9 := by omega
  rw [zn.l4]
  unfold zn.b4
  rw [if_pos (by simp)]
  by_cases hlt : 9 < b.length
  ·rw [if_neg (by simp; omega), Qh, List.getElem?_eq_getElem hlt, ← List.getElem_cons_drop hlt]
   dsimp only
   obtain ⟨c0, c1⟩ := hb _ (List.getElem_mem hlt)
   have hd : (b.drop (9 + 1)).length = b.length - 10 := by simp
   generalize b[9] = c at c0 c1 ⊢
   generalize b.drop (9 + 1) = rest at hd ⊢
   rw [pv, show ((((9 : Nat)) : Int) == (9 : Int)) = true from rfl, if_pos (c := true = true) rfl]
   by_cases hc : c > 1
   ·rw [if_pos hc, if_pos (c := decide (c > 1) = true) (by simpa using hc)]
    exact ⟨4, Or.inr rfl, rfl⟩
   ·rw [if_neg hc, if_neg (c := decide (c > 1) = true) (by simpa using hc), if_neg (c := IntKind.wrap .i64 ((7 : Int) * ((9 : Nat) : Int)) < 0) (by decide), if_pos (c := decide (c < 128) = true) (by simp; omega)]
    by_cases hz : c = 0
    ·rw [if_pos hz, if_pos (c := (c == 0) = true) (by simpa using hz), if_pos (c := decide ((((9 : Nat)) : Int) > 0) = true) (by simp)]
     exact ⟨4, Or.inr rfl, rfl⟩
    ·rw [if_neg hz, if_neg (c := (c == 0) = true) (by simpa using hz)]
     obtain rfl : c = 1 := by omega
     dsimp only
     have e7 : Int.toNat (IntKind.wrap .i64 ((7 : Int) * ((9 : Nat) : Int))) = 63 := by decide
     rw [qpL 1 (by decide) (by decide), e7, qna, show Min.min 63 64 = 63 from rfl, Z4 ((1 : Int) % 128) (by decide) (by decide), Z4 _ (by decide) (by decide), qnd x _ 63 x0 (by simpa using x1) (by decide) (by decide) (by simp at x1 ⊢; omega)]
     rw [qV _ (by omega) (by omega)]
     simp
     omega
  ·rw [if_pos (by simp; omega), List.drop_of_length_le (by omega), pv]
   exact ⟨2, Or.inl rfl, rfl⟩
 | succ j ih =>
  intro k i x hi hk hle x0 x1
  obtain ⟨k, rfl⟩ : ∃ k', k = k' + 1 := ⟨k - 1, by omega⟩
  rw [zn.l4]
  unfold zn.b4
  rw [if_pos (by simp; omega)]
  by_cases hlt : i < b.length
  ·rw [if_neg (by simp; omega), Qh, List.getElem?_eq_getElem hlt, ← List.getElem_cons_drop hlt]
   dsimp only
   obtain ⟨c0, c1⟩ := hb _ (List.getElem_mem hlt)
   have hd : (b.drop (i + 1)).length = b.length - (i + 1) := by simp
   have IH := ih k (i + 1)
   generalize b[i] = c at c0 c1 ⊢
   generalize b.drop (i + 1) = rest at hd IH ⊢
   have w7 : IntKind.wrap .i64 ((7 : Int) * (i : Int)) = ((7 * i : Nat) : Int) := by rw [qV _ (by omega) (by omega)]; omega
   have w1 : IntKind.wrap .i64 ((i : Int) + 1) = ((i + 1 : Nat) : Int) := by rw [qV _ (by omega) (by omega)]; omega
   have hm : Min.min (Int.toNat ((7 * i : Nat) : Int)) 64 = 7 * i := by rw [Int.toNat_natCast]; omega
   have hpos : (1 : Int) ≤ 2 ^ (7 * i) := Int.pow_pos (by decide)
   have hbig : (2 : Int) ^ (7 * i) ≤ 2 ^ 56 := by
    have : (2 : Nat) ^ (7 * i) ≤ 2 ^ 56 := Nat.pow_le_pow_right (by decide) (by omega)
    exact_mod_cast this
   have hs : (2 : Int) ^ (7 * (i + 1)) = 2 ^ (7 * i) * 128 := by rw [show 7 * (i + 1) = 7 * i + 7 from by omega, Int.pow_add]; rfl
   rw [pv, if_neg (c := ((i : Int) == 9) = true) (by simp; omega), w7, w1, qna, hm, if_neg (c := ((7 * i : Nat) : Int) < 0) (by omega), qpL c c0 c1, Z4 (c % 128) (by omega) (by omega)]
   have hq : c % 128 * 2 ^ (7 * i) < 18446744073709551616 ∧ x + c % 128 * 2 ^ (7 * i) < 2 ^ (7 * i) * 128 ∧ 0 ≤ c % 128 * 2 ^ (7 * i) ∧ x + c % 128 * 2 ^ (7 * i) < 18446744073709551616 := by
    have a1 : c % 128 * 2 ^ (7 * i) ≤ 127 * 2 ^ (7 * i) := Int.mul_le_mul_of_nonneg_right (by omega) (by omega)
    have a2 : 0 ≤ c % 128 * 2 ^ (7 * i) := Int.mul_nonneg (by omega) (by omega)
    generalize c % 128 * 2 ^ (7 * i) = Q at a1 a2 ⊢
    generalize (2 : Int) ^ (7 * i) = M at a1 x1 hbig ⊢
    simp at hbig
    omega
   rw [Z4 _ hq.2.2.1 hq.1, qnd x _ (7 * i) x0 x1 (by omega) hq.1 hq.2.2.2]
   by_cases hc : c < 128
   ·rw [if_pos hc, if_pos (c := decide (c < 128) = true) (by simpa using hc)]
    by_cases hz : c = 0
    ·rw [if_pos (c := (c == 0) = true) (by simpa using hz)]
     by_cases hi0 : i = 0
     ·subst hi0
      rw [if_neg (c := decide ((((0 : Nat)) : Int) > 0) = true) (by simp), if_neg (by simp)]
      subst hz
      simp
      omega
     ·rw [if_pos (c := decide ((i : Int) > 0) = true) (by simp; omega), if_pos ⟨hz, by simpa using hi0⟩]
      exact ⟨4, Or.inr rfl, rfl⟩
    ·rw [if_neg (fun h => hz h.1), if_neg (c := (c == 0) = true) (by simpa using hz)]
     rw [show c % 128 = c from by omega]
     simp
     omega
   ·rw [if_neg hc, if_neg (c := decide (c < 128) = true) (by simpa using hc)]
    have := IH (x + c % 128 * 2 ^ (7 * i)) (by omega) (by omega) (by omega) (by omega) (by rw [hs]; exact hq.2.1)
    rw [show (i + 1 == 0) = false from rfl] at this
    split at this
    ·rename_i v r hv
     rw [this, hs]
     refine congrArg (fun z => some (z, _)) ?_
     rw [show c % 128 = c - 128 from by omega, Int.add_mul, show 128 * v * 2 ^ (7 * i) = v * (2 ^ (7 * i) * 128) from by rw [Int.mul_comm 128 v, Int.mul_assoc, Int.mul_comm 128]]
     omega
    ·exact this
  ·rw [if_pos (by simp; omega), List.drop_of_length_le (by omega), pv]
   exact ⟨2, Or.inl rfl, rfl⟩
theorem Get.pure (b : List Int) (hb : ∀ c ∈ b, 0 ≤ c ∧ c ≤ 255) (hl : b.length < 1099511600000) :
  match pV b with
  | some (v, r) => zn.f BIG b = some (v, (b.length : Int) - (r.length : Int), 0)
  | none => ∃ e, (e = 2 ∨ e = 4) ∧ zn.f BIG b = some (0, 0, e) := by
 have := Get.loop BIG b hb hl 9 BIG 0 0 rfl (by rw [qaj]; omega) (by omega) (by omega) (by simp)
 unfold zn.f zn.b pV
 simpa using this
def qbl (x : Int × List Int) : List Int := x.1 :: (vi (x.2.length : Int) ++ x.2)
def qbZ (b : LF) : List Int := vi (b.length : Int) ++ b.flatMap qbl
def qbF (o : REC × Bool) (r : REC) : Bool := o.2 && (o.1.2.2.2.1.1 == r.2.2.2.1.1 && o.1.2.2.2.1.2 == r.2.2.2.1.2)
def qbS (o : REC × Bool) (r : REC) : Bool := o.2 && (!r.2.2.2.2.1 && ZH o.1.2.2.2.2.2 r.2.2.2.2.2 == 0)
def qeA (o : REC × Bool) (r : REC) : Int := r.2.2.1 + (if r.2.2.2.2.1 then 4 else 0) + (if qbF o r then 8 else 0) + (if qbS o r then 16 else 0)
def qc4 (o : REC × Bool) (qe : Int) (r : REC) : List Int :=
 vi (r.1 - qe - 1) ++ (qeA o r :: ((if qbF o r then [] else [r.2.2.2.1.1 * 16 + r.2.2.2.1.2]) ++ (vi (qba (r.2.1 - o.1.2.1)) ++ (if r.2.2.2.2.1 || qbS o r then [] else qbZ r.2.2.2.2.2))))
theorem qqs : (List.range 32).all (fun n => (bits BinOp.and .i64 (n : Int) 8 == if (n : Int) / 8 % 2 = 1 then 8 else 0) && ((bits BinOp.and .i64 (n : Int) 20 == if (n : Int) / 4 % 2 = 1 then (if (n : Int) / 16 = 1 then 20 else 4) else (if (n : Int) / 16 = 1 then 16 else 0)) && ((decide ((n : Int) ≥ 4) || (bits BinOp.or .i64 (n : Int) 4 == (n : Int) + 4)) && ((decide ((n : Int) ≥ 8) || (bits BinOp.or .i64 (n : Int) 8 == (n : Int) + 8)) && (decide ((n : Int) ≥ 16) || (bits BinOp.or .i64 (n : Int) 16 == (n : Int) + 16)))))) = true := by kernel_rfl
theorem qgx (v : Int) (h0 : 0 ≤ v) (h1 : v < 32) : (bits BinOp.and .i64 v 8 = if v / 8 % 2 = 1 then 8 else 0) ∧ (bits BinOp.and .i64 v 20 = if v / 4 % 2 = 1 then (if v / 16 = 1 then 20 else 4) else (if v / 16 = 1 then 16 else 0)) ∧ (v < 4 → bits BinOp.or .i64 v 4 = v + 4) ∧ (v < 8 → bits BinOp.or .i64 v 8 = v + 8) ∧ (v < 16 → bits BinOp.or .i64 v 16 = v + 16) := by
 have := List.all_eq_true.1 qqs v.toNat (by simp; omega)
 rw [show ((v.toNat : Nat) : Int) = v from by omega] at this
 simp only [Bool.and_eq_true, beq_iff_eq, Bool.or_eq_true, decide_eq_true_eq] at this
 obtain ⟨a, b, c, d, e⟩ := this
 exact ⟨a, b, fun h => c.resolve_left (by omega), fun h => d.resolve_left (by omega), fun h => e.resolve_left (by omega)⟩
theorem qgy (v : Int) (h0 : 0 ≤ v) (h1 : v < 256) : z8 1 v = true := (qbA 1 v).2 ⟨by omega, by omega, h0, by simpa using h1⟩
theorem qh3 (v : Int) (h0 : 0 ≤ v) (h1 : v < 256) : be (Int.toNat (1 : Int)) v = [v] := be1 v h0 h1
theorem qog (l : List Int) (id inc st lo hi : Int) (cut : Bool) (bag : LF) (qe : Int) (qb : LR) (hb : ∀ x ∈ bag, 0 ≤ x.1 ∧ x.1 ≤ 255 ∧ x.2.length ≤ 1000000) (hn : bag.length < 1000000) :
  ∀ (k i : Nat) (acc : List Int), i ≤ bag.length → bag.length - i < k → acc.length + 2000000 * (bag.length - i) ≤ 1000000000000 →
  qc.l17 BIG l id inc st lo hi cut bag qe qb k (bag.length : Int) (i : Int) acc = some (acc ++ (bag.drop i).flatMap qbl) := by
 intro k
 induction k with
 | zero => intro i acc h1 h2; omega
 | succ k ih =>
  intro i acc h1 h2 h3
  rw [qc.l17_at BIG (k + 1) k rfl]
  unfold qc.b17
  simp only [veil_eq]
  by_cases hi' : i < bag.length
  ·rw [if_pos (by simp; omega), Qh, List.getElem?_eq_getElem hi']
   dsimp only
   obtain ⟨t0, t1, t2⟩ := hb bag[i] (List.getElem_mem hi')
   rw [List.drop_eq_getElem_cons hi', List.flatMap_cons]
   generalize bag[i] = x at t0 t1 t2 ⊢
   have hl := qaq (x.2.length : Int)
   rw [if_pos ⟨qgy _ t0 (by omega), (qby _).2 (by omega)⟩, qh3 _ t0 (by omega), qjk.pure _ _ (by intro v hv; simp at hv; omega) (by simp) (by simp; omega)]
   dsimp only
   simp only [List.flatMap_cons, List.flatMap_nil, List.append_nil]
   rw [Raw.pure _ _ (by simp; omega)]
   dsimp only
   rw [qV _ (by omega) (by omega), show ((i : Int) + 1) = ((i + 1 : Nat) : Int) from by omega, ih (i + 1) _ (by omega) (by omega) (by simp; omega)]
   simp [qbl]
  ·rw [if_neg (by simp; omega), List.drop_of_length_le (by omega)]
   simp
theorem qqJ (l : List Int) (id inc st lo hi : Int) (cut : Bool) (bag : LF) (qe : Int) (qb : LR) (v : Int) (acc : List Int) (a1 old a3 a4 a5 : Int) (a6 : Bool) (a7 : LF)
  (hb : ∀ x ∈ bag, 0 ≤ x.1 ∧ x.1 ≤ 255 ∧ x.2.length ≤ 1000000) (hn : bag.length < 10000) (hi0 : 0 ≤ inc) (hi1 : inc ≤ 281474976710655) (ho0 : 0 ≤ old) (ho1 : old ≤ 281474976710655) (hv0 : 0 ≤ v) (hv1 : v < 32) (hl : acc.length ≤ 100000000000) :
  qc.l13 BIG l id inc st lo hi cut bag qe qb BIG v acc a1 old a3 a4 a5 a6 a7 = some (acc ++ (vi (qba (inc - old)) ++ (if v / 4 % 2 = 1 ∨ v / 16 = 1 then [] else qbZ bag))) := by
 rw [qc.l13_at BIG BIG (BIG - 1) qaI]
 unfold qc.b13
 simp only [veil_eq]
 have hz : 0 ≤ qba (inc - old) ∧ qba (inc - old) < 1000000000000000000 := by unfold qba; split <;> omega
 have hlz := qaq (qba (inc - old))
 rw [qV _ (by omega) (by omega), Zig.pure _ (by omega) (by omega)]
 dsimp only
 rw [Of.pure _ hz.1 (by omega)]
 dsimp only
 rw [Raw.pure _ _ (by omega)]
 dsimp only
 rw [(qgx v hv0 hv1).2.1]
 by_cases h4 : v / 4 % 2 = 1
 ·rw [if_pos h4, if_pos (by split <;> decide), if_pos (.inl h4)]
  simp
 ·rw [if_neg h4]
  by_cases h16 : v / 16 = 1
  ·rw [if_pos h16, if_pos (by decide), if_pos (.inr h16)]
   simp
  ·rw [if_neg h16, if_neg (by decide), if_neg (by omega), qjk.pure _ _ (by intro x hx; simp at hx; omega) (by simp) (by simp; omega)]
   dsimp only
   simp only [List.flatMap_cons, List.flatMap_nil, List.append_nil]
   have hlb := qaq (bag.length : Int)
   have := qog l id inc st lo hi cut bag qe qb hb (by omega) BIG 0 (acc ++ vi (qba (inc - old)) ++ vi (bag.length : Int)) (by omega) (by rw [qaj]; omega) (by simp; omega)
   rw [show ((0 : Nat) : Int) = 0 from rfl, List.drop_zero] at this
   rw [this]
   simp [qbZ]
theorem qrQ (l : List Int) (id inc st lo hi : Int) (cut : Bool) (bag : LF) (qe : Int) (qb : LR) (v : Int) (a1 old a3 a4 a5 : Int) (a6 : Bool) (a7 : LF)
  (hb : ∀ x ∈ bag, 0 ≤ x.1 ∧ x.1 ≤ 255 ∧ x.2.length ≤ 1000000) (hn : bag.length < 10000) (hi0 : 0 ≤ inc) (hi1 : inc ≤ 281474976710655) (ho0 : 0 ≤ old) (ho1 : old ≤ 281474976710655) (hv0 : 0 ≤ v) (hv1 : v < 32) (hl : l.length ≤ 10000000000)
  (hs : okS lo hi = true) (hid : id ≤ 4095) (hlast : -1 ≤ qe) (hlt : qe < id) :
  qc.l9 BIG l id inc st lo hi cut bag qe qb BIG v a1 old a3 a4 a5 a6 a7 = some (l ++ (vi (id - qe - 1) ++ (v :: ((if v / 8 % 2 = 1 then [] else [lo * 16 + hi]) ++ (vi (qba (inc - old)) ++ (if v / 4 % 2 = 1 ∨ v / 16 = 1 then [] else qbZ bag)))))) := by
 rw [qc.l9_at BIG BIG (BIG - 1) qaI]
 unfold qc.b9
 simp only [veil_eq]
 have hlv := qaq (id - qe - 1)
 have hs' := (qag _ _).1 hs
 rw [qV (id - qe) (by omega) (by omega), qV (id - qe - 1) (by omega) (by omega), qjk.pure _ _ (by intro x hx; simp at hx; omega) (by simp) (by simp; omega)]
 dsimp only
 simp only [List.flatMap_cons, List.flatMap_nil, List.append_nil]
 rw [if_pos ⟨qgy _ hv0 (by omega), (qby _).2 (by simp; omega)⟩, (qgx v hv0 hv1).1, qh3 v hv0 (by omega), qet hs]
 by_cases h8 : v / 8 % 2 = 1
 ·rw [if_pos h8, if_neg (by decide), qqJ _ _ _ _ _ _ _ _ _ _ _ _ _ _ _ _ _ _ _ hb hn hi0 hi1 ho0 ho1 hv0 hv1 (by simp; omega), if_pos h8]
  simp
 ·rw [if_neg h8, if_pos (by decide), if_pos ⟨qgy _ (by omega) (by omega), (qby _).2 (by simp; omega)⟩, qh3 _ (by omega) (by omega), qqJ _ _ _ _ _ _ _ _ _ _ _ _ _ _ _ _ _ _ _ hb hn hi0 hi1 ho0 ho1 hv0 hv1 (by simp; omega), if_neg h8]
  simp
theorem qi8 {qb : LR} {id : Int} : (zC qb id).2 = false ∧ (zC qb id).1 = (0, 0, 0, (0, 0), false, []) ∨ (zC qb id).2 = true ∧ (zC qb id).1 ∈ qb ∧ (zC qb id).1.1 = id := by
 unfold zC
 cases h : qb.find? (fun r => r.1 == id) with
 | none => exact .inl ⟨rfl, rfl⟩
 | some r => exact .inr ⟨rfl, List.mem_of_find?_eq_some h, by have := List.find?_some h; simpa using this⟩
theorem qni {qb : LR} (h : ∀ r ∈ qb, zw r = true) (hn : qb.length < 1000000000) : qmp qb := by
 refine ⟨hn, fun r hr => ?_⟩
 have hb := (zE (h r hr)).2.2.2.2.2.2.2.1
 have hl := Za hb
 exact ⟨by omega, fun x hx => by have := qbm hb x hx; omega⟩
theorem put.pure (l : List Int) (r : REC) (qe : Int) (qb : LR) (hr : zw r = true) (Qz : ∀ x ∈ qb, zw x = true) (hbn : qb.length < 1000000000) (hlast : -1 ≤ qe) (hlt : qe < r.1) (hl : l.length ≤ 10000000000) :
  qc.f BIG l r.1 r.2.1 r.2.2.1 r.2.2.2.1.1 r.2.2.2.1.2 r.2.2.2.2.1 r.2.2.2.2.2 qe qb = some (l ++ qc4 (zC qb r.1) qe r) := by
 obtain ⟨f1, f2, f3, f4, f5, f6, f7, f8, f9⟩ := zE hr
 have hbl := Za f8
 have hbt := qbm f8
 have hb : ∀ x ∈ r.2.2.2.2.2, 0 ≤ x.1 ∧ x.1 ≤ 255 ∧ x.2.length ≤ 1000000 := fun x hx => by have := hbt x hx; omega
 have hold : 0 ≤ (zC qb r.1).1.2.1 ∧ (zC qb r.1).1.2.1 ≤ 281474976710655 ∧ zo (zC qb r.1).1.2.2.2.2.2 = true := by
  rcases qi8 (qb := qb) (id := r.1) with ⟨_, h⟩ | ⟨_, h, _⟩
  ·rw [h]; exact ⟨by simp, by simp, rfl⟩
  ·have := zE (Qz _ h)
   have hb2 := Za this.2.2.2.2.2.2.2.1
   exact ⟨this.2.2.1, this.2.2.2.1, (Z6 _).2 ⟨by omega, fun x hx => by have := qbm this.2.2.2.2.2.2.2.1 x hx; omega⟩⟩
 have hsb : zo r.2.2.2.2.2 = true := (Z6 _).2 ⟨by omega, fun x hx => by have := hbt x hx; omega⟩
 unfold qc.f qc.b
 simp only [veil_eq]
 rw [qqE.pure qb r.1 (qni Qz hbn)]
 dsimp only
 unfold qc4 qeA qbF qbS
 generalize zC qb r.1 = o at hold ⊢
 obtain ⟨o0, o1, o2⟩ := hold
 -- what comes behind the first flag
 have h9 : ∀ v a1 a3 a4 a5 a6 a7, 0 ≤ v → v < 32 → qc.l9 BIG l r.1 r.2.1 r.2.2.1 r.2.2.2.1.1 r.2.2.2.1.2 r.2.2.2.2.1 r.2.2.2.2.2 qe qb BIG v a1 o.1.2.1 a3 a4 a5 a6 a7 = _ :=
  fun v a1 a3 a4 a5 a6 a7 hv0 hv1 => qrQ l r.1 r.2.1 r.2.2.1 r.2.2.2.1.1 r.2.2.2.1.2 r.2.2.2.2.1 r.2.2.2.2.2 qe qb v a1 o.1.2.1 a3 a4 a5 a6 a7 hb (by omega) f3 f4 o0 o1 hv0 hv1 hl f7 f2 hlast hlt
 have h7 : ∀ v, 0 ≤ v → v < 16 → qc.l7 BIG l r.1 r.2.1 r.2.2.1 r.2.2.2.1.1 r.2.2.2.1.2 r.2.2.2.2.1 r.2.2.2.2.2 qe qb BIG o.2 v o.1.1 o.1.2.1 o.1.2.2.1 o.1.2.2.2.1.1 o.1.2.2.2.1.2 o.1.2.2.2.2.1 o.1.2.2.2.2.2 =
   qc.l9 BIG l r.1 r.2.1 r.2.2.1 r.2.2.2.1.1 r.2.2.2.1.2 r.2.2.2.2.1 r.2.2.2.2.2 qe qb BIG (v + if (o.2 && (!r.2.2.2.2.1 && ZH o.1.2.2.2.2.2 r.2.2.2.2.2 == 0)) = true then 16 else 0) o.1.1 o.1.2.1 o.1.2.2.1 o.1.2.2.2.1.1 o.1.2.2.2.1.2 o.1.2.2.2.2.1 o.1.2.2.2.2.2 := by
  intro v hv0 hv1
  rw [qc.l7_at BIG BIG (BIG - 1) qaI]
  unfold qc.b7
  cases o.2
  ·simp
  ·cases r.2.2.2.2.1
   ·simp only [Bool.not_false, if_true, o2, hsb, Bool.and_self, Bool.true_and]
    by_cases hc : ZH o.1.2.2.2.2.2 r.2.2.2.2.2 = 0
    ·simp only [hc, beq_self_eq_true, if_true]
     rw [(qgx v hv0 (by omega)).2.2.2.2 hv1]
    ·have : (ZH o.1.2.2.2.2.2 r.2.2.2.2.2 == 0) = false := by simpa using hc
     simp [this]
   ·simp
 have h5 : ∀ v, 0 ≤ v → v < 8 → qc.l5 BIG l r.1 r.2.1 r.2.2.1 r.2.2.2.1.1 r.2.2.2.1.2 r.2.2.2.2.1 r.2.2.2.2.2 qe qb BIG o.2 v o.1.1 o.1.2.1 o.1.2.2.1 o.1.2.2.2.1.1 o.1.2.2.2.1.2 o.1.2.2.2.2.1 o.1.2.2.2.2.2 =
   qc.l7 BIG l r.1 r.2.1 r.2.2.1 r.2.2.2.1.1 r.2.2.2.1.2 r.2.2.2.2.1 r.2.2.2.2.2 qe qb BIG o.2 (v + if (o.2 && (o.1.2.2.2.1.1 == r.2.2.2.1.1 && o.1.2.2.2.1.2 == r.2.2.2.1.2)) = true then 8 else 0) o.1.1 o.1.2.1 o.1.2.2.1 o.1.2.2.2.1.1 o.1.2.2.2.1.2 o.1.2.2.2.2.1 o.1.2.2.2.2.2 := by
  intro v hv0 hv1
  rw [qc.l5_at BIG BIG (BIG - 1) qaI]
  unfold qc.b5
  cases o.2
  ·simp
  ·cases h1 : (o.1.2.2.2.1.1 == r.2.2.2.1.1)
   ·simp
   ·cases h2 : (o.1.2.2.2.1.2 == r.2.2.2.1.2)
    ·simp
    ·simp only [if_true, Bool.and_self]
     rw [(qgx v hv0 (by omega)).2.2.2.1 hv1]
 have hst : ∀ A : Int → Option (List Int), (if r.2.2.2.2.1 then A (bits BinOp.or .i64 r.2.2.1 4) else A r.2.2.1) = A (r.2.2.1 + if r.2.2.2.2.1 then 4 else 0) := by
  intro A
  cases r.2.2.2.2.1
  ·simp
  ·simp only [if_true]
   rw [(qgx r.2.2.1 f5 (by omega)).2.2.1 (by omega)]
 rw [hst (fun v => qc.l5 BIG l r.1 r.2.1 r.2.2.1 r.2.2.2.1.1 r.2.2.2.1.2 r.2.2.2.2.1 r.2.2.2.2.2 qe qb BIG o.2 v o.1.1 o.1.2.1 o.1.2.2.1 o.1.2.2.2.1.1 o.1.2.2.2.1.2 o.1.2.2.2.2.1 o.1.2.2.2.2.2)]
 generalize hs1 : (o.2 && (o.1.2.2.2.1.1 == r.2.2.2.1.1 && o.1.2.2.2.1.2 == r.2.2.2.1.2)) = s1 at h5 ⊢
 generalize hs2 : (o.2 && (!r.2.2.2.2.1 && ZH o.1.2.2.2.2.2 r.2.2.2.2.2 == 0)) = s2 at h7 ⊢
 have hcut : s2 = true → r.2.2.2.2.1 = false := by
  intro h
  rw [← hs2] at h
  simp at h
  exact h.2.1
 rw [h5 _ (by split <;> omega) (by split <;> omega), h7 _ (by split <;> split <;> omega) (by split <;> split <;> omega), h9 _ _ _ _ _ _ _ (by split <;> split <;> split <;> omega) (by split <;> split <;> split <;> omega)]
 congr 2
 congr 1
 generalize r.2.2.2.2.1 = c at hcut ⊢
 generalize r.2.2.1 = st at f5 f6 ⊢
 have hst4 : st = 0 ∨ st = 1 ∨ st = 2 ∨ st = 3 := by omega
 cases c <;> cases s1 <;> cases s2 <;> rcases hst4 with rfl | rfl | rfl | rfl <;> first | rfl | simp at hcut
theorem qoN : ∀ (j k : Nat) (v : Int), 0 ≤ v → v < 128 ^ (k + 1) → (viF j v).length ≤ k + 1
 | 0, k, v, _, _ => by simp [viF]
 | j + 1, k, v, h0, h => by
  rw [viF]
  split
  ·rename_i hc
   cases k with
   | zero => simp at h; omega
   | succ k =>
    have := qoN j k (v / 128) (by omega) (by rw [Int.pow_succ] at h; generalize (128 : Int) ^ (k + 1) = M at h ⊢; omega)
    simp; omega
  ·simp
theorem qqI (k : Nat) (v : Int) (h0 : 0 ≤ v) (h : v < 128 ^ (k + 1)) : (vi v).length ≤ k + 1 := qoN 9 k v h0 h
def ZQ (qb : LR) : Int → LR → List Int
 | _, [] => []
 | qe, r :: rs => qc4 (zC qb r.1) qe r ++ ZQ qb r.1 rs
def qot (qk qz inc lo hi seq qp qW qK qb : Int) (n : Int) : List Int :=
 qk :: (vi qz ++ (vi inc ++ ((lo * 16 + hi) :: ((if qv qk 0 then vi seq else []) ++ ((if qv qk 1 then vi qp else []) ++ ((if qv qk 2 then vi qW ++ vi qK else []) ++ ((if qv qk 3 then vi qb else []) ++ (if qv qk 4 then vi n else []))))))))
def qa3 (qb : Int) (l : LR) : LR := if qb == 0 then [] else l
def qbP (qk qz inc lo hi seq qp qW qK qb : Int) (qd : LR) (l : LR) : List Int :=
 qot qk qz inc lo hi seq qp qW qK qb (qd.length : Int) ++ ZQ (qa3 qb l) (-1) qd
theorem qqq {x : Int × List Int} (h : x.2.length ≤ 4096) : (qbl x).length ≤ 3 + x.2.length := by
 have := qqI 1 (x.2.length : Int) (by omega) (by simp; omega)
 simp [qbl]; omega
theorem qlq : ∀ (b : LF), (∀ x ∈ b, x.2.length ≤ 4096) → (((b.flatMap qbl).length : Nat) : Int) ≤ ZU b
 | [], _ => by simp [ZU]
 | x :: b, h => by
  have h1 := qqq (h x (by simp))
  have h2 := qlq b fun y hy => h y (by simp [hy])
  have e : ZU (x :: b) = 3 + x.2.length + ZU b := by simp [ZU]
  rw [List.flatMap_cons, List.length_append, e]
  omega
theorem qqC {b : LF} (h : qbQ b = true) : ((qbZ b).length : Int) ≤ 1 + ZU b := by
 have hl := Za h
 have ht := qbm h
 have h1 := qqI 0 (b.length : Int) (by omega) (by simp; omega)
 have h2 := qlq b fun x hx => (ht x hx).2.2
 unfold qbZ
 rw [List.length_append]
 omega
def qfP : Int → LR → Prop
 | _, [] => True
 | qe, r :: rs => qe < r.1 ∧ qfP r.1 rs
theorem qjo : ∀ (l : LR) (i qe : Int), (qdG l i qe).1 = i + (l.length : Int) → qfP qe l
 | [], _, _, _ => trivial
 | x :: l, i, qe, h => by
  unfold qdG at h
  split at h
  ·simp at h; omega
  ·rename_i hc
   simp only [Bool.or_eq_true, not_or, Bool.not_eq_true', Bool.not_eq_false] at hc
   exact ⟨by simpa using hc.2, qjo l (i + 1) x.1 (by simp only [List.length_cons] at h; omega)⟩
theorem qbR {l : LR} (h : Qs l = true) : (∀ r ∈ l, zw r = true) ∧ qfP (-1) l := by
 unfold Qs at h
 have h' : (qdG l 0 (-1)).1 = 0 + (l.length : Int) := by simpa using h
 exact ⟨qiQ l 0 (-1) h', qjo l 0 (-1) h'⟩
theorem qdc {qk qW qK qb : Int} (h : qah qk qW qK qb = true) : 0 ≤ qW ∧ qW ≤ 281474976710655 ∧ 0 ≤ qK ∧ qK ≤ 65535 ∧ 0 ≤ qb ∧ qb ≤ 65535 ∧ (qv qk 2 = false → qW = 0 ∧ qK = 0) ∧ (qv qk 3 = false → qb = 0) ∧ (qb = 0 ∨ qb < qK) ∧ (qK = 0 → qW = 0 ∧ qk ≠ 9) := by
 unfold qah at h
 split at h
 ·cases h
 rename_i c1
 split at h
 ·cases h
 rename_i c2
 simp only [Bool.or_eq_true, Bool.not_eq_true', not_or, Bool.not_eq_false] at c1
 have w1 := qfe c1.1 (by omega)
 have w2 := qfe c1.2 (by omega)
 simp only [Bool.or_eq_true, Bool.and_eq_true, beq_iff_eq, decide_eq_true_eq, bne_iff_ne, ne_eq] at h c2
 refine ⟨w1.1, w1.2, w2.1, w2.2, by omega, by omega, ?_, ?_, by omega, ?_⟩
 ·intro h2
  rw [h2] at c1
  simp [zU] at c1
  exact ⟨c1.1, c1.2⟩
 ·intro h3
  rw [h3] at h
  simpa using h
 ·intro he
  refine ⟨?_, ?_⟩
  ·exact Classical.byContradiction fun hl => c2 ⟨he, .inl hl⟩
  ·exact fun hk => c2 ⟨he, .inr hk⟩
theorem qgC {qk qz inc lo hi seq qp qW qK qb : Int} {qd : LR} (h : q0 qk qz inc lo hi seq qp qW qK qb qd = true) :
  (qv qk 4 = false → qd = []) ∧ qfP (-1) qd := by
 unfold q0 at h
 have h1 : ((ofF qk).1.toList == (⟨#[]⟩ : ByteArray).toList || (decide (qz < 0) || (decide (qz > 4095) || (decide (inc < 0) || (decide (inc > 281474976710655) || !okS lo hi))))) = false := by
  cases hc : ((ofF qk).1.toList == (⟨#[]⟩ : ByteArray).toList || (decide (qz < 0) || (decide (qz > 4095) || (decide (inc < 0) || (decide (inc > 281474976710655) || !okS lo hi))))) with
  | false => rfl
  | true => rw [hc] at h; cases h
 rw [h1] at h
 have h2 : (!zU (qv qk 0) seq 0 65535 || (!zU (qv qk 1) qp (if qk == 3 then 1 else 0) (if qk == 3 then 3 else 4095) || !qah qk qW qK qb)) = false := by
  cases hc : (!zU (qv qk 0) seq 0 65535 || (!zU (qv qk 1) qp (if qk == 3 then 1 else 0) (if qk == 3 then 3 else 4095) || !qah qk qW qK qb)) with
  | false => rfl
  | true => rw [hc] at h; cases h
 rw [h2] at h
 simp only [Bool.false_eq_true, if_false] at h
 cases h4 : qv qk 4
 ·rw [h4] at h
  have : qd = [] := List.eq_nil_of_length_eq_zero (by simpa using h)
  subst this
  exact ⟨fun _ => rfl, trivial⟩
 ·rw [h4] at h
  simp at h
  exact ⟨by simp, (qbR h.2).2⟩
theorem qp8 {o : REC × Bool} {r : REC} {qe : Int} (hr : zw r = true) : (qc4 o qe r).length ≤ 5000 := by
 obtain ⟨f1, f2, f3, f4, f5, f6, f7, f8, f9⟩ := zE hr
 have a1 := qaq (r.1 - qe - 1)
 have a2 := qaq (qba (r.2.1 - o.1.2.1))
 have a3 := qqC f8
 have a4 := Za f8
 unfold qc4
 simp only [List.length_append, List.length_cons]
 have e1 : (if qbF o r = true then ([] : List Int) else [r.2.2.2.1.1 * 16 + r.2.2.2.1.2]).length ≤ 1 := by split <;> simp
 have e2 : (if (r.2.2.2.2.1 || qbS o r) = true then ([] : List Int) else qbZ r.2.2.2.2.2).length ≤ 4300 := by
  split
  ·simp
  ·omega
 omega
theorem qqj (qk qz inc lo hi seq qp qW qK qb : Int) (qd l base' : LR) (hr : ∀ r ∈ qd, zw r = true) (hb : ∀ r ∈ base', zw r = true) (hbn : base'.length < 1000000000) (hn : qd.length ≤ 1000) :
  ∀ (k i : Nat) (qe : Int) (acc : List Int), i ≤ qd.length → qd.length - i < k → -1 ≤ qe → qfP qe (qd.drop i) → acc.length + 5000 * (qd.length - i) ≤ 1000000000 →
  zF.l19 BIG qk qz inc lo hi seq qp qW qK qb qd l k base' qe (qd.length : Int) (i : Int) acc = some (acc ++ ZQ base' qe (qd.drop i)) := by
 intro k
 induction k with
 | zero => intro i qe acc h1 h2; omega
 | succ k ih =>
  intro i qe acc h1 h2 h3 h4 h5
  rw [zF.l19]
  unfold zF.b19
  simp only [veil_eq]
  by_cases hi' : i < qd.length
  ·rw [if_pos (by simp; omega), Qh, List.getElem?_eq_getElem hi']
   dsimp only
   have hm := hr qd[i] (List.getElem_mem hi')
   rw [List.drop_eq_getElem_cons hi'] at h4 ⊢
   generalize qd[i] = r at hm h4 ⊢
   obtain ⟨h6, h7⟩ := h4
   have hlen := qp8 (o := zC base' r.1) (qe := qe) hm
   rw [put.pure acc r qe base' hm hb hbn h3 h6 (by omega)]
   dsimp only
   have hid := (zE hm).1
   rw [qV _ (by omega) (by omega), show ((i : Int) + 1) = ((i + 1 : Nat) : Int) from by omega, ih (i + 1) r.1 _ (by omega) (by omega) (by omega) h7 (by simp; omega)]
   simp [ZQ]
  ·rw [if_neg (by simp; omega), List.drop_of_length_le (by omega), if_pos ((qby _).2 (by omega))]
   simp [ZQ]
theorem qpp {qk : Int} (h1 : 1 ≤ qk) (h2 : qk ≤ 9) : z8 1 qk = true := qgy qk (by omega) (by omega)
theorem qrL (l : List Int) (a : Int) (h0 : 0 ≤ a) (h1 : a < 9223372036854775808) (hl : l.length ≤ 1000000) : qi.f BIG l [a] = some (l ++ vi a) := by
 rw [qjk.pure l [a] (by intro v hv; simp at hv; omega) (by simp) (by simp; omega)]
 simp
theorem qqN (l : List Int) (a b : Int) (h0 : 0 ≤ a) (h1 : a < 9223372036854775808) (h2 : 0 ≤ b) (h3 : b < 9223372036854775808) (hl : l.length ≤ 1000000) : qi.f BIG l [a, b] = some (l ++ (vi a ++ vi b)) := by
 rw [qjk.pure l [a, b] (by intro v hv; simp at hv; omega) (by simp) (by simp; omega)]
 simp
set_option maxHeartbeats 4000000 in
theorem lay.pure (qk qz inc lo hi seq qp qW qK qb : Int) (qd l : LR) (hv : q0 qk qz inc lo hi seq qp qW qK qb qd = true) (hl : ∀ r ∈ l, zw r = true) (hln : l.length < 1000000000) :
  zF.f BIG qk qz inc lo hi seq qp qW qK qb qd l = some (qbP qk qz inc lo hi seq qp qW qK qb qd l) := by
 obtain ⟨v1, v2, v3, v4, v5, v6, v7, v8, v9, v10, v11, v12, v13, v14⟩ := Qj hv
 obtain ⟨w1, w2, w3, w4, w5, w6, _⟩ := qdc v12
 obtain ⟨_, hris⟩ := qgC hv
 have hs := (qag _ _).1 v7
 have n1 := qaq qz
 have n2 := qaq inc
 have n3 := qaq seq
 have n4 := qaq qp
 have n5 := qaq qW
 have n6 := qaq qK
 have n7 := qaq qb
 have n8 := qaq (qd.length : Int)
 have hlp : ∀ (base' : LR) (hb : ∀ r ∈ base', zw r = true) (hbn : base'.length < 1000000000) (acc : List Int), acc.length ≤ 1000 → zF.l19 BIG qk qz inc lo hi seq qp qW qK qb qd l BIG base' (-1) (qd.length : Int) 0 acc = some (acc ++ ZQ base' (-1) qd) := by
  intro base' hb hbn acc ha
  have := qqj qk qz inc lo hi seq qp qW qK qb qd l base' v14 hb hbn (by omega) BIG 0 (-1) acc (by omega) (by rw [qaj]; omega) (by omega) (by simpa using hris) (by omega)
  simpa using this
 have hb0 : ∀ acc : List Int, acc.length ≤ 1000 → zF.l19 BIG qk qz inc lo hi seq qp qW qK qb qd l BIG [] (-1) (qd.length : Int) 0 acc = some (acc ++ ZQ [] (-1) qd) := fun acc ha => hlp [] (by simp) (by simp) acc ha
 have hb1 : ∀ acc : List Int, acc.length ≤ 1000 → zF.l19 BIG qk qz inc lo hi seq qp qW qK qb qd l BIG l (-1) (qd.length : Int) 0 acc = some (acc ++ ZQ l (-1) qd) := fun acc ha => hlp l hl hln acc ha
 clear hlp
 unfold zF.f zF.b
 simp only [veil_eq]
 rw [qpp v1 v2, qh3 qk (by omega) (by omega), qet v7, qgy (lo * 16 + hi) (by omega) (by omega), qh3 (lo * 16 + hi) (by omega) (by omega), qqN [qk] qz inc (by omega) (by omega) (by omega) (by omega) (by simp)]
 dsimp only
 have hro : Zf ([qk] ++ (vi qz ++ vi inc)) = true := (qby _).2 (by simp; omega)
 unfold qbP qot qa3
 simp only [if_true, hro, and_self]
 cases hb : (qb == 0) <;> cases h0 : qv qk 0 <;> cases h1 : qv qk 1 <;> cases h2 : qv qk 2 <;> cases h3 : qv qk 3 <;> cases h4 : qv qk 4 <;>
  simp only [Bool.false_eq_true, if_false, if_true] <;>
  repeat (first | (rw [qrL _ _ (by omega) (by omega) (by simp; omega)]; dsimp only) | (rw [qqN _ _ _ (by omega) (by omega) (by omega) (by omega) (by simp; omega)]; dsimp only))
 all_goals (first | rw [hb0 _ (by simp; omega)] | rw [hb1 _ (by simp; omega)])
 all_goals simp
def qrw (qk qz inc lo hi seq qp qW qK qb : Int) (qd l : LR) : Int :=
 if q0 qk qz inc lo hi seq qp qW qK qb qd && Qs l then ((qbP qk qz inc lo hi seq qp qW qK qb qd l).length : Int) else 0
def qc5 (qk qz inc lo hi seq qp qW qK qb : Int) (qd l : LR) : List Int × Int :=
 if q0 qk qz inc lo hi seq qp qW qK qb qd && Qs l then (if (qbP qk qz inc lo hi seq qp qW qK qb qd l).length > 65499 then ([], 14) else (qbP qk qz inc lo hi seq qp qW qK qb qd l, 0)) else ([], 1)
theorem qrV.pure (qk qz inc lo hi seq qp qW qK qb : Int) (qd l : LR) (hr : za qd = true) (hl : za l = true) (hln : l.length < 1000000000) :
  Q7.f BIG qk qz inc lo hi seq qp qW qK qb qd l = some ((qc5 qk qz inc lo hi seq qp qW qK qb qd l).1, (qc5 qk qz inc lo hi seq qp qW qK qb qd l).2) := by
 unfold Q7.f Q7.b qc5
 simp only [veil_eq]
 rw [hr, hl]
 cases hv : q0 qk qz inc lo hi seq qp qW qK qb qd
 ·rfl
 ·cases hs : Qs l
  ·rfl
  ·rw [lay.pure qk qz inc lo hi seq qp qW qK qb qd l hv (qbR hs).1 hln]
   simp only [Bool.not_true, Bool.false_eq_true, if_false, if_true, Bool.and_self]
   by_cases hc : (qbP qk qz inc lo hi seq qp qW qK qb qd l).length > 65499
   ·rw [if_pos (by simp; omega), if_pos hc]
   ·rw [if_neg (by simp; omega), if_neg hc]
def qrl (qk qz inc lo hi seq qp qW qK qb : Int) (qd : LR) (gen : Int) : Int :=
 if gen == 1 then 15 + 5 * (qd.length : Int) else if gen == 2 then qex qk qz inc lo hi seq qp qW qK qb qd else qrw qk qz inc lo hi seq qp qW qK qb qd []
def qqS (qk qz inc lo hi seq qp qW qK qb : Int) (qd : LR) (gen : Int) : Bool := q0 qk qz inc lo hi seq qp qW qK qb qd && (decide (gen ≥ 1) && decide (gen ≤ 3))
theorem qpH (qb : Int) : qa3 qb [] = [] := by unfold qa3; split <;> rfl
theorem qoD (v : Int) (h0 : 0 ≤ v) (h1 : v < 256) : IntKind.wrap .u8 v = v := by rw [qgh]; omega
theorem qqV : ∀ (p : List Int) (k : Nat) (top : Bool) (c : Int) (s : List Int), (∀ x ∈ p, 128 ≤ x) → p.length ≤ k → c < 128 →
  (pv top k (p ++ [c]) = none ∧ pv top k (p ++ c :: s) = none) ∨ ∃ v, pv top k (p ++ [c]) = some (v, []) ∧ pv top k (p ++ c :: s) = some (v, s) := by
 intro p
 induction p with
 | nil =>
  intro k top c s hp hk hc
  cases k with
  | zero =>
   simp only [List.nil_append, pv]
   by_cases h1 : c > 1
   ·rw [if_pos h1, if_pos h1]; exact Or.inl ⟨rfl, rfl⟩
   ·rw [if_neg h1, if_neg h1]
    by_cases h2 : c = 0
    ·rw [if_pos h2, if_pos h2]; exact Or.inl ⟨rfl, rfl⟩
    ·rw [if_neg h2, if_neg h2]; exact Or.inr ⟨c, rfl, rfl⟩
  | succ k =>
   simp only [List.nil_append, pv]
   rw [if_pos hc, if_pos hc]
   by_cases h2 : c = 0 ∧ top = false
   ·rw [if_pos h2, if_pos h2]; exact Or.inl ⟨rfl, rfl⟩
   ·rw [if_neg h2, if_neg h2]; exact Or.inr ⟨c, rfl, rfl⟩
 | cons x p ih =>
  intro k top c s hp hk hc
  cases k with
  | zero => simp at hk
  | succ k =>
   have hx : 128 ≤ x := hp x (List.mem_cons_self ..)
   simp only [List.cons_append, pv]
   rw [if_neg (by omega), if_neg (by omega)]
   rcases ih k false c s (fun y h => hp y (List.mem_cons_of_mem _ h)) (by simpa using hk) hc with ⟨a, b⟩ | ⟨v, a, b⟩
   ·rw [a, b]; exact Or.inl ⟨rfl, rfl⟩
   ·rw [a, b]; exact Or.inr ⟨_, rfl, rfl⟩
theorem qnc : ∀ (p : List Int) (k : Nat) (top : Bool) (s : List Int), (∀ x ∈ p, 128 ≤ x) → p.length = k + 1 → pv top k (p ++ s) = none := by
 intro p
 induction p with
 | nil => intro k top s hp hk; simp at hk
 | cons x p ih =>
  intro k top s hp hk
  have hx : 128 ≤ x := hp x (List.mem_cons_self ..)
  cases k with
  | zero =>
   simp only [List.cons_append, pv]
   rw [if_pos (by omega)]
  | succ k =>
   simp only [List.cons_append, pv]
   rw [if_neg (by omega), ih k false s (fun y h => hp y (List.mem_cons_of_mem _ h)) (by simpa using hk)]
theorem qqb : ∀ (p : List Int) (k : Nat) (top : Bool), (∀ x ∈ p, 128 ≤ x) → p.length ≤ k → pv top k p = none := by
 intro p
 induction p with
 | nil => intro k top hp hk; cases k <;> rfl
 | cons x p ih =>
  intro k top hp hk
  have hx : 128 ≤ x := hp x (List.mem_cons_self ..)
  cases k with
  | zero => simp at hk
  | succ k =>
   rw [pv, if_neg (by omega), ih k false (fun y h => hp y (List.mem_cons_of_mem _ h)) (by simpa using hk)]
theorem qcG (l : List Int) (a : Nat) (h : a < l.length) : qy l 1 (a : Int) false = (l[a], ((a + 1 : Nat) : Int), false) := by
 unfold qy
 have hn : (if (decide ((1 : Int) < 1) || decide ((1 : Int) > 7)) = true then (-1 : Int) else 1) = 1 := by decide
 simp only [hn]
 have hs : zd l 1 (a : Int) false = (seg l a 1, true, (a : Int) + 1, false) := by
  unfold zd
  rw [if_neg (by decide), if_neg (by simp; omega)]
 rw [hs]
 dsimp only
 rw [if_pos rfl]
 have e : seg l (a : Int) 1 = [l[a]] := by
  unfold seg
  rw [show ((a : Int) + 1).toNat = a + 1 from by omega, Int.toNat_natCast, List.take_succ_eq_append_getElem h, List.drop_append_of_le_length (by simp; omega), List.drop_of_length_le (by simp; omega)]
  rfl
 rw [e]
 simp [QY]
theorem qcH (l : List Int) (a : Nat) (h : l.length ≤ a) : qy l 1 (a : Int) false = (0, (a : Int), true) := by
 unfold qy
 have hn : (if (decide ((1 : Int) < 1) || decide ((1 : Int) > 7)) = true then (-1 : Int) else 1) = 1 := by decide
 simp only [hn]
 have hs : zd l 1 (a : Int) false = ([], false, (a : Int), true) := by
  unfold zd
  rw [if_neg (by decide), if_pos (by simp; omega)]
 rw [hs]
 rfl
theorem qhM (l : List Int) (a : Int) : qy l 1 a true = (0, a, true) := by
 unfold qy zd
 simp
def Got (bs : List Int) (a0 : Nat) (zk : Int) (o : Option (Int × Bool × List Int × Int × Bool)) : Prop :=
 ∃ (v : Int) (ok : Bool) (a : Nat) (bad : Bool), o = some (v, ok, bs, (a : Int), bad) ∧ a ≤ bs.length ∧
  match pV (bs.drop a0) with
  | some (w, r) => if w ≤ zk then v = w ∧ ok = true ∧ bad = false ∧ bs.drop a = r else ok = false ∧ v = 0
  | none => ok = false ∧ v = 0
theorem qmB.loop (qa : Nat) (bs : List Int) (a0 : Nat) (bad0 : Bool) (zk : Int) (hb : inB bs = true) (m0 : 0 ≤ zk) (m1 : zk < 9223372036854775808) : ∀ (j k : Nat) (a : Nat) (p : List Int), p.length + j = 10 → j < k → (∀ x ∈ p, 128 ≤ x ∧ x ≤ 255) → bs.drop a0 = p ++ bs.drop a → a ≤ bs.length →
  Got bs a0 zk (zh.l2 qa bs (a0 : Int) bad0 zk k (a : Int) false p) := by
 obtain ⟨hl, hc⟩ := (QP bs).1 hb
 have gp : ∀ q : List Int, (∀ x ∈ q, 0 ≤ x ∧ x ≤ 255) → q.length ≤ 10 → _ := fun q h1 h2 => Get.pure q h1 (by omega)
 intro j
 induction j with
 | zero =>
  intro k a p hj hk hp hd ha
  obtain ⟨k, rfl⟩ : ∃ k', k = k' + 1 := ⟨k - 1, by omega⟩
  rw [zh.l2]
  unfold zh.b2
  simp only [veil_eq]
  rw [if_neg (by simp; omega)]
  have hn : pV (bs.drop a0) = none := by rw [hd]; exact qnc p 9 true _ (fun x h => (hp x h).1) (by omega)
  have hq := gp p (fun x h => ⟨by have := hp x h; omega, (hp x h).2⟩) (by omega)
  have hn2 : pV p = none := by have := qnc p 9 true [] (fun x h => (hp x h).1) (by omega); simpa [pV] using this
  rw [hn2] at hq
  obtain ⟨e, he, hq⟩ := hq
  rw [hq]
  dsimp only
  rw [if_pos (by rcases he with rfl | rfl <;> rfl)]
  refine ⟨0, false, a, false, rfl, ha, ?_⟩
  rw [hn]
  exact ⟨rfl, rfl⟩
 | succ j ih =>
  intro k a p hj hk hp hd ha
  obtain ⟨k, rfl⟩ : ∃ k', k = k' + 1 := ⟨k - 1, by omega⟩
  rw [zh.l2]
  unfold zh.b2
  simp only [veil_eq]
  rw [if_pos (by simp; omega), if_pos ((zI _ _).2 ⟨hb, by omega, by omega⟩)]
  by_cases hlt : a < bs.length
  ·rw [qcG bs a hlt]
   dsimp only
   rw [if_neg (by simp), if_pos (by simp [lim]; omega)]
   obtain ⟨c0, c1⟩ := hc _ (List.getElem_mem hlt)
   have hda : bs.drop a = bs[a] :: bs.drop (a + 1) := (List.getElem_cons_drop hlt).symm
   generalize bs[a] = c at c0 c1 hda ⊢
   rw [qoD c c0 (by omega)]
   by_cases h128 : c < 128
   ·rw [if_pos (by simpa using h128)]
    have hq := gp (p ++ [c]) (fun x h => by
     rcases List.mem_append.1 h with h | h
     ·have := hp x h; omega
     ·rw [List.mem_singleton.1 h]; omega) (by simp; omega)
    rcases qqV p 9 true c (bs.drop (a + 1)) (fun x h => (hp x h).1) (by omega) h128 with ⟨e1, e2⟩ | ⟨v, e1, e2⟩
    ·have e1 : pV (p ++ [c]) = none := e1
     rw [e1] at hq
     obtain ⟨e, he, hq⟩ := hq
     rw [hq]
     dsimp only
     rw [if_pos (by rcases he with rfl | rfl <;> rfl)]
     refine ⟨0, false, a + 1, false, rfl, by omega, ?_⟩
     rw [hd, hda, show pV (p ++ c :: bs.drop (a + 1)) = none from e2]
     exact ⟨rfl, rfl⟩
    ·have e1 : pV (p ++ [c]) = some (v, []) := e1
     rw [e1] at hq
     dsimp only at hq
     rw [hq]
     dsimp only
     have hv := ql9 (l := p ++ [c]) (fun x h => by
      rcases List.mem_append.1 h with h | h
      ·have := hp x h; omega
      ·rw [List.mem_singleton.1 h]; omega) e1
     rw [if_neg (by decide), if_neg (by simpa using m0), Z4 _ m0 (by omega)]
     by_cases hm : v > zk
     ·rw [if_pos (by simpa using hm)]
      refine ⟨0, false, a + 1, false, rfl, by omega, ?_⟩
      rw [hd, hda, show pV (p ++ c :: bs.drop (a + 1)) = some (v, bs.drop (a + 1)) from e2]
      dsimp only
      rw [if_neg (by omega)]
      exact ⟨rfl, rfl⟩
     ·rw [if_neg (by simpa using hm), qV v (by omega) (by omega)]
      refine ⟨v, true, a + 1, false, rfl, by omega, ?_⟩
      rw [hd, hda, show pV (p ++ c :: bs.drop (a + 1)) = some (v, bs.drop (a + 1)) from e2]
      dsimp only
      rw [if_pos (by omega)]
      exact ⟨rfl, rfl, rfl, rfl⟩
   ·rw [if_neg (by simpa using h128)]
    exact ih k (a + 1) (p ++ [c]) (by simp; omega) (by omega) (fun x h => by
     rcases List.mem_append.1 h with h | h
     ·exact hp x h
     ·rw [List.mem_singleton.1 h]; omega) (by rw [hd, hda]; simp) (by omega)
  ·rw [qcH bs a (by omega)]
   dsimp only
   rw [if_pos rfl]
   refine ⟨0, false, a, true, rfl, ha, ?_⟩
   rw [hd, List.drop_of_length_le (by omega), List.append_nil, show pV p = none from qqb p 9 true (fun x h => (hp x h).1) (by omega)]
   exact ⟨rfl, rfl⟩
theorem qmB.pure (bs : List Int) (a0 : Nat) (zk : Int) (hb : inB bs = true) (m0 : 0 ≤ zk) (m1 : zk < 9223372036854775808) (ha : a0 ≤ bs.length) :
  Got bs a0 zk (zh.f BIG bs (a0 : Int) false zk) := by
 unfold zh.f zh.b
 exact qmB.loop BIG bs a0 false zk hb m0 m1 10 BIG a0 [] rfl (by rw [qaj]; omega) (by simp) rfl ha
theorem qmB.bad (bs : List Int) (a0 : Nat) (zk : Int) (hb : inB bs = true) (ha : a0 ≤ bs.length) :
  zh.f BIG bs (a0 : Int) true zk = some (0, false, bs, (a0 : Int), true) := by
 unfold zh.f zh.b
 rw [qaI, zh.l2]
 unfold zh.b2
 simp only [veil_eq]
 rw [if_pos (by simp), if_pos ((zI _ _).2 ⟨hb, by omega, by omega⟩), qhM]
 rfl
def qeH : Env := ⟨th, gam [(76, Q1), (41, qaa), (98, zK), (52, Zc), (107, Qu), (84, qaA)], fun i => ⟨[], [], []⟩⟩
def zX.k (rs : List AV) (os : List Den.Obj) : Option (Int × Int × Int × Int × Int × Int × Int × Int × Int × Int × LR × Bool × (List Int) × Int × Bool) :=
 match rs, os with
 | [.agg [.d (.int .i64) r0, .d (.int .i64) r1, .d (.int .i64) r2, .d (.int .i64) r3, .d (.int .i64) r4, .d (.int .i64) r5, .d (.int .i64) r6, .d (.int .i64) r7, .d (.int .i64) r8, .d (.int .i64) r9, .d (.sl (.pair (.int .i64) (.pair (.int .i64) (.pair (.int .i64) (.pair (.pair (.int .i64) (.int .i64)) (.pair .bool (.sl (.pair (.int .i64) (.sl (.int .u8)))))))))) r10]], [.box [.ptr 1 0, .d .bool r11], .box [.d (.sl (.int .u8)) r12, .d (.int .i64) r13, .d .bool r14]] => some (r0, r1, r2, r3, r4, r5, r6, r7, r8, r9, r10, r11, r12, r13, r14)
 | _, _ => none
def zX.b (bs : List Int) (at0 : Int) (bad qY : Bool) : Option (Int × Int × Int × Int × Int × Int × Int × Int × Int × Int × LR × Bool × (List Int) × Int × Bool) :=
 (if (zq bs at0) then (match (veil (Option.some (qy bs (1 : Int) at0 bad))) with | none => none | some y0 => (match (veil (qD.f BIG bs y0.2.1 y0.2.2 qY (4095 : Int))) with | none => none | some y1 => (match (veil (qD.f BIG y1.2.2.1 y1.2.2.2.1 y1.2.2.2.2 y1.2.1 (veil (281474976710655 : Int)))) with | none => none | some y2 => (match (veil (zm.f BIG y2.2.2.1 y2.2.2.2.1 y2.2.2.2.2 y2.2.1)) with | none => none | some y3 => (if (qv y0.1 (0 : Int)) then (match (veil (qD.f BIG y3.2.2.2.1 y3.2.2.2.2.1 y3.2.2.2.2.2 y3.2.2.1 (65535 : Int))) with | none => none | some y4 => (if (qv y0.1 (1 : Int)) then (match (veil (qD.f BIG y4.2.2.1 y4.2.2.2.1 y4.2.2.2.2 y4.2.1 (4095 : Int))) with | none => none | some y5 => (if (qv y0.1 (2 : Int)) then (match (veil (qD.f BIG y5.2.2.1 y5.2.2.2.1 y5.2.2.2.2 y5.2.1 (veil (281474976710655 : Int)))) with | none => none | some y6 => (match (veil (qD.f BIG y6.2.2.1 y6.2.2.2.1 y6.2.2.2.2 y6.2.1 (65535 : Int))) with | none => none | some y7 => (if (qv y0.1 (3 : Int)) then (match (veil (qD.f BIG y7.2.2.1 y7.2.2.2.1 y7.2.2.2.2 y7.2.1 (65535 : Int))) with | none => none | some y8 => (if y8.2.2.2.2 then some (y0.1, y1.1, y2.1, y3.1, y3.2.1, y4.1, y5.1, y6.1, y7.1, y8.1, ([] : LR), true, y8.2.2.1, y8.2.2.2.1, y8.2.2.2.2) else (if (!(q0 y0.1 y1.1 y2.1 y3.1 y3.2.1 y4.1 y5.1 y6.1 y7.1 y8.1 ([] : LR))) then some (y0.1, y1.1, y2.1, y3.1, y3.2.1, y4.1, y5.1, y6.1, y7.1, y8.1, ([] : LR), true, y8.2.2.1, y8.2.2.2.1, y8.2.2.2.2) else some (y0.1, y1.1, y2.1, y3.1, y3.2.1, y4.1, y5.1, y6.1, y7.1, y8.1, ([] : LR), y8.2.1, y8.2.2.1, y8.2.2.2.1, y8.2.2.2.2)))) else (if y7.2.2.2.2 then some (y0.1, y1.1, y2.1, y3.1, y3.2.1, y4.1, y5.1, y6.1, y7.1, 0, ([] : LR), true, y7.2.2.1, y7.2.2.2.1, y7.2.2.2.2) else (if (!(q0 y0.1 y1.1 y2.1 y3.1 y3.2.1 y4.1 y5.1 y6.1 y7.1 0 ([] : LR))) then some (y0.1, y1.1, y2.1, y3.1, y3.2.1, y4.1, y5.1, y6.1, y7.1, 0, ([] : LR), true, y7.2.2.1, y7.2.2.2.1, y7.2.2.2.2) else some (y0.1, y1.1, y2.1, y3.1, y3.2.1, y4.1, y5.1, y6.1, y7.1, 0, ([] : LR), y7.2.1, y7.2.2.1, y7.2.2.2.1, y7.2.2.2.2)))))) else (if (qv y0.1 (3 : Int)) then (match (veil (qD.f BIG y5.2.2.1 y5.2.2.2.1 y5.2.2.2.2 y5.2.1 (65535 : Int))) with | none => none | some y9 => (if y9.2.2.2.2 then some (y0.1, y1.1, y2.1, y3.1, y3.2.1, y4.1, y5.1, 0, 0, y9.1, ([] : LR), true, y9.2.2.1, y9.2.2.2.1, y9.2.2.2.2) else (if (!(q0 y0.1 y1.1 y2.1 y3.1 y3.2.1 y4.1 y5.1 0 0 y9.1 ([] : LR))) then some (y0.1, y1.1, y2.1, y3.1, y3.2.1, y4.1, y5.1, 0, 0, y9.1, ([] : LR), true, y9.2.2.1, y9.2.2.2.1, y9.2.2.2.2) else some (y0.1, y1.1, y2.1, y3.1, y3.2.1, y4.1, y5.1, 0, 0, y9.1, ([] : LR), y9.2.1, y9.2.2.1, y9.2.2.2.1, y9.2.2.2.2)))) else (if y5.2.2.2.2 then some (y0.1, y1.1, y2.1, y3.1, y3.2.1, y4.1, y5.1, 0, 0, 0, ([] : LR), true, y5.2.2.1, y5.2.2.2.1, y5.2.2.2.2) else (if (!(q0 y0.1 y1.1 y2.1 y3.1 y3.2.1 y4.1 y5.1 0 0 0 ([] : LR))) then some (y0.1, y1.1, y2.1, y3.1, y3.2.1, y4.1, y5.1, 0, 0, 0, ([] : LR), true, y5.2.2.1, y5.2.2.2.1, y5.2.2.2.2) else some (y0.1, y1.1, y2.1, y3.1, y3.2.1, y4.1, y5.1, 0, 0, 0, ([] : LR), y5.2.1, y5.2.2.1, y5.2.2.2.1, y5.2.2.2.2)))))) else (if (qv y0.1 (2 : Int)) then (match (veil (qD.f BIG y4.2.2.1 y4.2.2.2.1 y4.2.2.2.2 y4.2.1 (veil (281474976710655 : Int)))) with | none => none | some y10 => (match (veil (qD.f BIG y10.2.2.1 y10.2.2.2.1 y10.2.2.2.2 y10.2.1 (65535 : Int))) with | none => none | some y11 => (if (qv y0.1 (3 : Int)) then (match (veil (qD.f BIG y11.2.2.1 y11.2.2.2.1 y11.2.2.2.2 y11.2.1 (65535 : Int))) with | none => none | some y12 => (if y12.2.2.2.2 then some (y0.1, y1.1, y2.1, y3.1, y3.2.1, y4.1, 0, y10.1, y11.1, y12.1, ([] : LR), true, y12.2.2.1, y12.2.2.2.1, y12.2.2.2.2) else (if (!(q0 y0.1 y1.1 y2.1 y3.1 y3.2.1 y4.1 0 y10.1 y11.1 y12.1 ([] : LR))) then some (y0.1, y1.1, y2.1, y3.1, y3.2.1, y4.1, 0, y10.1, y11.1, y12.1, ([] : LR), true, y12.2.2.1, y12.2.2.2.1, y12.2.2.2.2) else some (y0.1, y1.1, y2.1, y3.1, y3.2.1, y4.1, 0, y10.1, y11.1, y12.1, ([] : LR), y12.2.1, y12.2.2.1, y12.2.2.2.1, y12.2.2.2.2)))) else (if y11.2.2.2.2 then some (y0.1, y1.1, y2.1, y3.1, y3.2.1, y4.1, 0, y10.1, y11.1, 0, ([] : LR), true, y11.2.2.1, y11.2.2.2.1, y11.2.2.2.2) else (if (!(q0 y0.1 y1.1 y2.1 y3.1 y3.2.1 y4.1 0 y10.1 y11.1 0 ([] : LR))) then some (y0.1, y1.1, y2.1, y3.1, y3.2.1, y4.1, 0, y10.1, y11.1, 0, ([] : LR), true, y11.2.2.1, y11.2.2.2.1, y11.2.2.2.2) else some (y0.1, y1.1, y2.1, y3.1, y3.2.1, y4.1, 0, y10.1, y11.1, 0, ([] : LR), y11.2.1, y11.2.2.1, y11.2.2.2.1, y11.2.2.2.2)))))) else (if (qv y0.1 (3 : Int)) then (match (veil (qD.f BIG y4.2.2.1 y4.2.2.2.1 y4.2.2.2.2 y4.2.1 (65535 : Int))) with | none => none | some y13 => (if y13.2.2.2.2 then some (y0.1, y1.1, y2.1, y3.1, y3.2.1, y4.1, 0, 0, 0, y13.1, ([] : LR), true, y13.2.2.1, y13.2.2.2.1, y13.2.2.2.2) else (if (!(q0 y0.1 y1.1 y2.1 y3.1 y3.2.1 y4.1 0 0 0 y13.1 ([] : LR))) then some (y0.1, y1.1, y2.1, y3.1, y3.2.1, y4.1, 0, 0, 0, y13.1, ([] : LR), true, y13.2.2.1, y13.2.2.2.1, y13.2.2.2.2) else some (y0.1, y1.1, y2.1, y3.1, y3.2.1, y4.1, 0, 0, 0, y13.1, ([] : LR), y13.2.1, y13.2.2.1, y13.2.2.2.1, y13.2.2.2.2)))) else (if y4.2.2.2.2 then some (y0.1, y1.1, y2.1, y3.1, y3.2.1, y4.1, 0, 0, 0, 0, ([] : LR), true, y4.2.2.1, y4.2.2.2.1, y4.2.2.2.2) else (if (!(q0 y0.1 y1.1 y2.1 y3.1 y3.2.1 y4.1 0 0 0 0 ([] : LR))) then some (y0.1, y1.1, y2.1, y3.1, y3.2.1, y4.1, 0, 0, 0, 0, ([] : LR), true, y4.2.2.1, y4.2.2.2.1, y4.2.2.2.2) else some (y0.1, y1.1, y2.1, y3.1, y3.2.1, y4.1, 0, 0, 0, 0, ([] : LR), y4.2.1, y4.2.2.1, y4.2.2.2.1, y4.2.2.2.2))))))) else (if (qv y0.1 (1 : Int)) then (match (veil (qD.f BIG y3.2.2.2.1 y3.2.2.2.2.1 y3.2.2.2.2.2 y3.2.2.1 (4095 : Int))) with | none => none | some y14 => (if (qv y0.1 (2 : Int)) then (match (veil (qD.f BIG y14.2.2.1 y14.2.2.2.1 y14.2.2.2.2 y14.2.1 (veil (281474976710655 : Int)))) with | none => none | some y15 => (match (veil (qD.f BIG y15.2.2.1 y15.2.2.2.1 y15.2.2.2.2 y15.2.1 (65535 : Int))) with | none => none | some y16 => (if (qv y0.1 (3 : Int)) then (match (veil (qD.f BIG y16.2.2.1 y16.2.2.2.1 y16.2.2.2.2 y16.2.1 (65535 : Int))) with | none => none | some y17 => (if y17.2.2.2.2 then some (y0.1, y1.1, y2.1, y3.1, y3.2.1, 0, y14.1, y15.1, y16.1, y17.1, ([] : LR), true, y17.2.2.1, y17.2.2.2.1, y17.2.2.2.2) else (if (!(q0 y0.1 y1.1 y2.1 y3.1 y3.2.1 0 y14.1 y15.1 y16.1 y17.1 ([] : LR))) then some (y0.1, y1.1, y2.1, y3.1, y3.2.1, 0, y14.1, y15.1, y16.1, y17.1, ([] : LR), true, y17.2.2.1, y17.2.2.2.1, y17.2.2.2.2) else some (y0.1, y1.1, y2.1, y3.1, y3.2.1, 0, y14.1, y15.1, y16.1, y17.1, ([] : LR), y17.2.1, y17.2.2.1, y17.2.2.2.1, y17.2.2.2.2)))) else (if y16.2.2.2.2 then some (y0.1, y1.1, y2.1, y3.1, y3.2.1, 0, y14.1, y15.1, y16.1, 0, ([] : LR), true, y16.2.2.1, y16.2.2.2.1, y16.2.2.2.2) else (if (!(q0 y0.1 y1.1 y2.1 y3.1 y3.2.1 0 y14.1 y15.1 y16.1 0 ([] : LR))) then some (y0.1, y1.1, y2.1, y3.1, y3.2.1, 0, y14.1, y15.1, y16.1, 0, ([] : LR), true, y16.2.2.1, y16.2.2.2.1, y16.2.2.2.2) else some (y0.1, y1.1, y2.1, y3.1, y3.2.1, 0, y14.1, y15.1, y16.1, 0, ([] : LR), y16.2.1, y16.2.2.1, y16.2.2.2.1, y16.2.2.2.2)))))) else (if (qv y0.1 (3 : Int)) then (match (veil (qD.f BIG y14.2.2.1 y14.2.2.2.1 y14.2.2.2.2 y14.2.1 (65535 : Int))) with | none => none | some y18 => (if y18.2.2.2.2 then some (y0.1, y1.1, y2.1, y3.1, y3.2.1, 0, y14.1, 0, 0, y18.1, ([] : LR), true, y18.2.2.1, y18.2.2.2.1, y18.2.2.2.2) else (if (!(q0 y0.1 y1.1 y2.1 y3.1 y3.2.1 0 y14.1 0 0 y18.1 ([] : LR))) then some (y0.1, y1.1, y2.1, y3.1, y3.2.1, 0, y14.1, 0, 0, y18.1, ([] : LR), true, y18.2.2.1, y18.2.2.2.1, y18.2.2.2.2) else some (y0.1, y1.1, y2.1, y3.1, y3.2.1, 0, y14.1, 0, 0, y18.1, ([] : LR), y18.2.1, y18.2.2.1, y18.2.2.2.1, y18.2.2.2.2)))) else (if y14.2.2.2.2 then some (y0.1, y1.1, y2.1, y3.1, y3.2.1, 0, y14.1, 0, 0, 0, ([] : LR), true, y14.2.2.1, y14.2.2.2.1, y14.2.2.2.2) else (if (!(q0 y0.1 y1.1 y2.1 y3.1 y3.2.1 0 y14.1 0 0 0 ([] : LR))) then some (y0.1, y1.1, y2.1, y3.1, y3.2.1, 0, y14.1, 0, 0, 0, ([] : LR), true, y14.2.2.1, y14.2.2.2.1, y14.2.2.2.2) else some (y0.1, y1.1, y2.1, y3.1, y3.2.1, 0, y14.1, 0, 0, 0, ([] : LR), y14.2.1, y14.2.2.1, y14.2.2.2.1, y14.2.2.2.2)))))) else (if (qv y0.1 (2 : Int)) then (match (veil (qD.f BIG y3.2.2.2.1 y3.2.2.2.2.1 y3.2.2.2.2.2 y3.2.2.1 (veil (281474976710655 : Int)))) with | none => none | some y19 => (match (veil (qD.f BIG y19.2.2.1 y19.2.2.2.1 y19.2.2.2.2 y19.2.1 (65535 : Int))) with | none => none | some y20 => (if (qv y0.1 (3 : Int)) then (match (veil (qD.f BIG y20.2.2.1 y20.2.2.2.1 y20.2.2.2.2 y20.2.1 (65535 : Int))) with | none => none | some y21 => (if y21.2.2.2.2 then some (y0.1, y1.1, y2.1, y3.1, y3.2.1, 0, 0, y19.1, y20.1, y21.1, ([] : LR), true, y21.2.2.1, y21.2.2.2.1, y21.2.2.2.2) else (if (!(q0 y0.1 y1.1 y2.1 y3.1 y3.2.1 0 0 y19.1 y20.1 y21.1 ([] : LR))) then some (y0.1, y1.1, y2.1, y3.1, y3.2.1, 0, 0, y19.1, y20.1, y21.1, ([] : LR), true, y21.2.2.1, y21.2.2.2.1, y21.2.2.2.2) else some (y0.1, y1.1, y2.1, y3.1, y3.2.1, 0, 0, y19.1, y20.1, y21.1, ([] : LR), y21.2.1, y21.2.2.1, y21.2.2.2.1, y21.2.2.2.2)))) else (if y20.2.2.2.2 then some (y0.1, y1.1, y2.1, y3.1, y3.2.1, 0, 0, y19.1, y20.1, 0, ([] : LR), true, y20.2.2.1, y20.2.2.2.1, y20.2.2.2.2) else (if (!(q0 y0.1 y1.1 y2.1 y3.1 y3.2.1 0 0 y19.1 y20.1 0 ([] : LR))) then some (y0.1, y1.1, y2.1, y3.1, y3.2.1, 0, 0, y19.1, y20.1, 0, ([] : LR), true, y20.2.2.1, y20.2.2.2.1, y20.2.2.2.2) else some (y0.1, y1.1, y2.1, y3.1, y3.2.1, 0, 0, y19.1, y20.1, 0, ([] : LR), y20.2.1, y20.2.2.1, y20.2.2.2.1, y20.2.2.2.2)))))) else (if (qv y0.1 (3 : Int)) then (match (veil (qD.f BIG y3.2.2.2.1 y3.2.2.2.2.1 y3.2.2.2.2.2 y3.2.2.1 (65535 : Int))) with | none => none | some y22 => (if y22.2.2.2.2 then some (y0.1, y1.1, y2.1, y3.1, y3.2.1, 0, 0, 0, 0, y22.1, ([] : LR), true, y22.2.2.1, y22.2.2.2.1, y22.2.2.2.2) else (if (!(q0 y0.1 y1.1 y2.1 y3.1 y3.2.1 0 0 0 0 y22.1 ([] : LR))) then some (y0.1, y1.1, y2.1, y3.1, y3.2.1, 0, 0, 0, 0, y22.1, ([] : LR), true, y22.2.2.1, y22.2.2.2.1, y22.2.2.2.2) else some (y0.1, y1.1, y2.1, y3.1, y3.2.1, 0, 0, 0, 0, y22.1, ([] : LR), y22.2.1, y22.2.2.1, y22.2.2.2.1, y22.2.2.2.2)))) else (if y3.2.2.2.2.2 then some (y0.1, y1.1, y2.1, y3.1, y3.2.1, 0, 0, 0, 0, 0, ([] : LR), true, y3.2.2.2.1, y3.2.2.2.2.1, y3.2.2.2.2.2) else (if (!(q0 y0.1 y1.1 y2.1 y3.1 y3.2.1 0 0 0 0 0 ([] : LR))) then some (y0.1, y1.1, y2.1, y3.1, y3.2.1, 0, 0, 0, 0, 0, ([] : LR), true, y3.2.2.2.1, y3.2.2.2.2.1, y3.2.2.2.2.2) else some (y0.1, y1.1, y2.1, y3.1, y3.2.1, 0, 0, 0, 0, 0, ([] : LR), y3.2.2.1, y3.2.2.2.1, y3.2.2.2.2.1, y3.2.2.2.2.2))))))))))) else none)
def zX.f (qa : Nat) (bs : List Int) (at0 : Int) (bad qY : Bool) : Option (Int × Int × Int × Int × Int × Int × Int × Int × Int × Int × LR × Bool × (List Int) × Int × Bool) := zX.b bs at0 bad qY
theorem zX.eq (qa : Nat) (bs : List Int) (at0 : Int) (bad qY : Bool) : (denF qeH loopN qa Tryz.f74 [.dat (.pair tQi (.pair tQi (.pair tQi (.pair (.pair tQi tQi) (.pair tQi (.pair tQi (.pair tQi (.pair tQi (.pair tQi (.sl tQr)))))))))) true] [.ptr 0 0] [.box [.ptr 1 0, .d .bool qY], .box [.d (.sl (.int .u8)) bs, .d tQi at0, .d .bool bad]] zX.k) = zX.f qa bs at0 bad qY := by
 kernel_rfl
def ZK : Den.Sum := ⟨[.pb [.frz none [0] 0 (.int .u8)]], fun qH ql κ => match qH, ql with
 | [.ptr 0 0], [.box [.ptr 1 0, .d .bool qY], .box [.d (.sl (.int .u8)) bs, .d (.int .i64) at0, .d .bool bad]] => (match veil (zX.f BIG bs at0 bad qY) with | none => none | some y => κ [.agg [.d (.int .i64) y.1, .d (.int .i64) y.2.1, .d (.int .i64) y.2.2.1, .d (.int .i64) y.2.2.2.1, .d (.int .i64) y.2.2.2.2.1, .d (.int .i64) y.2.2.2.2.2.1, .d (.int .i64) y.2.2.2.2.2.2.1, .d (.int .i64) y.2.2.2.2.2.2.2.1, .d (.int .i64) y.2.2.2.2.2.2.2.2.1, .d (.int .i64) y.2.2.2.2.2.2.2.2.2.1, .d (.sl (.pair (.int .i64) (.pair (.int .i64) (.pair (.int .i64) (.pair (.pair (.int .i64) (.int .i64)) (.pair .bool (.sl (.pair (.int .i64) (.sl (.int .u8)))))))))) y.2.2.2.2.2.2.2.2.2.2.1]] [.box [.ptr 1 0, .d .bool y.2.2.2.2.2.2.2.2.2.2.2.1], .box [.d (.sl (.int .u8)) y.2.2.2.2.2.2.2.2.2.2.2.2.1, .d (.int .i64) y.2.2.2.2.2.2.2.2.2.2.2.2.2.1, .d .bool y.2.2.2.2.2.2.2.2.2.2.2.2.2.2]])
 | _, _ => none⟩
theorem qfY : SumDet ZK := zi fun _ _ _ _ => by
 unfold ZK
 simp only [veil_eq]
 split
 ·split <;> rfl
 ·rfl
theorem qgu : SumOk Tryz.prog 74 ZK := by
 have hE : EnvOk Tryz.prog qeH := env_ok (l := [(76, Q1), (41, qaa), (98, zK), (52, Zc), (107, Qu), (84, qaA)]) th_ok qX ⟨⟨qaY, qav⟩, ⟨qbJ, qa5⟩, ⟨qaf, Z7⟩, ⟨qaZ, qax⟩, ⟨qbV, qbK⟩, ⟨qcF, qb1⟩, trivial⟩ _
 refine sum_ok hE Tryz.func74 rfl (by kernel_rfl) ZK [.dat (.pair tQi (.pair tQi (.pair tQi (.pair (.pair tQi tQi) (.pair tQi (.pair tQi (.pair tQi (.pair tQi (.pair tQi (.sl tQr)))))))))) true] zX.k ?_
 intro R avs ql κ r h
 unfold ZK at h
 simp only [veil_eq] at h
 split at h
 ·rename_i qY bs at0 bad
  split at h
  ·cases h
  ·rename_i y hy
   refine ⟨BIG, _, _, _, (zX.eq BIG bs at0 bad qY).trans hy, ?_, h⟩
   intro rs ros hk
   unfold zX.k at hk
   split at hk
   ·rw [← sj hk]; exact ⟨rfl, rfl⟩
   ·cases hk
 ·cases h
def tk (bs : List Int) (a : Nat) (zk : Int) : Option (Int × Nat) :=
 match pV (bs.drop a) with
 | some (w, r) => if w ≤ zk then some (w, bs.length - r.length) else none
 | none => none
theorem qaO {bs : List Int} {a : Nat} {zk w : Int} {a2 : Nat} (hb : ∀ c ∈ bs, 0 ≤ c ∧ c ≤ 255) (h : tk bs a zk = some (w, a2)) : bs.drop a = vi w ++ bs.drop a2 ∧ 0 ≤ w ∧ w ≤ zk ∧ w < 18446744073709551616 ∧ a < a2 ∧ a2 ≤ bs.length := by
 unfold tk at h
 split at h
 ·rename_i v r hv
  split at h
  ·rename_i hm
   obtain ⟨rfl, rfl⟩ : v = w ∧ bs.length - r.length = a2 := by cases h; exact ⟨rfl, rfl⟩
   obtain ⟨e, v0, v1⟩ := ql9 (fun c hc => hb c (List.mem_of_mem_drop hc)) hv
   have hl := congrArg List.length e
   have h1 := (qaq v).1
   simp only [List.length_drop, List.length_append] at hl
   refine ⟨?_, v0, hm, v1, by omega, by omega⟩
   have e2 : bs = (bs.take a ++ vi v) ++ r := by rw [List.append_assoc, ← e, List.take_append_drop]
   have e3 : bs.length - r.length = (bs.take a ++ vi v).length := by simp; omega
   rw [e, e3]
   congr 1
   generalize bs.take a ++ vi v = q at e2
   rw [e2, List.drop_left]
  ·cases h
 ·cases h
theorem qru {bs : List Int} {a : Nat} {zk w : Int} {r : List Int} (h : bs.drop a = vi w ++ r) (h0 : 0 ≤ w) (h1 : w < 18446744073709551616) (hm : w ≤ zk) : tk bs a zk = some (w, bs.length - r.length) := by
 unfold tk
 rw [h, qqX r h0 h1]
 exact if_pos hm
theorem Got.tk {bs : List Int} {a0 : Nat} {zk : Int} {o : Option (Int × Bool × List Int × Int × Bool)} (h : Got bs a0 zk o) :
  match tk bs a0 zk with
  | some (w, a2) => o = some (w, true, bs, (a2 : Int), false)
  | none => ∃ (a : Nat) (bad : Bool), o = some (0, false, bs, (a : Int), bad) ∧ a ≤ bs.length := by
 obtain ⟨v, ok, a, bad, rfl, ha, h⟩ := h
 unfold Proofs.YtneiiplppcjjlaaGreatDoor.tk
 revert h
 cases hw : pV (bs.drop a0) with
 | none =>
  intro h
  obtain ⟨rfl, rfl⟩ := h
  exact ⟨a, bad, rfl, ha⟩
 | some x =>
  obtain ⟨w, r⟩ := x
  intro h
  dsimp only at h ⊢
  by_cases hm : w ≤ zk
  ·rw [if_pos hm] at h ⊢
   obtain ⟨rfl, rfl, rfl, rfl⟩ := h
   dsimp only
   rw [show bs.length - (bs.drop a).length = a from by simp; omega]
  ·rw [if_neg hm] at h ⊢
   obtain ⟨rfl, rfl⟩ := h
   exact ⟨a, bad, rfl, ha⟩
theorem qg3 (bs : List Int) (a : Int) (bad : Bool) (zk : Int) : qD.f BIG bs a bad true zk = some (0, true, bs, a, bad) := rfl
theorem qmk (bs : List Int) (a : Nat) (zk : Int) (hb : inB bs = true) (ha : a ≤ bs.length) : qD.f BIG bs (a : Int) true false zk = some (0, true, bs, (a : Int), true) := by
 unfold qD.f qD.b
 simp only [veil_eq]
 rw [if_neg (by simp), qmB.bad bs a zk hb ha]
 rfl
theorem qdD (bs : List Int) (a : Nat) (zk : Int) (hb : inB bs = true) (m0 : 0 ≤ zk) (m1 : zk < 9223372036854775808) (ha : a ≤ bs.length) :
  match tk bs a zk with
  | some (w, a2) => qD.f BIG bs (a : Int) false false zk = some (w, false, bs, (a2 : Int), false)
  | none => ∃ (a' : Nat) (bad : Bool), qD.f BIG bs (a : Int) false false zk = some (0, true, bs, (a' : Int), bad) ∧ a' ≤ bs.length := by
 have h := Got.tk (qmB.pure bs a zk hb m0 m1 ha)
 unfold qD.f qD.b
 simp only [veil_eq]
 rw [if_neg (by simp)]
 revert h
 cases tk bs a zk with
 | some p =>
  intro h
  obtain ⟨w, a2⟩ := p
  try dsimp only at h ⊢
  rw [h]
  all_goals rfl
 | none =>
  intro h
  obtain ⟨a', bad, h, h2⟩ := h
  refine ⟨a', bad, ?_, h2⟩
  rw [h]
  all_goals rfl
abbrev HD := Int × Int × Int × Int × Int × Int × Int × Int × Int × Int × LR × Bool × List Int × Int × Bool
def qce {R : Type} (c : Bool) (zk : Int) (wr : Bool) (bs : List Int) (a : Int) (bad : Bool) (k : Int → Bool → List Int → Int → Bool → Option R) : Option R :=
 if c then (match qD.f BIG bs a bad wr zk with
  | none => none
  | some y => k y.1 y.2.1 y.2.2.1 y.2.2.2.1 y.2.2.2.2)
 else k 0 wr bs a bad
def qqu (k f i lo hi s t l e b : Int) (wr : Bool) (bs : List Int) (a : Int) (bad : Bool) : Option HD :=
 if bad then some (k, f, i, lo, hi, s, t, l, e, b, [], true, bs, a, bad)
 else if (!(q0 k f i lo hi s t l e b [])) then some (k, f, i, lo, hi, s, t, l, e, b, [], true, bs, a, bad)
 else some (k, f, i, lo, hi, s, t, l, e, b, [], wr, bs, a, bad)
def qos (bs : List Int) (at0 : Int) (bad qY : Bool) : Option HD :=
 if zq bs at0 then
  qce true 4095 qY bs (qy bs 1 at0 bad).2.1 (qy bs 1 at0 bad).2.2 fun f w b1 a1 d1 =>
  qce true 281474976710655 w b1 a1 d1 fun i w b2 a2 d2 =>
  match zm.f BIG b2 a2 d2 w with
  | none => none
  | some y =>
   qce (qv (qy bs 1 at0 bad).1 0) 65535 y.2.2.1 y.2.2.2.1 y.2.2.2.2.1 y.2.2.2.2.2 fun s w b3 a3 d3 =>
   qce (qv (qy bs 1 at0 bad).1 1) 4095 w b3 a3 d3 fun t w b4 a4 d4 =>
   qce (qv (qy bs 1 at0 bad).1 2) 281474976710655 w b4 a4 d4 fun l w b5 a5 d5 =>
   qce (qv (qy bs 1 at0 bad).1 2) 65535 w b5 a5 d5 fun e w b6 a6 d6 =>
   qce (qv (qy bs 1 at0 bad).1 3) 65535 w b6 a6 d6 fun b w b7 a7 d7 =>
   qqu (qy bs 1 at0 bad).1 f i y.1 y.2.1 s t l e b w b7 a7 d7
 else none
theorem qq5 (bs : List Int) (at0 : Int) (bad qY : Bool) : zX.f BIG bs at0 bad qY = qos bs at0 bad qY := by
 unfold zX.f zX.b qos qce qqu
 simp only [veil_eq]
 generalize qv (qy bs 1 at0 bad).1 0 = h0
 generalize qv (qy bs 1 at0 bad).1 1 = h1
 generalize qv (qy bs 1 at0 bad).1 2 = h2
 generalize qv (qy bs 1 at0 bad).1 3 = h3
 cases h0 <;> cases h1 <;> cases h2 <;> cases h3 <;> rfl
def Rel (bs : List Int) (st : Option Nat) (wr : Bool) (a : Int) (bad : Bool) : Prop :=
 (∃ n : Nat, a = (n : Int) ∧ n ≤ bs.length) ∧ match st with
  | some n => wr = false ∧ bad = false ∧ a = (n : Int)
  | none => wr = true ∨ bad = true
def zp (bs : List Int) (c : Bool) (st : Option Nat) (zk : Int) : Int × Option Nat :=
 if c then (match st with
  | none => (0, none)
  | some a => match tk bs a zk with
   | some (w, a2) => (w, some a2)
   | none => (0, none))
 else (0, st)
theorem qak {R : Type} {bs : List Int} {st : Option Nat} {wr : Bool} {a : Int} {bad : Bool} (hb : inB bs = true) (h : Rel bs st wr a bad) (c : Bool) (zk : Int) (m0 : 0 ≤ zk) (m1 : zk < 9223372036854775808) (k : Int → Bool → List Int → Int → Bool → Option R) :
  ∃ wr' a' bad', qce c zk wr bs a bad k = k (zp bs c st zk).1 wr' bs a' bad' ∧ Rel bs (zp bs c st zk).2 wr' a' bad' := by
 obtain ⟨hl, hc⟩ := (QP bs).1 hb
 obtain ⟨⟨n, rfl, hn⟩, h⟩ := h
 cases c with
 | false => exact ⟨wr, n, bad, rfl, ⟨n, rfl, hn⟩, h⟩
 | true =>
  cases st with
  | none =>
   cases wr with
   | true => exact ⟨true, n, bad, rfl, ⟨n, rfl, hn⟩, Or.inl rfl⟩
   | false =>
    obtain rfl : bad = true := by rcases h with h | h; cases h; exact h
    refine ⟨true, n, true, ?_, ⟨n, rfl, hn⟩, Or.inl rfl⟩
    unfold qce
    rw [if_pos rfl, qmk bs n zk hb hn]
    rfl
  | some m =>
   obtain ⟨rfl, rfl, e⟩ := h
   obtain rfl : n = m := by omega
   have hg := qdD bs n zk hb m0 m1 hn
   unfold qce zp
   rw [if_pos rfl, if_pos rfl]
   dsimp only
   split at hg
   ·rename_i w a2 ht
    obtain ⟨_, _, _, _, _, h2⟩ := qaO hc ht
    rw [hg]
    try simp only [ht]
    exact ⟨false, a2, false, rfl, ⟨a2, rfl, h2⟩, rfl, rfl, rfl⟩
   ·rename_i ht
    obtain ⟨a', bad', hg, h2⟩ := hg
    rw [hg]
    try simp only [ht]
    exact ⟨true, a', bad', rfl, ⟨a', rfl, h2⟩, Or.inl rfl⟩
def spS (bs : List Int) (st : Option Nat) : Int × Int × Option Nat :=
 match st with
 | some n => (match bs[n]? with
  | some c => if okS (c / 16) (c % 16) then (c / 16, c % 16, some (n + 1)) else (0, 0, none)
  | none => (0, 0, none))
 | none => (0, 0, none)
theorem qqe : (List.range 256).all (fun n => (zR Qp (n : Int)).2.2 == okS ((n : Int) / 16) ((n : Int) % 16)) = true := by kernel_rfl
theorem qgV (c : Int) (h0 : 0 ≤ c) (h1 : c ≤ 255) : (zR Qp c).2.2 = okS (c / 16) (c % 16) := by
 have := List.all_eq_true.1 qqe c.toNat (by simp; omega)
 rw [show ((c.toNat : Nat) : Int) = c from by omega] at this
 simpa using this
theorem qiR {bs : List Int} {st : Option Nat} {wr : Bool} {a : Int} {bad : Bool} (hb : inB bs = true) (h : Rel bs st wr a bad) :
  ∃ lo hi wr' a' bad', zm.f BIG bs a bad wr = some (lo, hi, wr', bs, a', bad') ∧ Rel bs (spS bs st).2.2 wr' a' bad' ∧ ((spS bs st).2.2 ≠ none → lo = (spS bs st).1 ∧ hi = (spS bs st).2.1) := by
 obtain ⟨hl, hc⟩ := (QP bs).1 hb
 obtain ⟨⟨n, rfl, hn⟩, h⟩ := h
 have hat : zq bs (n : Int) = true := (zI _ _).2 ⟨hb, by omega, by omega⟩
 have ha' := (zI _ _).1 (QA bs 1 (n : Int) bad hat)
 have hex : ∃ m : Nat, (qy bs 1 (n : Int) bad).2.1 = (m : Int) ∧ m ≤ bs.length := ⟨(qy bs 1 (n : Int) bad).2.1.toNat, by omega, by omega⟩
 unfold zm.f zm.b
 simp only [veil_eq]
 rw [if_pos hat]
 cases wr with
 | true =>
  refine ⟨_, _, true, _, _, rfl, ⟨hex, ?_⟩, ?_⟩
  ·cases st with
   | none => exact Or.inl rfl
   | some m => exact absurd h.1 (by simp)
  ·cases st with
   | none => intro h; exact absurd rfl h
   | some m => exact absurd h.1 (by simp)
 | false =>
  cases st with
  | none =>
   obtain rfl : bad = true := by rcases h with h | h; cases h; exact h
   refine ⟨_, _, _, _, _, rfl, ⟨hex, ?_⟩, fun h => absurd rfl h⟩
   refine Or.inr ?_
   rw [qhM]
  | some m =>
   obtain ⟨_, rfl, e⟩ := h
   obtain rfl : n = m := by omega
   by_cases hlt : n < bs.length
   ·have hs : spS bs (some n) = if okS (bs[n] / 16) (bs[n] % 16) then (bs[n] / 16, bs[n] % 16, some (n + 1)) else (0, 0, none) := by
     unfold spS; dsimp only
     rw [List.getElem?_eq_getElem hlt]
    rw [hs]
    obtain ⟨c0, c1⟩ := hc _ (List.getElem_mem hlt)
    rw [qcG bs n hlt]
    dsimp only
    rw [if_neg (by simp)]
    have ht := qgV _ c0 c1
    have hd := qgW _ c0 c1
    generalize bs[n] = c at c0 c1 ht hd ⊢
    refine ⟨_, _, _, _, _, rfl, ?_, ?_⟩
    ·refine ⟨⟨n + 1, rfl, hlt⟩, ?_⟩
     rw [ht]
     cases ho : okS (c / 16) (c % 16) with
     | true => exact ⟨rfl, rfl, rfl⟩
     | false => exact Or.inl rfl
    ·cases ho : okS (c / 16) (c % 16) with
     | true => intro _; rw [hd.1 ho]; exact ⟨rfl, rfl⟩
     | false => intro h; exact absurd rfl h
   ·have hs : spS bs (some n) = (0, 0, none) := by
     unfold spS; dsimp only
     rw [List.getElem?_eq_none (by omega)]
    rw [hs, qcH bs n (by omega)]
    exact ⟨_, _, _, _, _, rfl, ⟨⟨n, rfl, hn⟩, Or.inr rfl⟩, fun h => absurd rfl h⟩
def qae (bs : List Int) : Option Nat := if 0 < bs.length then some 1 else none
def hdK (bs : List Int) : Int := bs.getD 0 0
def hdS (bs : List Int) : Option (Int × Int × Int × Int × Int × Int × Int × Int × Int × Int × Nat) :=
 let k := hdK bs
 let f := zp bs true (qae bs) 4095
 let i := zp bs true f.2 281474976710655
 let p := spS bs i.2
 let s := zp bs (qv k 0) p.2.2 65535
 let t := zp bs (qv k 1) s.2 4095
 let l := zp bs (qv k 2) t.2 281474976710655
 let e := zp bs (qv k 2) l.2 65535
 let b := zp bs (qv k 3) e.2 65535
 match b.2 with
 | none => none
 | some a => if q0 k f.1 i.1 p.1 p.2.1 s.1 t.1 l.1 e.1 b.1 [] then some (k, f.1, i.1, p.1, p.2.1, s.1, t.1, l.1, e.1, b.1, a) else none
theorem qa6 {bs : List Int} {c : Bool} {st : Option Nat} {zk : Int} (h : (zp bs c st zk).2 ≠ none) : st ≠ none := by
 intro e
 subst e
 cases c <;> exact h rfl
theorem head.pure (bs : List Int) (hb : inB bs = true) :
  match hdS bs with
  | some (k, f, i, lo, hi, s, t, l, e, b, a) => zX.f BIG bs 0 false false = some (k, f, i, lo, hi, s, t, l, e, b, [], false, bs, (a : Int), false) ∧ a ≤ bs.length ∧ q0 k f i lo hi s t l e b [] = true
  | none => ∃ k f i lo hi s t l e b a bad, zX.f BIG bs 0 false false = some (k, f, i, lo, hi, s, t, l, e, b, [], true, bs, a, bad) := by
 rw [qq5]
 unfold qos
 rw [if_pos ((zI _ _).2 ⟨hb, by omega, by omega⟩)]
 have h0 : (qy bs 1 0 false).1 = hdK bs ∧ Rel bs (qae bs) false (qy bs 1 0 false).2.1 (qy bs 1 0 false).2.2 := by
  unfold hdK qae
  by_cases h : 0 < bs.length
  ·rw [if_pos h, show (0 : Int) = ((0 : Nat) : Int) from rfl, qcG bs 0 h]
   refine ⟨?_, ⟨1, rfl, h⟩, rfl, rfl, rfl⟩
   simp [List.getD, List.getElem?_eq_getElem h]
  ·rw [if_neg h, show (0 : Int) = ((0 : Nat) : Int) from rfl, qcH bs 0 (by omega)]
   refine ⟨?_, ⟨0, rfl, by omega⟩, Or.inr rfl⟩
   simp [List.getD, List.getElem?_eq_none (show bs.length ≤ 0 by omega)]
 obtain ⟨e0, r0⟩ := h0
 rw [e0]
 obtain ⟨w1, a1, d1, e1, r1⟩ := qak hb r0 true 4095 (by decide) (by decide) _
 rw [e1]
 obtain ⟨w2, a2, d2, e2, r2⟩ := qak hb r1 true 281474976710655 (by decide) (by decide) _
 rw [e2]
 obtain ⟨lo, hi, w3, a3, d3, e3, r3, q3⟩ := qiR hb r2
 rw [e3]
 dsimp only
 obtain ⟨w4, a4, d4, e4, r4⟩ := qak hb r3 (qv (hdK bs) 0) 65535 (by decide) (by decide) _
 rw [e4]
 obtain ⟨w5, a5, d5, e5, r5⟩ := qak hb r4 (qv (hdK bs) 1) 4095 (by decide) (by decide) _
 rw [e5]
 obtain ⟨w6, a6, d6, e6, r6⟩ := qak hb r5 (qv (hdK bs) 2) 281474976710655 (by decide) (by decide) _
 rw [e6]
 obtain ⟨w7, a7, d7, e7, r7⟩ := qak hb r6 (qv (hdK bs) 2) 65535 (by decide) (by decide) _
 rw [e7]
 obtain ⟨w8, a8, d8, e8, r8⟩ := qak hb r7 (qv (hdK bs) 3) 65535 (by decide) (by decide) _
 rw [e8]
 have hs : (zp bs (qv (hdK bs) 3) (zp bs (qv (hdK bs) 2) (zp bs (qv (hdK bs) 2) (zp bs (qv (hdK bs) 1) (zp bs (qv (hdK bs) 0) (spS bs (zp bs true (zp bs true (qae bs) 4095).2 281474976710655).2).2.2 65535).2 4095).2 281474976710655).2 65535).2 65535).2 ≠ none → lo = (spS bs (zp bs true (zp bs true (qae bs) 4095).2 281474976710655).2).1 ∧ hi = (spS bs (zp bs true (zp bs true (qae bs) 4095).2 281474976710655).2).2.1 :=
  fun h => q3 (qa6 (qa6 (qa6 (qa6 (qa6 h)))))
 unfold hdS qqu
 dsimp only
 generalize zp bs (qv (hdK bs) 3) _ 65535 = B at r8 hs ⊢
 obtain ⟨b, st⟩ := B
 dsimp only at r8 hs ⊢
 obtain ⟨⟨n, rfl, hn⟩, r8⟩ := r8
 cases st with
 | none =>
  dsimp only at r8 ⊢
  cases d8 with
  | true => exact ⟨_, _, _, _, _, _, _, _, _, _, _, _, rfl⟩
  | false =>
   obtain rfl : w8 = true := by rcases r8 with h | h; exact h; cases h
   rw [if_neg (by simp)]
   split <;> exact ⟨_, _, _, _, _, _, _, _, _, _, _, _, rfl⟩
 | some m =>
  obtain ⟨rfl, rfl, e⟩ := r8
  obtain ⟨rfl, rfl⟩ := hs (by simp)
  obtain rfl : n = m := by omega
  dsimp only
  rw [if_neg (c := false = true) (by simp)]
  by_cases hv : q0 (hdK bs) (zp bs true (qae bs) 4095).1 (zp bs true (zp bs true (qae bs) 4095).2 281474976710655).1 (spS bs (zp bs true (zp bs true (qae bs) 4095).2 281474976710655).2).1 (spS bs (zp bs true (zp bs true (qae bs) 4095).2 281474976710655).2).2.1 (zp bs (qv (hdK bs) 0) (spS bs (zp bs true (zp bs true (qae bs) 4095).2 281474976710655).2).2.2 65535).1 (zp bs (qv (hdK bs) 1) (zp bs (qv (hdK bs) 0) (spS bs (zp bs true (zp bs true (qae bs) 4095).2 281474976710655).2).2.2 65535).2 4095).1 (zp bs (qv (hdK bs) 2) (zp bs (qv (hdK bs) 1) (zp bs (qv (hdK bs) 0) (spS bs (zp bs true (zp bs true (qae bs) 4095).2 281474976710655).2).2.2 65535).2 4095).2 281474976710655).1 (zp bs (qv (hdK bs) 2) (zp bs (qv (hdK bs) 2) (zp bs (qv (hdK bs) 1) (zp bs (qv (hdK bs) 0) (spS bs (zp bs true (zp bs true (qae bs) 4095).2 281474976710655).2).2.2 65535).2 4095).2 281474976710655).2 65535).1 b [] = true
  ·rw [if_pos hv, if_neg (by rw [Bool.not_eq_true, Bool.not_eq_false']; exact hv)]
   exact ⟨rfl, hn, hv⟩
  ·rw [if_neg hv, if_pos (by simpa using hv)]
   exact ⟨_, _, _, _, _, _, _, _, _, _, _, _, rfl⟩
theorem qib {bs : List Int} {a : Nat} {zk w : Int} {r : List Int} (h : bs.drop a = vi w ++ r) (h0 : 0 ≤ w) (h1 : w < 18446744073709551616) (hm : w ≤ zk) : tk bs a zk = some (w, a + (vi w).length) ∧ bs.drop (a + (vi w).length) = r := by
 have hl := congrArg List.length h
 have h1' := (qaq w).1
 simp only [List.length_drop, List.length_append] at hl
 refine ⟨?_, ?_⟩
 ·rw [qru h h0 h1 hm, show bs.length - r.length = a + (vi w).length from by omega]
 ·rw [← List.drop_drop, h, List.drop_left]
theorem qkb {bs : List Int} {a : Nat} {c : Int} {r : List Int} (h : bs.drop a = c :: r) : bs[a]? = some c ∧ bs.drop (a + 1) = r := by
 constructor
 ·have := List.getElem?_drop (xs := bs) (i := a) (j := 0)
  rw [h] at this
  simpa using this.symm
 ·rw [← List.drop_drop, h]; all_goals rfl
theorem qes {bs : List Int} {a : Nat} {c : Int} (h : bs[a]? = some c) : bs.drop a = c :: bs.drop (a + 1) ∧ a < bs.length := by
 obtain ⟨hlt, he⟩ := List.getElem?_eq_some_iff.1 h
 rw [List.drop_eq_getElem_cons hlt, he]
 exact ⟨rfl, hlt⟩
def qf6 (bs : List Int) (a : Nat) : Option ((Int × List Int) × Nat) :=
 match bs[a]? with
 | none => none
 | some t => match tk bs (a + 1) 4096 with
  | none => none
  | some (n, a2) => if a2 + n.toNat ≤ bs.length then some ((t, (bs.drop a2).take n.toNat), a2 + n.toNat) else none
theorem qow {bs : List Int} {a : Nat} {x : Int × List Int} {a2 : Nat} (hb : ∀ c ∈ bs, 0 ≤ c ∧ c ≤ 255) (h : qf6 bs a = some (x, a2)) : bs.drop a = qbl x ++ bs.drop a2 ∧ a2 ≤ bs.length ∧ x.2.length ≤ 4096 := by
 unfold qf6 at h
 cases hc : bs[a]? with
 | none => rw [hc] at h; cases h
 | some c =>
  rw [hc] at h
  dsimp only at h
  cases ht : tk bs (a + 1) 4096 with
  | none => rw [ht] at h; cases h
  | some p =>
   obtain ⟨n, a3⟩ := p
   rw [ht] at h
   dsimp only at h
   by_cases hle : a3 + n.toNat ≤ bs.length
   ·rw [if_pos hle] at h
    obtain ⟨e1, n0, n1, _, _, _⟩ := qaO hb ht
    obtain ⟨e0, _⟩ := qes hc
    have hlen : ((bs.drop a3).take n.toNat).length = n.toNat := by rw [List.length_take, List.length_drop]; omega
    obtain ⟨rfl, rfl⟩ : (c, (bs.drop a3).take n.toNat) = x ∧ a3 + n.toNat = a2 := by cases h; exact ⟨rfl, rfl⟩
    refine ⟨?_, hle, by dsimp only; omega⟩
    unfold qbl
    dsimp only
    rw [hlen, e0, e1, show ((n.toNat : Nat) : Int) = n from by omega, ← List.drop_drop, List.cons_append, List.append_assoc, List.take_append_drop]
   ·rw [if_neg hle] at h; cases h
theorem qpx {bs : List Int} {a : Nat} {x : Int × List Int} {r : List Int} (h : bs.drop a = qbl x ++ r) (hx : x.2.length ≤ 4096) : qf6 bs a = some (x, a + (qbl x).length) ∧ bs.drop (a + (qbl x).length) = r := by
 have hl := congrArg List.length h
 refine ⟨?_, by rw [← List.drop_drop, h, List.drop_left]⟩
 obtain ⟨t, d⟩ := x
 dsimp only at hx
 obtain ⟨g1, g2⟩ := qkb (show bs.drop a = t :: (vi (d.length : Int) ++ (d ++ r)) from by rw [h]; simp [qbl])
 obtain ⟨k1, k2⟩ := qib (zk := 4096) g2 (by omega) (by omega) (by omega)
 have hv := qaq (d.length : Int)
 unfold qf6
 rw [g1]
 dsimp only
 rw [k1]
 dsimp only
 simp only [List.length_drop, List.length_append, qbl, List.length_cons] at hl ⊢
 rw [if_pos (by omega), k2, Int.toNat_natCast, List.take_left, show a + 1 + (vi (d.length : Int)).length + d.length = a + ((vi (d.length : Int)).length + d.length + 1) from by omega]
def qdg (bs : List Int) : Nat → Nat → Option (LF × Nat)
 | 0, a => some ([], a)
 | k + 1, a => match qf6 bs a with
  | none => none
  | some (x, a2) => match qdg bs k a2 with
   | none => none
   | some (l, a3) => some (x :: l, a3)
theorem qmY {bs : List Int} (hb : ∀ c ∈ bs, 0 ≤ c ∧ c ≤ 255) : ∀ (k a : Nat) (l : LF) (a2 : Nat), a ≤ bs.length → qdg bs k a = some (l, a2) → bs.drop a = l.flatMap qbl ++ bs.drop a2 ∧ a2 ≤ bs.length ∧ l.length = k ∧ ∀ x ∈ l, x.2.length ≤ 4096 := by
 intro k
 induction k with
 | zero =>
  intro a l a2 ha h
  rw [qdg] at h
  cases h
  exact ⟨rfl, ha, rfl, by simp⟩
 | succ k ih =>
  intro a l a2 ha h
  rw [qdg] at h
  cases h1 : qf6 bs a with
  | none => rw [h1] at h; cases h
  | some p =>
   obtain ⟨x, a3⟩ := p
   rw [h1] at h
   dsimp only at h
   obtain ⟨e1, l1, s1⟩ := qow hb h1
   cases h2 : qdg bs k a3 with
   | none => rw [h2] at h; cases h
   | some q =>
    obtain ⟨m, a4⟩ := q
    rw [h2] at h
    dsimp only at h
    obtain ⟨e2, l2, n2, s2⟩ := ih a3 m a4 l1 h2
    cases h
    refine ⟨by rw [e1, e2]; simp, l2, by simp [n2], ?_⟩
    intro y hy
    rcases List.mem_cons.1 hy with rfl | hy
    ·exact s1
    ·exact s2 y hy
theorem qkd {bs : List Int} : ∀ (l : LF) (a : Nat) (r : List Int), bs.drop a = l.flatMap qbl ++ r → (∀ x ∈ l, x.2.length ≤ 4096) → qdg bs l.length a = some (l, a + (l.flatMap qbl).length) ∧ bs.drop (a + (l.flatMap qbl).length) = r
 | [], a, r, h, _ => ⟨rfl, h⟩
 | x :: l, a, r, h, hx => by
  obtain ⟨h1, h2⟩ := qpx (x := x) (r := l.flatMap qbl ++ r) (by rw [h]; simp) (hx x (List.mem_cons_self ..))
  obtain ⟨h3, h4⟩ := qkd l _ r h2 (fun y hy => hx y (List.mem_cons_of_mem _ hy))
  have e : a + ((x :: l).flatMap qbl).length = a + (qbl x).length + (l.flatMap qbl).length := by simp; omega
  rw [e]
  refine ⟨?_, h4⟩
  rw [List.length_cons, qdg, h1]
  dsimp only
  rw [h3]
def qf9 (bs : List Int) (a : Nat) : Option (LF × Nat) :=
 match tk bs a 32 with
 | none => none
 | some (n, a1) => qdg bs n.toNat a1
theorem qha {bs : List Int} (hb : ∀ c ∈ bs, 0 ≤ c ∧ c ≤ 255) {a : Nat} {l : LF} {a2 : Nat} (h : qf9 bs a = some (l, a2)) : bs.drop a = qbZ l ++ bs.drop a2 ∧ a2 ≤ bs.length ∧ l.length ≤ 32 ∧ ∀ x ∈ l, x.2.length ≤ 4096 := by
 unfold qf9 at h
 cases ht : tk bs a 32 with
 | none => rw [ht] at h; cases h
 | some p =>
  obtain ⟨n, a1⟩ := p
  rw [ht] at h
  dsimp only at h
  obtain ⟨e1, n0, n1, _, _, l1⟩ := qaO hb ht
  obtain ⟨e2, l2, n2, s2⟩ := qmY hb _ _ _ _ l1 h
  refine ⟨?_, l2, by omega, s2⟩
  rw [e1, e2]
  unfold qbZ
  rw [n2, show ((n.toNat : Nat) : Int) = n from by omega, List.append_assoc]
theorem qpI {bs : List Int} {a : Nat} {l : LF} {r : List Int} (h : bs.drop a = qbZ l ++ r) (hn : l.length ≤ 32) (hx : ∀ x ∈ l, x.2.length ≤ 4096) : qf9 bs a = some (l, a + (qbZ l).length) ∧ bs.drop (a + (qbZ l).length) = r := by
 refine ⟨?_, by rw [← List.drop_drop, h, List.drop_left]⟩
 obtain ⟨h1, h2⟩ := qib (w := (l.length : Int)) (zk := 32) (r := l.flatMap qbl ++ r) (by rw [h]; simp [qbZ]) (by omega) (by omega) (by omega)
 obtain ⟨h3, h4⟩ := qkd l _ r h2 hx
 unfold qf9
 rw [h1]
 dsimp only
 rw [Int.toNat_natCast, h3]
 simp [qbZ]
 omega
theorem qnf : ∀ (l m : List Int), qer l m = 0 → l = m
 | [], [], _ => rfl
 | [], _ :: _, h => by simp [qer] at h
 | _ :: _, [], h => by simp [qer] at h
 | x :: l, y :: m, h => by
  rw [qer] at h
  by_cases h1 : x < y
  ·rw [if_pos (by simpa using h1)] at h; omega
  ·rw [if_neg (by simpa using h1)] at h
   by_cases h2 : x > y
   ·rw [if_pos (by simpa using h2)] at h; omega
   ·rw [if_neg (by simpa using h2)] at h
    rw [qnf l m h, show x = y from by omega]
theorem qmr : ∀ (l m : LF), ZH l m = 0 → l = m
 | [], [], _ => rfl
 | [], _ :: _, h => by simp [ZH] at h
 | _ :: _, [], h => by simp [ZH] at h
 | (t, d) :: l, (u, e) :: m, h => by
  rw [ZH] at h
  dsimp only at h
  by_cases h1 : qdJ t d u e = 0
  ·rw [if_neg (by simp [h1])] at h
   rw [qmr l m h]
   unfold qdJ at h1
   by_cases h2 : t = u
   ·subst h2
    rw [if_neg (by simp)] at h1
    rw [qnf d e h1]
   ·rw [if_pos (by simpa using h2)] at h1
    split at h1 <;> omega
  ·rw [if_pos (by simpa using h1)] at h
   exact absurd h h1
theorem qeJ (l m : LF) : (ZH l m == 0) = decide (l = m) := by
 by_cases h : l = m
 ·subst h; rw [qg8]; simp
 ·rw [decide_eq_false h]
  cases hc : ZH l m == 0 with
  | false => rfl
  | true => exact absurd (qmr l m (by simpa using hc)) h
def qef (z : Int) : Int := if z % 2 = 0 then z / 2 else -((z + 1) / 2)
theorem qqO (z : Int) (h : 0 ≤ z) : qba (qef z) = z := by unfold qba qef; split <;> split <;> omega
theorem qqP (n : Int) : qef (qba n) = n := by unfold qba qef; split <;> split <;> omega
def qew (bs : List Int) (o : REC × Bool) (v : Int) (a : Nat) : Option ((Int × Int) × Nat) :=
 if v / 8 % 2 = 1 then some (o.1.2.2.2.1, a) else
 match bs[a]? with
 | none => none
 | some c => if okS (c / 16) (c % 16) = true ∧ (o.2 && (c / 16 == o.1.2.2.2.1.1 && c % 16 == o.1.2.2.2.1.2)) = false then some ((c / 16, c % 16), a + 1) else none
def qd5 (bs : List Int) (o : REC × Bool) (v : Int) (a : Nat) : Option (LF × Nat) :=
 if v / 4 % 2 = 1 then some ([], a) else if 16 ≤ v then some (o.1.2.2.2.2.2, a) else
 match qf9 bs a with
 | none => none
 | some (b, a2) => if (o.2 && ZH b o.1.2.2.2.2.2 == 0) = true then none else some (b, a2)
def qbu (o : REC × Bool) (v : Int) : Bool := decide (32 ≤ v) || ((!o.2 && decide (8 ≤ v)) || (decide (v / 4 % 2 = 1) && decide (16 ≤ v)))
def qfB (bs : List Int) (qb : LR) (qe : Int) (a : Nat) : Option (REC × Nat) :=
 match tk bs a 4095 with
 | none => none
 | some (d, a1) => match bs[a1]? with
  | none => none
  | some v => if qbu (zC qb (qe + 1 + d)) v then none else
   match qew bs (zC qb (qe + 1 + d)) v (a1 + 1) with
   | none => none
   | some (sp, a2) => match tk bs a2 562949953421310 with
    | none => none
    | some (z, a3) => match qd5 bs (zC qb (qe + 1 + d)) v a3 with
     | none => none
     | some (b, a4) => some ((qe + 1 + d, (zC qb (qe + 1 + d)).1.2.1 + qef z, v % 4, sp, v / 4 % 2 == 1, b), a4)
theorem qmJ {bs : List Int} (hb : ∀ c ∈ bs, 0 ≤ c ∧ c ≤ 255) {o : REC × Bool} {v : Int} {a : Nat} {sp : Int × Int} {a2 : Nat} (ha : a ≤ bs.length) (v0 : 0 ≤ v) (ho : o.2 = false → v < 8) (h : qew bs o v a = some (sp, a2)) :
  bs.drop a = (if v / 8 % 2 = 1 then [] else [sp.1 * 16 + sp.2]) ++ bs.drop a2 ∧ a2 ≤ bs.length ∧ (o.2 && (o.1.2.2.2.1.1 == sp.1 && o.1.2.2.2.1.2 == sp.2)) = decide (v / 8 % 2 = 1) ∧ (v / 8 % 2 = 1 ∨ okS sp.1 sp.2 = true) := by
 unfold qew at h
 by_cases hv : v / 8 % 2 = 1
 ·rw [if_pos hv] at h
  cases h
  rw [if_pos hv]
  refine ⟨rfl, ha, ?_, Or.inl hv⟩
  have : o.2 = true := by
   cases h2 : o.2 with
   | true => rfl
   | false => have := ho h2; omega
  rw [this, decide_eq_true hv]
  simp
 ·rw [if_neg hv] at h ⊢
  cases hc : bs[a]? with
  | none => rw [hc] at h; cases h
  | some c =>
   rw [hc] at h
   dsimp only at h
   obtain ⟨e0, hlt⟩ := qes hc
   obtain ⟨c0, c1⟩ := hb c (List.mem_of_getElem? hc)
   by_cases hk : okS (c / 16) (c % 16) = true ∧ (o.2 && (c / 16 == o.1.2.2.2.1.1 && c % 16 == o.1.2.2.2.1.2)) = false
   ·rw [if_pos hk] at h
    cases h
    refine ⟨by rw [e0, show c / 16 * 16 + c % 16 = c from by omega]; rfl, hlt, ?_, Or.inr hk.1⟩
    rw [decide_eq_false hv, ← hk.2, Bool.beq_comm (a := o.1.2.2.2.1.1), Bool.beq_comm (a := o.1.2.2.2.1.2)]
   ·rw [if_neg hk] at h; cases h
theorem qiM (l m : LF) : decide (l = m) = decide (m = l) := by
 by_cases h : l = m
 ·rw [decide_eq_true h, decide_eq_true h.symm]
 ·rw [decide_eq_false h, decide_eq_false (fun e => h e.symm)]
theorem qke {o : REC × Bool} {v : Int} (h : qbu o v = false) : v < 32 ∧ (o.2 = false → v < 8) ∧ (v / 4 % 2 = 1 → v < 16) := by
 unfold qbu at h
 simp only [Bool.or_eq_false_iff, Bool.and_eq_false_iff, decide_eq_false_iff_not, Bool.not_eq_false'] at h
 obtain ⟨h1, h2, h3⟩ := h
 refine ⟨by omega, fun ho => ?_, fun hc => ?_⟩
 ·rcases h2 with h2 | h2
  ·rw [ho] at h2; cases h2
  ·omega
 ·rcases h3 with h3 | h3
  ·exact absurd hc h3
  ·omega
theorem qoy {o : REC × Bool} {v : Int} (h1 : v < 32) (h2 : o.2 = false → v < 8) (h3 : v / 4 % 2 = 1 → v < 16) : qbu o v = false := by
 unfold qbu
 rw [decide_eq_false (by omega : ¬ 32 ≤ v)]
 have e1 : (!o.2 && decide (8 ≤ v)) = false := by
  cases ho : o.2 with
  | true => rfl
  | false => have := h2 ho; rw [decide_eq_false (by omega : ¬ 8 ≤ v)]; all_goals rfl
 have e2 : (decide (v / 4 % 2 = 1) && decide (16 ≤ v)) = false := by
  by_cases hc : v / 4 % 2 = 1
  ·have := h3 hc; rw [decide_eq_false (by omega : ¬ 16 ≤ v)]; simp
  ·rw [decide_eq_false hc]; all_goals rfl
 rw [e1, e2]; all_goals rfl
theorem qm6 {bs : List Int} (hb : ∀ c ∈ bs, 0 ≤ c ∧ c ≤ 255) {o : REC × Bool} {v : Int} {a : Nat} {b : LF} {a2 : Nat} (ha : a ≤ bs.length) (ho : o.2 = false → v < 8) (hc : v / 4 % 2 = 1 → v < 16) (h : qd5 bs o v a = some (b, a2)) :
  bs.drop a = (if (v / 4 % 2 == 1 || decide (16 ≤ v)) = true then [] else qbZ b) ++ bs.drop a2 ∧ a2 ≤ bs.length ∧ (o.2 && (!(v / 4 % 2 == 1) && ZH o.1.2.2.2.2.2 b == 0)) = decide (16 ≤ v) := by
 unfold qd5 at h
 by_cases h1 : v / 4 % 2 = 1
 ·rw [if_pos h1] at h
  cases h
  have := hc h1
  have e1 : (v / 4 % 2 == 1) = true := by simpa using h1
  rw [e1, decide_eq_false (by omega : ¬ 16 ≤ v)]
  exact ⟨rfl, ha, by simp⟩
 ·rw [if_neg h1] at h
  have e1 : (v / 4 % 2 == 1) = false := by simpa using h1
  rw [e1]
  by_cases h2 : 16 ≤ v
  ·rw [if_pos h2] at h
   cases h
   rw [decide_eq_true h2, qg8]
   have : o.2 = true := by
    cases h2 : o.2 with
    | true => rfl
    | false => have := ho h2; omega
   exact ⟨rfl, ha, by rw [this]; rfl⟩
  ·rw [if_neg h2] at h
   rw [decide_eq_false h2]
   cases hg : qf9 bs a with
   | none => rw [hg] at h; cases h
   | some p =>
    obtain ⟨b', a3⟩ := p
    rw [hg] at h
    dsimp only at h
    obtain ⟨e2, l2, _, _⟩ := qha hb hg
    by_cases h3 : (o.2 && ZH b' o.1.2.2.2.2.2 == 0) = true
    ·rw [if_pos h3] at h; cases h
    ·rw [if_neg h3] at h
     cases h
     refine ⟨by rw [e2]; rfl, l2, ?_⟩
     rw [qeJ] at h3
     rw [qeJ, ← qiM b]
     simpa using h3
theorem qjX {bs : List Int} (hb : ∀ c ∈ bs, 0 ≤ c ∧ c ≤ 255) {qb : LR} {qe : Int} {a : Nat} {r : REC} {a2 : Nat} (h : qfB bs qb qe a = some (r, a2)) :
  bs.drop a = qc4 (zC qb r.1) qe r ++ bs.drop a2 ∧ a2 ≤ bs.length ∧ qe < r.1 ∧ r.1 ≤ qe + 4096 := by
 unfold qfB at h
 cases ht : tk bs a 4095 with
 | none => rw [ht] at h; cases h
 | some p =>
  obtain ⟨d, a1⟩ := p
  rw [ht] at h
  dsimp only at h
  obtain ⟨e1, d0, d1, _, _, l1⟩ := qaO hb ht
  cases hc : bs[a1]? with
  | none => rw [hc] at h; cases h
  | some v =>
   rw [hc] at h
   dsimp only at h
   obtain ⟨e2, l2⟩ := qes hc
   obtain ⟨v0, v1⟩ := hb v (List.mem_of_getElem? hc)
   cases hf : qbu (zC qb (qe + 1 + d)) v with
   | true => rw [hf] at h; cases h
   | false =>
    obtain ⟨f1, f2, f3⟩ := qke hf
    rw [hf, if_neg (by simp)] at h
    cases hs : qew bs (zC qb (qe + 1 + d)) v (a1 + 1) with
    | none => rw [hs] at h; cases h
    | some q =>
     obtain ⟨sp, a3⟩ := q
     rw [hs] at h
     dsimp only at h
     obtain ⟨e3, l3, s3, _⟩ := qmJ hb (by omega) v0 f2 hs
     cases hz : tk bs a3 562949953421310 with
     | none => rw [hz] at h; cases h
     | some w =>
      obtain ⟨z, a4⟩ := w
      rw [hz] at h
      dsimp only at h
      obtain ⟨e4, z0, z1, _, _, l4⟩ := qaO hb hz
      cases hg : qd5 bs (zC qb (qe + 1 + d)) v a4 with
      | none => rw [hg] at h; cases h
      | some u =>
       obtain ⟨b, a5⟩ := u
       rw [hg] at h
       dsimp only at h
       obtain ⟨e5, l5, s5⟩ := qm6 hb l4 f2 f3 hg
       cases h
       refine ⟨?_, l5, by dsimp only; omega, by dsimp only; omega⟩
       rw [e1, e2, e3, e4, e5]
       dsimp only
       unfold qc4 qeA qbF qbS
       dsimp only
       rw [s3, s5]
       generalize zC qb (qe + 1 + d) = o
       rw [show qe + 1 + d - qe - 1 = d from by omega, show o.1.2.1 + qef z - o.1.2.1 = qef z from by omega, qqO z z0]
       have ev : v % 4 + (if (v / 4 % 2 == 1) = true then 4 else 0) + (if decide (v / 8 % 2 = 1) = true then 8 else 0) + (if decide (16 ≤ v) = true then 16 else 0) = v := by
        simp only [beq_iff_eq, decide_eq_true_eq]
        split <;> split <;> split <;> omega
       rw [ev]
       simp only [decide_eq_true_eq, List.append_assoc, List.cons_append]
theorem qlS {w o : Int} (h0 : 0 ≤ w) (h1 : w ≤ 281474976710655) (o0 : 0 ≤ o) (o1 : o ≤ 281474976710655) : 0 ≤ qba (w - o) ∧ qba (w - o) ≤ 562949953421310 := by
 unfold qba; split <;> omega
theorem qkO {qb : LR} (Qz : ∀ x ∈ qb, zw x = true) (id : Int) : 0 ≤ (zC qb id).1.2.1 ∧ (zC qb id).1.2.1 ≤ 281474976710655 := by
 rcases qi8 (qb := qb) (id := id) with ⟨_, h⟩ | ⟨_, h, _⟩
 ·rw [h]; exact ⟨by simp, by simp⟩
 ·have := zE (Qz _ h)
  exact ⟨this.2.2.1, this.2.2.2.1⟩
theorem qpf {bs : List Int} {qb : LR} (Qz : ∀ x ∈ qb, zw x = true) {qe : Int} {a : Nat} {r : REC} {rest : List Int} (hr : zw r = true) (h1 : -1 ≤ qe) (h2 : qe < r.1) (h : bs.drop a = qc4 (zC qb r.1) qe r ++ rest) :
  qfB bs qb qe a = some (r, a + (qc4 (zC qb r.1) qe r).length) ∧ bs.drop (a + (qc4 (zC qb r.1) qe r).length) = rest := by
 refine ⟨?_, by rw [← List.drop_drop, h, List.drop_left]⟩
 obtain ⟨f1, f2, f3, f4, f5, f6, f7, f8, f9⟩ := zE hr
 have hbl := Za f8
 have hbt := qbm f8
 obtain ⟨o0, o1⟩ := qkO Qz r.1
 obtain ⟨z0, z1⟩ := qlS f3 f4 o0 o1
 have hsp := (qag _ _).1 f7
 have hS : qbF (zC qb r.1) r = true → (zC qb r.1).2 = true ∧ (zC qb r.1).1.2.2.2.1 = r.2.2.2.1 := by
  intro hs
  unfold qbF at hs
  simp only [Bool.and_eq_true, beq_iff_eq] at hs
  exact ⟨hs.1, Prod.ext hs.2.1 hs.2.2⟩
 have hB : qbS (zC qb r.1) r = true → (zC qb r.1).2 = true ∧ r.2.2.2.2.1 = false ∧ (zC qb r.1).1.2.2.2.2.2 = r.2.2.2.2.2 := by
  intro hs
  unfold qbS at hs
  rw [qeJ] at hs
  simp only [Bool.and_eq_true, Bool.not_eq_true', decide_eq_true_eq] at hs
  exact ⟨hs.1, hs.2.1, hs.2.2⟩
 have hS' : qbF (zC qb r.1) r = false → ((zC qb r.1).2 && (r.2.2.2.1.1 == (zC qb r.1).1.2.2.2.1.1 && r.2.2.2.1.2 == (zC qb r.1).1.2.2.2.1.2)) = false := by
  intro hs
  unfold qbF at hs
  rw [← hs, Bool.beq_comm (a := r.2.2.2.1.1), Bool.beq_comm (a := r.2.2.2.1.2)]
 have hB' : qbS (zC qb r.1) r = false → r.2.2.2.2.1 = false → ((zC qb r.1).2 && ZH r.2.2.2.2.2 (zC qb r.1).1.2.2.2.2.2 == 0) = false := by
  intro hs hc
  unfold qbS at hs
  rw [qeJ, hc] at hs
  rw [qeJ, ← hs, qiM]
  all_goals rfl
 unfold qc4 at h ⊢
 generalize hss : qbF (zC qb r.1) r = ss at h hS hS' ⊢
 generalize hsb : qbS (zC qb r.1) r = sb at h hB hB' ⊢
 obtain ⟨t1, t2⟩ := qib (zk := 4095) (r := qeA (zC qb r.1) r :: ((if ss = true then [] else [r.2.2.2.1.1 * 16 + r.2.2.2.1.2]) ++ (vi (qba (r.2.1 - (zC qb r.1).1.2.1)) ++ ((if (r.2.2.2.2.1 || sb) = true then [] else qbZ r.2.2.2.2.2) ++ rest)))) (by rw [h]; simp) (by omega : 0 ≤ r.1 - qe - 1) (by omega) (by omega)
 obtain ⟨g1, g2⟩ := qkb t2
 have hv : qeA (zC qb r.1) r = r.2.2.1 + (if r.2.2.2.2.1 = true then 4 else 0) + (if ss = true then 8 else 0) + (if sb = true then 16 else 0) := by unfold qeA; rw [hss, hsb]
 generalize qeA (zC qb r.1) r = v at hv g1 g2 h t1 t2 ⊢
 obtain ⟨id, inc, st, ⟨lo, hi⟩, cut, bag⟩ := r
 dsimp only at *
 have hid : qe + 1 + (id - qe - 1) = id := by omega
 generalize ho : zC qb id = o at *
 have q4 : v / 4 % 2 = 1 ↔ cut = true := by
  cases cut <;> cases ss <;> cases sb <;> simp at hv ⊢ <;> omega
 have q8 : v / 8 % 2 = 1 ↔ ss = true := by
  cases cut <;> cases ss <;> cases sb <;> simp at hv ⊢ <;> omega
 have q16 : 16 ≤ v ↔ sb = true := by
  cases cut <;> cases ss <;> cases sb <;> simp at hv ⊢ <;> omega
 have q3 : v % 4 = st := by
  cases cut <;> cases ss <;> cases sb <;> simp at hv <;> omega
 have hf : qbu o v = false := by
  refine qoy (by cases cut <;> cases ss <;> cases sb <;> simp at hv <;> omega) (fun hno => ?_) (fun hcb => ?_)
  ·have a1 : ss = false := by
    cases ss with
    | false => rfl
    | true => have := (hS rfl).1; rw [hno] at this; cases this
   have a2 : sb = false := by
    cases sb with
    | false => rfl
    | true => have := (hB rfl).1; rw [hno] at this; cases this
   subst a1 a2
   cases cut <;> simp at hv <;> omega
  ·have a1 := q4.1 hcb
   have a2 : sb = false := by
    cases sb with
    | false => rfl
    | true => have := (hB rfl).2.1; rw [a1] at this; cases this
   subst a1 a2
   cases ss <;> simp at hv <;> omega
 unfold qfB
 rw [t1]
 dsimp only
 rw [hid, ho, g1]
 dsimp only
 rw [hf, if_neg (by simp)]
 have hspan : qew bs o v (a + (vi (id - qe - 1)).length + 1) = some ((lo, hi), a + (vi (id - qe - 1)).length + 1 + (if ss = true then [] else [lo * 16 + hi] : List Int).length) ∧ bs.drop (a + (vi (id - qe - 1)).length + 1 + (if ss = true then [] else [lo * 16 + hi] : List Int).length) = vi (qba (inc - o.1.2.1)) ++ ((if (cut || sb) = true then [] else qbZ bag) ++ rest) := by
  unfold qew
  cases ss with
  | true =>
   rw [if_pos (q8.2 rfl), (hS rfl).2]
   exact ⟨rfl, by simpa using g2⟩
  | false =>
   rw [if_neg (fun h => by have := q8.1 h; cases this)]
   obtain ⟨k1, k2⟩ := qkb (show bs.drop (a + (vi (id - qe - 1)).length + 1) = (lo * 16 + hi) :: (vi (qba (inc - o.1.2.1)) ++ ((if (cut || sb) = true then [] else qbZ bag) ++ rest)) from by simpa using g2)
   rw [k1]
   dsimp only
   rw [show (lo * 16 + hi) / 16 = lo from by omega, show (lo * 16 + hi) % 16 = hi from by omega, if_pos ⟨f7, hS' rfl⟩]
   exact ⟨rfl, by simpa using k2⟩
 rw [hspan.1]
 dsimp only
 obtain ⟨u1, u2⟩ := qib (zk := 562949953421310) hspan.2 z0 (by omega) z1
 rw [u1]
 dsimp only
 have hbag : qd5 bs o v (a + (vi (id - qe - 1)).length + 1 + (if ss = true then [] else [lo * 16 + hi] : List Int).length + (vi (qba (inc - o.1.2.1))).length) = some (bag, a + (vi (id - qe - 1)).length + 1 + (if ss = true then [] else [lo * 16 + hi] : List Int).length + (vi (qba (inc - o.1.2.1))).length + (if (cut || sb) = true then [] else qbZ bag).length) := by
  unfold qd5
  cases cut with
  | true =>
   rw [if_pos (q4.2 rfl), f9 rfl]
   all_goals rfl
  | false =>
   rw [if_neg (fun h => by have := q4.1 h; cases this)]
   cases sb with
   | true => rw [if_pos (q16.2 rfl), (hB rfl).2.2]; all_goals rfl
   | false =>
    rw [if_neg (fun h => by have := q16.1 h; cases this)]
    have hg := qpI (l := bag) (r := rest) (by simpa using u2) hbl.1 (fun x hx => (hbt x hx).2.2)
    rw [hg.1]
    dsimp only
    rw [hB' rfl rfl, if_neg (by simp)]
    all_goals rfl
 rw [hbag]
 dsimp only
 rw [qqP, q3, show o.1.2.1 + (inc - o.1.2.1) = inc from by omega]
 have hcut : (v / 4 % 2 == 1) = cut := by
  cases cut with
  | true => simpa using q4.2 rfl
  | false => simp; intro h; have := q4.1 h; cases this
 rw [hcut]
 refine congrArg (fun n => some ((id, inc, st, (lo, hi), cut, bag), n)) ?_
 simp only [List.length_append, List.length_cons]
 omega
def qcW (bs : List Int) (qb : LR) : Nat → Int → Nat → Option (LR × Nat)
 | 0, _, a => some ([], a)
 | k + 1, qe, a => match qfB bs qb qe a with
  | none => none
  | some (r, a2) => match qcW bs qb k r.1 a2 with
   | none => none
   | some (l, a3) => some (r :: l, a3)
theorem qmV {bs : List Int} (hb : ∀ c ∈ bs, 0 ≤ c ∧ c ≤ 255) {qb : LR} : ∀ (k : Nat) (qe : Int) (a : Nat) (l : LR) (a2 : Nat), a ≤ bs.length → qcW bs qb k qe a = some (l, a2) → bs.drop a = ZQ qb qe l ++ bs.drop a2 ∧ a2 ≤ bs.length ∧ l.length = k := by
 intro k
 induction k with
 | zero =>
  intro qe a l a2 ha h
  rw [qcW] at h
  cases h
  exact ⟨rfl, ha, rfl⟩
 | succ k ih =>
  intro qe a l a2 ha h
  rw [qcW] at h
  cases h1 : qfB bs qb qe a with
  | none => rw [h1] at h; cases h
  | some p =>
   obtain ⟨x, a3⟩ := p
   rw [h1] at h
   dsimp only at h
   obtain ⟨e1, l1, _⟩ := qjX hb h1
   cases h2 : qcW bs qb k x.1 a3 with
   | none => rw [h2] at h; cases h
   | some q =>
    obtain ⟨m, a4⟩ := q
    rw [h2] at h
    dsimp only at h
    obtain ⟨e2, l2, n2⟩ := ih x.1 a3 m a4 l1 h2
    cases h
    exact ⟨by rw [e1, e2, ZQ, List.append_assoc], l2, by simp [n2]⟩
theorem qjT {bs : List Int} {qb : LR} (Qz : ∀ x ∈ qb, zw x = true) : ∀ (l : LR) (qe : Int) (a : Nat) (rest : List Int), (∀ r ∈ l, zw r = true) → -1 ≤ qe → qfP qe l → bs.drop a = ZQ qb qe l ++ rest →
  qcW bs qb l.length qe a = some (l, a + (ZQ qb qe l).length) ∧ bs.drop (a + (ZQ qb qe l).length) = rest
 | [], qe, a, rest, _, _, _, h => ⟨rfl, h⟩
 | r :: l, qe, a, rest, hr, h1, h2, h => by
  obtain ⟨h3, h4⟩ := h2
  have hm := hr r (List.mem_cons_self ..)
  have hid := (zE hm).1
  obtain ⟨k1, k2⟩ := qpf Qz (rest := ZQ qb r.1 l ++ rest) hm h1 h3 (by rw [h, ZQ, List.append_assoc])
  obtain ⟨k3, k4⟩ := qjT Qz l r.1 _ rest (fun x hx => hr x (List.mem_cons_of_mem _ hx)) (by omega) h4 k2
  have e : a + (ZQ qb qe (r :: l)).length = a + (qc4 (zC qb r.1) qe r).length + (ZQ qb r.1 l).length := by rw [ZQ, List.length_append]; omega
  rw [e]
  refine ⟨?_, k4⟩
  rw [List.length_cons, qcW, k1]
  dsimp only
  rw [k3]
theorem qjs {qk qz inc lo hi seq qp qW qK qb : Int} {qd : LR} (h : q0 qk qz inc lo hi seq qp qW qK qb qd = true) : q0 qk qz inc lo hi seq qp qW qK qb [] = true := by
 unfold q0 at h ⊢
 generalize ((ofF qk).1.toList == (⟨#[]⟩ : ByteArray).toList || (decide (qz < 0) || (decide (qz > 4095) || (decide (inc < 0) || (decide (inc > 281474976710655) || !okS lo hi))))) = c1 at h ⊢
 generalize (!zU (qv qk 0) seq 0 65535 || (!zU (qv qk 1) qp (if qk == 3 then 1 else 0) (if qk == 3 then 3 else 4095) || !qah qk qW qK qb)) = c2 at h ⊢
 cases c1
 ·cases c2
  ·generalize qv qk 4 = c4 at h ⊢
   cases c4 <;> rfl
  ·exact absurd h (by simp)
 ·exact absurd h (by simp)
theorem qcd {bs : List Int} (hb : ∀ c ∈ bs, 0 ≤ c ∧ c ≤ 255) {c : Bool} {st : Option Nat} {zk : Int} {a' : Nat} (h : (zp bs c st zk).2 = some a') :
  ∃ a0, st = some a0 ∧ bs.drop a0 = (if c = true then vi (zp bs c st zk).1 else []) ++ bs.drop a' ∧ (a0 ≤ bs.length → a' ≤ bs.length) := by
 cases c with
 | false => exact ⟨a', h, rfl, id⟩
 | true =>
  cases st with
  | none => exact absurd h (by unfold zp; simp)
  | some a0 =>
   unfold zp at h ⊢
   simp only [if_true] at h ⊢
   cases ht : tk bs a0 zk with
   | none => rw [ht] at h; cases h
   | some p =>
    obtain ⟨w, a2⟩ := p
    rw [ht] at h
    cases h
    obtain ⟨e, _, _, _, _, l⟩ := qaO hb ht
    exact ⟨a0, rfl, e, fun _ => l⟩
theorem qcI {bs : List Int} {a : Nat} {c : Bool} {v zk : Int} {r : List Int} (h : bs.drop a = (if c = true then vi v else []) ++ r) (ha : a ≤ bs.length) (h0 : 0 ≤ v) (h1 : v < 18446744073709551616) (hm : v ≤ zk) (hz : c = false → v = 0) :
  ∃ a', zp bs c (some a) zk = (v, some a') ∧ bs.drop a' = r ∧ a' ≤ bs.length := by
 cases c with
 | false =>
  have := hz rfl
  subst this
  exact ⟨a, rfl, by simpa using h, ha⟩
 | true =>
  rw [if_pos rfl] at h
  obtain ⟨k1, k2⟩ := qib (zk := zk) h h0 h1 hm
  have hl := congrArg List.length h
  simp only [List.length_drop, List.length_append] at hl
  refine ⟨a + (vi v).length, ?_, k2, by omega⟩
  unfold zp
  rw [if_pos rfl]
  dsimp only
  rw [k1]
theorem qoV {bs : List Int} (hb : ∀ c ∈ bs, 0 ≤ c ∧ c ≤ 255) {st : Option Nat} {a' : Nat} (h : (spS bs st).2.2 = some a') :
  ∃ a0, st = some a0 ∧ bs.drop a0 = ((spS bs st).1 * 16 + (spS bs st).2.1) :: bs.drop a' ∧ a' ≤ bs.length := by
 cases st with
 | none => cases h
 | some a0 =>
  unfold spS at h ⊢
  dsimp only at h ⊢
  cases hc : bs[a0]? with
  | none => rw [hc] at h; cases h
  | some c =>
   rw [hc] at h
   dsimp only at h ⊢
   obtain ⟨c0, c1⟩ := hb c (List.mem_of_getElem? hc)
   obtain ⟨e, hlt⟩ := qes hc
   by_cases ho : okS (c / 16) (c % 16) = true
   ·rw [if_pos ho] at h ⊢
    cases h
    exact ⟨a0, rfl, by rw [e]; congr 1; dsimp only; omega, hlt⟩
   ·rw [if_neg ho] at h; cases h
theorem qp2 {bs : List Int} {a : Nat} {lo hi : Int} {r : List Int} (h : bs.drop a = (lo * 16 + hi) :: r) (ha : a ≤ bs.length) (ho : okS lo hi = true) : spS bs (some a) = (lo, hi, some (a + 1)) ∧ bs.drop (a + 1) = r ∧ a + 1 ≤ bs.length := by
 obtain ⟨g1, g2⟩ := qkb h
 have hs := (qag _ _).1 ho
 refine ⟨?_, g2, (qes g1).2⟩
 unfold spS
 dsimp only
 rw [g1]
 dsimp only
 rw [show (lo * 16 + hi) / 16 = lo from by omega, show (lo * 16 + hi) % 16 = hi from by omega, if_pos ho]
def hd3 (k f i lo hi s t l e b : Int) (r : List Int) : List Int :=
 k :: (vi f ++ (vi i ++ ((lo * 16 + hi) :: ((if qv k 0 = true then vi s else []) ++ ((if qv k 1 = true then vi t else []) ++ ((if qv k 2 = true then vi l else []) ++ ((if qv k 2 = true then vi e else []) ++ ((if qv k 3 = true then vi b else []) ++ r))))))))
theorem qg0 (k f i lo hi s t l e b : Int) (qd qb : LR) : qbP k f i lo hi s t l e b qd qb = hd3 k f i lo hi s t l e b ((if qv k 4 = true then vi (qd.length : Int) else []) ++ ZQ (qa3 b qb) (-1) qd) := by
 unfold qbP qot hd3
 cases qv k 2 <;> simp
theorem qpt {bs : List Int} (hb : ∀ c ∈ bs, 0 ≤ c ∧ c ≤ 255) {k f i lo hi s t l e b : Int} {a : Nat} (h : hdS bs = some (k, f, i, lo, hi, s, t, l, e, b, a)) :
  bs = hd3 k f i lo hi s t l e b (bs.drop a) ∧ a ≤ bs.length ∧ q0 k f i lo hi s t l e b [] = true := by
 unfold hdS at h
 dsimp only at h
 generalize hF : zp bs true (qae bs) 4095 = F at h
 generalize hI : zp bs true F.2 281474976710655 = I at h
 generalize hP : spS bs I.2 = P at h
 generalize hS : zp bs (qv (hdK bs) 0) P.2.2 65535 = S at h
 generalize hT : zp bs (qv (hdK bs) 1) S.2 4095 = T at h
 generalize hL : zp bs (qv (hdK bs) 2) T.2 281474976710655 = L at h
 generalize hE : zp bs (qv (hdK bs) 2) L.2 65535 = E at h
 generalize hB : zp bs (qv (hdK bs) 3) E.2 65535 = B at h
 cases hB2 : B.2 with
 | none => rw [hB2] at h; cases h
 | some a' =>
  rw [hB2] at h
  dsimp only at h
  by_cases hv : q0 (hdK bs) F.1 I.1 P.1 P.2.1 S.1 T.1 L.1 E.1 B.1 [] = true
  ·rw [if_pos hv] at h
   cases h
   obtain ⟨a8, q8, e8, l8⟩ := qcd hb (h := by rw [hB]; exact hB2)
   obtain ⟨a7, q7, e7, l7⟩ := qcd hb (h := by rw [hE]; exact q8)
   obtain ⟨a6, q6, e6, l6⟩ := qcd hb (h := by rw [hL]; exact q7)
   obtain ⟨a5, q5, e5, l5⟩ := qcd hb (h := by rw [hT]; exact q6)
   obtain ⟨a4, q4, e4, l4⟩ := qcd hb (h := by rw [hS]; exact q5)
   obtain ⟨a3, q3, e3, l3⟩ := qoV hb (h := by rw [hP]; exact q4)
   obtain ⟨a2, q2, e2, l2⟩ := qcd hb (h := by rw [hI]; exact q3)
   obtain ⟨a1, q1, e1, l1⟩ := qcd hb (h := by rw [hF]; exact q2)
   rw [hF] at e1
   rw [hI] at e2
   rw [hP] at e3
   rw [hS] at e4
   rw [hT] at e5
   rw [hL] at e6
   rw [hE] at e7
   rw [hB] at e8
   have h1 : 0 < bs.length ∧ a1 = 1 := by
    unfold qae at q1
    by_cases h0 : 0 < bs.length
    ·rw [if_pos h0] at q1; cases q1; exact ⟨h0, rfl⟩
    ·rw [if_neg h0] at q1; cases q1
   obtain ⟨h0, rfl⟩ := h1
   have hk : bs = hdK bs :: bs.drop 1 := by
    cases bs with
    | nil => simp at h0
    | cons x m => rfl
   refine ⟨?_, l8 (l7 (l6 (l5 (l4 l3)))), hv⟩
   unfold hd3
   rw [← e8, ← e7, ← e6, ← e5, ← e4, ← e3]
   rw [if_pos rfl] at e1 e2
   rw [← e2, ← e1]
   exact hk
  ·rw [if_neg hv] at h; cases h
theorem qqo {bs : List Int} {k f i lo hi s t l e b : Int} {r : List Int} (h : bs = hd3 k f i lo hi s t l e b r) (hv : q0 k f i lo hi s t l e b [] = true) :
  ∃ a, hdS bs = some (k, f, i, lo, hi, s, t, l, e, b, a) ∧ bs.drop a = r ∧ a ≤ bs.length := by
 obtain ⟨v1, v2, v3, v4, v5, v6, v7, v8, v9, v10, v11, v12, v13, v14⟩ := Qj hv
 obtain ⟨w1, w2, w3, w4, w5, w6, w7, w8, _⟩ := qdc v12
 obtain ⟨z1, z2⟩ := qjr hv
 unfold hd3 at h
 have hlen : 0 < bs.length := by rw [h]; simp
 have hk : hdK bs = k := by rw [h]; all_goals rfl
 have hst : qae bs = some 1 := by unfold qae; rw [if_pos hlen]
 have d1 : bs.drop 1 = (if true = true then vi f else []) ++ (vi i ++ ((lo * 16 + hi) :: ((if qv k 0 = true then vi s else []) ++ ((if qv k 1 = true then vi t else []) ++ ((if qv k 2 = true then vi l else []) ++ ((if qv k 2 = true then vi e else []) ++ ((if qv k 3 = true then vi b else []) ++ r))))))) := by rw [h]; all_goals rfl
 obtain ⟨a1, e1, d1, l1⟩ := qcI (zk := 4095) d1 hlen v3 (by omega) v4 (by simp)
 obtain ⟨a2, e2, d2, l2⟩ := qcI (c := true) (zk := 281474976710655) d1 l1 v5 (by omega) v6 (by simp)
 obtain ⟨e3, d3, l3⟩ := qp2 d2 l2 v7
 obtain ⟨a4, e4, d4, l4⟩ := qcI (zk := 65535) d3 l3 v8 (by omega) v9 z1
 obtain ⟨a5, e5, d5, l5⟩ := qcI (zk := 4095) d4 l4 v10 (by omega) v11 z2
 obtain ⟨a6, e6, d6, l6⟩ := qcI (zk := 281474976710655) d5 l5 w1 (by omega) w2 (fun hh => (w7 hh).1)
 obtain ⟨a7, e7, d7, l7⟩ := qcI (zk := 65535) d6 l6 w3 (by omega) w4 (fun hh => (w7 hh).2)
 obtain ⟨a8, e8, d8, l8⟩ := qcI (zk := 65535) d7 l7 w5 (by omega) w6 w8
 refine ⟨a8, ?_, d8, l8⟩
 unfold hdS
 dsimp only
 rw [hk, hst, e1]
 dsimp only
 rw [e2]
 dsimp only
 rw [e3]
 dsimp only
 rw [e4]
 dsimp only
 rw [e5]
 dsimp only
 rw [e6]
 dsimp only
 rw [e7]
 dsimp only
 rw [e8]
 dsimp only
 rw [if_pos hv]
abbrev qrq := Int × Int × Int × Int × Int × Int × Int × Int × Int × Int × LR
def qfQ (bs : List Int) (qb : LR) (k : Int) (a : Nat) : Option (LR × Nat) :=
 if qv k 4 = true then (match tk bs a 255 with
  | none => none
  | some (n, a1) => qcW bs qb n.toNat (-1) a1) else some ([], a)
def qh2 (bs : List Int) (qb : LR) : Option qrq :=
 match hdS bs with
 | none => none
 | some (k, f, i, lo, hi, s, t, l, e, b, a) =>
  match qfQ bs (qa3 b qb) k a with
  | none => none
  | some (rs, a2) => if a2 = bs.length ∧ bs.length ≤ 65499 ∧ q0 k f i lo hi s t l e b rs = true then some (k, f, i, lo, hi, s, t, l, e, b, rs) else none
theorem qmU {bs : List Int} (hb : ∀ c ∈ bs, 0 ≤ c ∧ c ≤ 255) {qb : LR} {k : Int} {a : Nat} {rs : LR} {a2 : Nat} (ha : a ≤ bs.length) (h : qfQ bs qb k a = some (rs, a2)) :
  bs.drop a = (if qv k 4 = true then vi (rs.length : Int) else []) ++ ZQ qb (-1) rs ++ bs.drop a2 ∧ a2 ≤ bs.length := by
 unfold qfQ at h
 cases h4 : qv k 4 with
 | false =>
  rw [h4, if_neg (by simp)] at h
  cases h
  exact ⟨rfl, ha⟩
 | true =>
  rw [h4, if_pos rfl] at h
  rw [if_pos rfl]
  cases ht : tk bs a 255 with
  | none => rw [ht] at h; cases h
  | some p =>
   obtain ⟨n, a1⟩ := p
   rw [ht] at h
   dsimp only at h
   obtain ⟨e1, n0, n1, _, _, l1⟩ := qaO hb ht
   obtain ⟨e2, l2, n2⟩ := qmV hb _ _ _ _ _ l1 h
   refine ⟨?_, l2⟩
   rw [e1, e2, n2, show ((n.toNat : Nat) : Int) = n from by omega, List.append_assoc]
theorem qoC {bs : List Int} (hb : ∀ c ∈ bs, 0 ≤ c ∧ c ≤ 255) {qb : LR} {k f i lo hi s t l e b : Int} {rs : LR} (h : qh2 bs qb = some (k, f, i, lo, hi, s, t, l, e, b, rs)) :
  qbP k f i lo hi s t l e b rs qb = bs ∧ q0 k f i lo hi s t l e b rs = true ∧ bs.length ≤ 65499 ∧ ∃ a, hdS bs = some (k, f, i, lo, hi, s, t, l, e, b, a) := by
 unfold qh2 at h
 cases hh : hdS bs with
 | none => rw [hh] at h; cases h
 | some p =>
  obtain ⟨k', f', i', lo', hi', s', t', l', e', b', a⟩ := p
  rw [hh] at h
  dsimp only at h
  obtain ⟨e1, l1, _⟩ := qpt hb hh
  cases hr : qfQ bs (qa3 b' qb) k' a with
  | none => rw [hr] at h; cases h
  | some q =>
   obtain ⟨rs', a2⟩ := q
   rw [hr] at h
   dsimp only at h
   obtain ⟨e2, l2⟩ := qmU hb l1 hr
   by_cases hc : a2 = bs.length ∧ bs.length ≤ 65499 ∧ q0 k' f' i' lo' hi' s' t' l' e' b' rs' = true
   ·rw [if_pos hc] at h
    obtain ⟨c1, c2, c3⟩ := hc
    cases h
    refine ⟨?_, c3, c2, a, rfl⟩
    rw [qg0]
    have e3 : bs.drop a = (if qv k 4 = true then vi (rs.length : Int) else []) ++ ZQ (qa3 b qb) (-1) rs := by
     rw [e2, c1, List.drop_length, List.append_nil]
    rw [← e3]
    exact e1.symm
   ·rw [if_neg hc] at h; cases h
theorem qh4 {qb : LR} (h : ∀ x ∈ qb, zw x = true) (b : Int) : ∀ x ∈ qa3 b qb, zw x = true := by
 unfold qa3
 split
 ·simp
 ·exact h
theorem qpE {qb : LR} (Qz : ∀ x ∈ qb, zw x = true) {k f i lo hi s t l e b : Int} {rs : LR} (hv : q0 k f i lo hi s t l e b rs = true) (hlen : (qbP k f i lo hi s t l e b rs qb).length ≤ 65499) :
  qh2 (qbP k f i lo hi s t l e b rs qb) qb = some (k, f, i, lo, hi, s, t, l, e, b, rs) := by
 obtain ⟨v1, v2, v3, v4, v5, v6, v7, v8, v9, v10, v11, v12, v13, v14⟩ := Qj hv
 obtain ⟨u1, u2⟩ := qgC hv
 generalize hbs : qbP k f i lo hi s t l e b rs qb = bs at hlen ⊢
 rw [qg0] at hbs
 obtain ⟨a, e1, d1, l1⟩ := qqo hbs.symm (qjs hv)
 have hr : qfQ bs (qa3 b qb) k a = some (rs, bs.length) := by
  unfold qfQ
  cases h4 : qv k 4 with
  | false =>
   rw [h4] at d1
   have := u1 h4
   subst this
   have hl := congrArg List.length d1
   simp [ZQ] at hl
   rw [if_neg (by simp), show a = bs.length from by omega]
  | true =>
   rw [h4, if_pos rfl] at d1
   rw [if_pos rfl]
   obtain ⟨k1, k2⟩ := qib (zk := 255) d1 (by omega) (by omega) (by omega)
   rw [k1]
   dsimp only
   obtain ⟨k3, k4⟩ := qjT (qh4 Qz b) rs (-1) _ [] v14 (by omega) u2 (by rw [k2, List.append_nil])
   rw [Int.toNat_natCast, k3]
   have hl := congrArg List.length d1
   simp only [List.length_drop, List.length_append] at hl
   rw [show a + (vi (rs.length : Int)).length + (ZQ (qa3 b qb) (-1) rs).length = bs.length from by omega]
 unfold qh2
 rw [e1]
 dsimp only
 rw [hr]
 dsimp only
 rw [if_pos ⟨rfl, hlen, hv⟩]
def enc : Option Nat → Int
 | some a => (a : Int)
 | none => -1
def qj5 : Env := ⟨th, gam [], fun i => ⟨[], [], []⟩⟩
def qbk.k (rs : List AV) (os : List Den.Obj) : Option (Int × Int × Int × Int × Int × Int × Int × Int × Int × Int × LR) :=
 match rs, os with
 | [.agg [.d (.int .i64) r0, .d (.int .i64) r1, .d (.int .i64) r2, .d (.int .i64) r3, .d (.int .i64) r4, .d (.int .i64) r5, .d (.int .i64) r6, .d (.int .i64) r7, .d (.int .i64) r8, .d (.int .i64) r9, .d (.sl (.pair (.int .i64) (.pair (.int .i64) (.pair (.int .i64) (.pair (.pair (.int .i64) (.int .i64)) (.pair .bool (.sl (.pair (.int .i64) (.sl (.int .u8)))))))))) r10]], [] => some (r0, r1, r2, r3, r4, r5, r6, r7, r8, r9, r10)
 | _, _ => none
def qbk.b (qm qB qM qf qg qL qj qA qo qw : Int) (qh : LR) : Option (Int × Int × Int × Int × Int × Int × Int × Int × Int × Int × LR) :=
 some (qm, qB, qM, qf, qg, qL, qj, qA, qo, qw, ([] : LR))
def qbk.f (qa : Nat) (qm qB qM qf qg qL qj qA qo qw : Int) (qh : LR) : Option (Int × Int × Int × Int × Int × Int × Int × Int × Int × Int × LR) := qbk.b qm qB qM qf qg qL qj qA qo qw qh
theorem qbk.eq (qa : Nat) (qm qB qM qf qg qL qj qA qo qw : Int) (qh : LR) : (denF qj5 loopN qa Tryz.f16 [.dat (.pair tQi (.pair tQi (.pair tQi (.pair (.pair tQi tQi) (.pair tQi (.pair tQi (.pair tQi (.pair tQi (.pair tQi (.sl tQr)))))))))) true] [.agg [.d tQi qm, .d tQi qB, .d tQi qM, .d tQi qf, .d tQi qg, .d tQi qL, .d tQi qj, .d tQi qA, .d tQi qo, .d tQi qw, .d (.sl tQr) qh]] [] qbk.k) = qbk.f qa qm qB qM qf qg qL qj qA qo qw qh := by
 kernel_rfl
def qb7 : Den.Sum := ⟨[.dat (.pair tQi (.pair tQi (.pair tQi (.pair (.pair tQi tQi) (.pair tQi (.pair tQi (.pair tQi (.pair tQi (.pair tQi (.sl tQr)))))))))) true], fun qH ql κ => match qH, ql with
 | [.agg [.d (.int .i64) qm, .d (.int .i64) qB, .d (.int .i64) qM, .d (.int .i64) qf, .d (.int .i64) qg, .d (.int .i64) qL, .d (.int .i64) qj, .d (.int .i64) qA, .d (.int .i64) qo, .d (.int .i64) qw, .d (.sl (.pair (.int .i64) (.pair (.int .i64) (.pair (.int .i64) (.pair (.pair (.int .i64) (.int .i64)) (.pair .bool (.sl (.pair (.int .i64) (.sl (.int .u8)))))))))) qh]], [] => (match veil (qbk.f BIG qm qB qM qf qg qL qj qA qo qw qh) with | none => none | some y => κ [.agg [.d (.int .i64) y.1, .d (.int .i64) y.2.1, .d (.int .i64) y.2.2.1, .d (.int .i64) y.2.2.2.1, .d (.int .i64) y.2.2.2.2.1, .d (.int .i64) y.2.2.2.2.2.1, .d (.int .i64) y.2.2.2.2.2.2.1, .d (.int .i64) y.2.2.2.2.2.2.2.1, .d (.int .i64) y.2.2.2.2.2.2.2.2.1, .d (.int .i64) y.2.2.2.2.2.2.2.2.2.1, .d (.sl (.pair (.int .i64) (.pair (.int .i64) (.pair (.int .i64) (.pair (.pair (.int .i64) (.int .i64)) (.pair .bool (.sl (.pair (.int .i64) (.sl (.int .u8)))))))))) y.2.2.2.2.2.2.2.2.2.2]] [])
 | _, _ => none⟩
theorem qkE : SumDet qb7 := zi fun _ _ _ _ => by
 unfold qb7
 simp only [veil_eq]
 split
 ·split <;> rfl
 ·rfl
theorem qlE : SumOk Tryz.prog 16 qb7 := by
 have hE : EnvOk Tryz.prog qj5 := env_ok (l := []) th_ok qX trivial _
 refine sum_ok hE Tryz.func16 rfl (by kernel_rfl) qb7 [.dat (.pair tQi (.pair tQi (.pair tQi (.pair (.pair tQi tQi) (.pair tQi (.pair tQi (.pair tQi (.pair tQi (.pair tQi (.sl tQr)))))))))) true] qbk.k ?_
 intro R avs ql κ r h
 unfold qb7 at h
 simp only [veil_eq] at h
 split at h
 ·rename_i qm qB qM qf qg qL qj qA qo qw qh
  split at h
  ·cases h
  ·rename_i y hy
   refine ⟨BIG, _, _, _, (qbk.eq BIG qm qB qM qf qg qL qj qA qo qw qh).trans hy, ?_, h⟩
   intro rs ros hk
   unfold qbk.k at hk
   split at hk
   ·rw [← sj hk]; exact ⟨rfl, rfl⟩
   ·cases hk
 ·cases h
def qhx : Env := ⟨th, gam [], fun i => ⟨[], [], []⟩⟩
def QZ.k (rs : List AV) (os : List Den.Obj) : Option Int :=
 match rs, os with
 | [.d (.int .i64) r0], [] => some r0
 | _, _ => none
def QZ.b (v : Int) : Option Int :=
 some ((bits BinOp.xor .i64 (IntKind.wrap .i64 (Int.fdiv v ((2 : Int) ^ (Min.min (Int.toNat (1 : Int)) (IntKind.bits .u64))))) (IntKind.wrap .i64 ((0 : Int) - (IntKind.wrap .i64 (bits BinOp.and .u64 v (1 : Int)))))))
def QZ.f (qa : Nat) (v : Int) : Option Int := QZ.b v
theorem QZ.eq (qa : Nat) (v : Int) : (denF qhx loopN qa Tryz.f123 [.raw] [.d (.int .u64) v] [] QZ.k) = QZ.f qa v := by
 kernel_rfl
def qbd : Den.Sum := ⟨[.raw], fun qH ql κ => match qH, ql with
 | [.d (.int .u64) v], [] => (match veil (QZ.f BIG v) with | none => none | some y => κ [.d (.int .i64) y] [])
 | _, _ => none⟩
theorem qiV : SumDet qbd := zi fun _ _ _ _ => by
 unfold qbd
 simp only [veil_eq]
 split
 ·split <;> rfl
 ·rfl
theorem qjA : SumOk Tryz.prog 123 qbd := by
 have hE : EnvOk Tryz.prog qhx := env_ok (l := []) th_ok qX trivial _
 refine sum_ok hE Tryz.func123 rfl (by kernel_rfl) qbd [.raw] QZ.k ?_
 intro R avs ql κ r h
 unfold qbd at h
 simp only [veil_eq] at h
 split at h
 ·rename_i v
  split at h
  ·cases h
  ·rename_i y hy
   refine ⟨BIG, _, _, _, (QZ.eq BIG v).trans hy, ?_, h⟩
   intro rs ros hk
   unfold QZ.k at hk
   split at hk
   ·rw [← sj hk]; exact ⟨rfl, rfl⟩
   ·cases hk
 ·cases h
def qiL : Env := ⟨th, gam [(51, qaC), (74, ZK)], fun i => ⟨[], [], []⟩⟩
def ZM.k (rs : List AV) (os : List Den.Obj) : Option (Int × Int × Int × Int × Int × Int × Int × Int × Int × Int × LR × Int) :=
 match rs, os with
 | [.agg [.d (.int .i64) r0, .d (.int .i64) r1, .d (.int .i64) r2, .d (.int .i64) r3, .d (.int .i64) r4, .d (.int .i64) r5, .d (.int .i64) r6, .d (.int .i64) r7, .d (.int .i64) r8, .d (.int .i64) r9, .d (.sl (.pair (.int .i64) (.pair (.int .i64) (.pair (.int .i64) (.pair (.pair (.int .i64) (.int .i64)) (.pair .bool (.sl (.pair (.int .i64) (.sl (.int .u8)))))))))) r10], .d (.int .i64) r11], [] => some (r0, r1, r2, r3, r4, r5, r6, r7, r8, r9, r10, r11)
 | _, _ => none
def ZM.b (b : List Int) : Option (Int × Int × Int × Int × Int × Int × Int × Int × Int × Int × LR × Int) :=
 (if (inB b) then (match (veil (zX.f BIG b 0 false false)) with | none => none | some y0 => (if y0.2.2.2.2.2.2.2.2.2.2.2.1 then some (0, 0, 0, 0, 0, 0, 0, 0, 0, 0, ([] : LR), (4 : Int)) else some (y0.1, y0.2.1, y0.2.2.1, y0.2.2.2.1, y0.2.2.2.2.1, y0.2.2.2.2.2.1, y0.2.2.2.2.2.2.1, y0.2.2.2.2.2.2.2.1, y0.2.2.2.2.2.2.2.2.1, y0.2.2.2.2.2.2.2.2.2.1, y0.2.2.2.2.2.2.2.2.2.2.1, (0 : Int)))) else none)
def ZM.f (qa : Nat) (b : List Int) : Option (Int × Int × Int × Int × Int × Int × Int × Int × Int × Int × LR × Int) := ZM.b b
theorem ZM.eq (qa : Nat) (b : List Int) : (denF qiL loopN qa Tryz.f54 [.dat (.pair tQi (.pair tQi (.pair tQi (.pair (.pair tQi tQi) (.pair tQi (.pair tQi (.pair tQi (.pair tQi (.pair tQi (.sl tQr)))))))))) true, .raw] [.d (.sl (.int .u8)) b] [] ZM.k) = ZM.f qa b := by
 kernel_rfl
def qbL : Den.Sum := ⟨[.dat (.sl (.int .u8)) false], fun qH ql κ => match qH, ql with
 | [.d (.sl (.int .u8)) b], [] => (match veil (ZM.f BIG b) with | none => none | some y => κ [.agg [.d (.int .i64) y.1, .d (.int .i64) y.2.1, .d (.int .i64) y.2.2.1, .d (.int .i64) y.2.2.2.1, .d (.int .i64) y.2.2.2.2.1, .d (.int .i64) y.2.2.2.2.2.1, .d (.int .i64) y.2.2.2.2.2.2.1, .d (.int .i64) y.2.2.2.2.2.2.2.1, .d (.int .i64) y.2.2.2.2.2.2.2.2.1, .d (.int .i64) y.2.2.2.2.2.2.2.2.2.1, .d (.sl (.pair (.int .i64) (.pair (.int .i64) (.pair (.int .i64) (.pair (.pair (.int .i64) (.int .i64)) (.pair .bool (.sl (.pair (.int .i64) (.sl (.int .u8)))))))))) y.2.2.2.2.2.2.2.2.2.2.1], .d (.int .i64) y.2.2.2.2.2.2.2.2.2.2.2] [])
 | _, _ => none⟩
theorem qjN : SumDet qbL := zi fun _ _ _ _ => by
 unfold qbL
 simp only [veil_eq]
 split
 ·split <;> rfl
 ·rfl
theorem qkI : SumOk Tryz.prog 54 qbL := by
 have hE : EnvOk Tryz.prog qiL := env_ok (l := [(51, qaC), (74, ZK)]) th_ok qX ⟨⟨qdu, qcP⟩, ⟨qgu, qfY⟩, trivial⟩ _
 refine sum_ok hE Tryz.func54 rfl (by kernel_rfl) qbL [.dat (.pair tQi (.pair tQi (.pair tQi (.pair (.pair tQi tQi) (.pair tQi (.pair tQi (.pair tQi (.pair tQi (.pair tQi (.sl tQr)))))))))) true, .raw] ZM.k ?_
 intro R avs ql κ r h
 unfold qbL at h
 simp only [veil_eq] at h
 split at h
 ·rename_i b
  split at h
  ·cases h
  ·rename_i y hy
   refine ⟨BIG, _, _, _, (ZM.eq BIG b).trans hy, ?_, h⟩
   intro rs ros hk
   unfold ZM.k at hk
   split at hk
   ·rw [← sj hk]; exact ⟨rfl, rfl⟩
   ·cases hk
 ·cases h
def qj4 : Env := ⟨th, gam [(66, qfs)], fun i => ⟨[], [], []⟩⟩
def qaW.k (rs : List AV) (os : List Den.Obj) : Option ByteArray :=
 match rs, os with
 | [.d .str r0], [] => some r0
 | _, _ => none
def qaW.b (qk : Int) : Option ByteArray :=
 some ((ofF qk).1)
def qaW.f (qa : Nat) (qk : Int) : Option ByteArray := qaW.b qk
theorem qaW.eq (qa : Nat) (qk : Int) : (denF qj4 loopN qa Tryz.f39 [.raw] [.d tQi qk] [] qaW.k) = qaW.f qa qk := by
 kernel_rfl
def qb6 : Den.Sum := ⟨[.raw], fun qH ql κ => match qH, ql with
 | [.d (.int .i64) qk], [] => (match veil (qaW.f BIG qk) with | none => none | some y => κ [.d .str y] [])
 | _, _ => none⟩
theorem qkD : SumDet qb6 := zi fun _ _ _ _ => by
 unfold qb6
 simp only [veil_eq]
 split
 ·split <;> rfl
 ·rfl
theorem qlD : SumOk Tryz.prog 39 qb6 := by
 have hE : EnvOk Tryz.prog qj4 := env_ok (l := [(66, qfs)]) th_ok qX ⟨⟨qkC, qiZ⟩, trivial⟩ _
 refine sum_ok hE Tryz.func39 rfl (by kernel_rfl) qb6 [.raw] qaW.k ?_
 intro R avs ql κ r h
 unfold qb6 at h
 simp only [veil_eq] at h
 split at h
 ·rename_i qk
  split at h
  ·cases h
  ·rename_i y hy
   refine ⟨BIG, _, _, _, (qaW.eq BIG qk).trans hy, ?_, h⟩
   intro rs ros hk
   unfold qaW.k at hk
   split at hk
   ·rw [← sj hk]; exact ⟨rfl, rfl⟩
   ·cases hk
 ·cases h
def qit : Env := ⟨th, gam [(33, qdm)], fun i => ⟨[], [], []⟩⟩
def Q9.k (rs : List AV) (os : List Den.Obj) : Option ByteArray :=
 match rs, os with
 | [.d .str r0], [] => some r0
 | _, _ => none
def Q9.b (sLo sHi : Int) : Option ByteArray :=
 (if (!(okS sLo sHi)) then some ((⟨(([] : List UInt8)).toArray⟩ : ByteArray)) else some ((strOf ((IntKind.wrap .u8 (IntKind.wrap .i64 ((48 : Int) + sLo))) :: ((45 : Int) :: ((IntKind.wrap .u8 (IntKind.wrap .i64 ((48 : Int) + sHi))) :: ([] : List Int)))))))
def Q9.f (qa : Nat) (sLo sHi : Int) : Option ByteArray := Q9.b sLo sHi
theorem Q9.eq (qa : Nat) (sLo sHi : Int) : (denF qit loopN qa Tryz.f40 [.raw] [.agg [.d tQi sLo, .d tQi sHi]] [] Q9.k) = Q9.f qa sLo sHi := by
 kernel_rfl
def qaw : Den.Sum := ⟨[.dat (.pair tQi tQi) true], fun qH ql κ => match qH, ql with
 | [.agg [.d (.int .i64) sLo, .d (.int .i64) sHi]], [] => (match veil (Q9.f BIG sLo sHi) with | none => none | some y => κ [.d .str y] [])
 | _, _ => none⟩
theorem qfK : SumDet qaw := zi fun _ _ _ _ => by
 unfold qaw
 simp only [veil_eq]
 split
 ·split <;> rfl
 ·rfl
theorem qgm : SumOk Tryz.prog 40 qaw := by
 have hE : EnvOk Tryz.prog qit := env_ok (l := [(33, qdm)]) th_ok qX ⟨⟨qgl, qfi⟩, trivial⟩ _
 refine sum_ok hE Tryz.func40 rfl (by kernel_rfl) qaw [.raw] Q9.k ?_
 intro R avs ql κ r h
 unfold qaw at h
 simp only [veil_eq] at h
 split at h
 ·rename_i sLo sHi
  split at h
  ·cases h
  ·rename_i y hy
   refine ⟨BIG, _, _, _, (Q9.eq BIG sLo sHi).trans hy, ?_, h⟩
   intro rs ros hk
   unfold Q9.k at hk
   split at hk
   ·rw [← sj hk]; exact ⟨rfl, rfl⟩
   ·cases hk
 ·cases h
def qiF : Env := ⟨th, gam [], fun i => ⟨[], [], []⟩⟩
def qaE.k (rs : List AV) (os : List Den.Obj) : Option (List ByteArray) :=
 match rs, os with
 | [.d (.arr 4 .str) r0], [] => some r0
 | _, _ => none
def qaE.b (u : Unit) : Option (List ByteArray) :=
 some (((⟨((97 :: (108 :: (105 :: (118 :: (101 :: ([] : List UInt8))))))).toArray⟩ : ByteArray) :: ((⟨((115 :: (117 :: (115 :: (112 :: (101 :: (99 :: (116 :: ([] : List UInt8))))))))).toArray⟩ : ByteArray) :: ((⟨((100 :: (101 :: (97 :: (100 :: ([] : List UInt8)))))).toArray⟩ : ByteArray) :: ((⟨((108 :: (101 :: (102 :: (116 :: ([] : List UInt8)))))).toArray⟩ : ByteArray) :: ([] : List ByteArray))))))
def qaE.f (qa : Nat) (u : Unit) : Option (List ByteArray) := qaE.b u
theorem qaE.eq (qa : Nat) (u : Unit) : (denF qiF loopN qa Tryz.f68 [.raw] [] [] qaE.k) = qaE.f qa u := by
 kernel_rfl
def qbG : Den.Sum := ⟨[], fun qH ql κ => match qH, ql with
 | [], [] => (match veil (qaE.f BIG ()) with | none => none | some y => κ [.d (.arr 4 .str) y] [])
 | _, _ => none⟩
theorem qjG : SumDet qbG := zi fun _ _ _ _ => by
 unfold qbG
 simp only [veil_eq]
 split
 ·split <;> rfl
 ·rfl
theorem qkz : SumOk Tryz.prog 68 qbG := by
 have hE : EnvOk Tryz.prog qiF := env_ok (l := []) th_ok qX trivial _
 refine sum_ok hE Tryz.func68 rfl (by kernel_rfl) qbG [.raw] qaE.k ?_
 intro R avs ql κ r h
 unfold qbG at h
 simp only [veil_eq] at h
 split at h
 ·skip
  split at h
  ·cases h
  ·rename_i y hy
   refine ⟨BIG, _, _, _, (qaE.eq BIG ()).trans hy, ?_, h⟩
   intro rs ros hk
   unfold qaE.k at hk
   split at hk
   ·rw [← sj hk]; exact ⟨rfl, rfl⟩
   ·cases hk
 ·cases h
def qjV : Env := ⟨th, gam [(68, qbG)], fun i => ⟨[], [], []⟩⟩
def qac.k (rs : List AV) (os : List Den.Obj) : Option ByteArray :=
 match rs, os with
 | [.d .str r0], [] => some r0
 | _, _ => none
def qac.b (qch : Int) : Option ByteArray :=
 (if (decide (qch < (0 : Int))) then some ((⟨(([] : List UInt8)).toArray⟩ : ByteArray)) else (if (decide (qch > (3 : Int))) then some ((⟨(([] : List UInt8)).toArray⟩ : ByteArray)) else (match (veil (qaE.f BIG ())) with | none => none | some y0 => (match (idx y0 qch) with | none => none | some y1 => some (y1)))))
def qac.f (qa : Nat) (qch : Int) : Option ByteArray := qac.b qch
theorem qac.eq (qa : Nat) (qch : Int) : (denF qjV loopN qa Tryz.f43 [.raw] [.d tQi qch] [] qac.k) = qac.f qa qch := by
 kernel_rfl
def qb5 : Den.Sum := ⟨[.raw], fun qH ql κ => match qH, ql with
 | [.d (.int .i64) qch], [] => (match veil (qac.f BIG qch) with | none => none | some y => κ [.d .str y] [])
 | _, _ => none⟩
theorem qkB : SumDet qb5 := zi fun _ _ _ _ => by
 unfold qb5
 simp only [veil_eq]
 split
 ·split <;> rfl
 ·rfl
theorem qlC : SumOk Tryz.prog 43 qb5 := by
 have hE : EnvOk Tryz.prog qjV := env_ok (l := [(68, qbG)]) th_ok qX ⟨⟨qkz, qjG⟩, trivial⟩ _
 refine sum_ok hE Tryz.func43 rfl (by kernel_rfl) qb5 [.raw] qac.k ?_
 intro R avs ql κ r h
 unfold qb5 at h
 simp only [veil_eq] at h
 split at h
 ·rename_i qch
  split at h
  ·cases h
  ·rename_i y hy
   refine ⟨BIG, _, _, _, (qac.eq BIG qch).trans hy, ?_, h⟩
   intro rs ros hk
   unfold qac.k at hk
   split at hk
   ·rw [← sj hk]; exact ⟨rfl, rfl⟩
   ·cases hk
 ·cases h
theorem qrK.pure {bs : List Int} (hb : inB bs = true) : ZM.f BIG bs = some (match hdS bs with
  | none => (0, 0, 0, 0, 0, 0, 0, 0, 0, 0, [], 4)
  | some (k, f, i, lo, hi, s, t, l, e, b, _) => (k, f, i, lo, hi, s, t, l, e, b, [], 0)) := by
 unfold ZM.f ZM.b
 simp only [veil_eq]
 rw [if_pos hb]
 have h := head.pure bs hb
 cases hs : hdS bs with
 | none =>
  rw [hs] at h
  obtain ⟨k, f, i, lo, hi, s, t, l, e, b, a, bad, h⟩ := h
  rw [h]
  rfl
 | some x =>
  obtain ⟨k, f, i, lo, hi, s, t, l, e, b, a⟩ := x
  rw [hs] at h
  dsimp only at h
  rw [h.1]
  rfl
abbrev M12 := Int × Int × Int × Int × Int × Int × Int × Int × Int × Int × LR × Int
def z12 (e : Int) : M12 := (0, 0, 0, 0, 0, 0, 0, 0, 0, 0, [], e)
def qqL (m : M12) : M12 := (m.1, m.2.1, m.2.2.1, m.2.2.2.1, m.2.2.2.2.1, m.2.2.2.2.2.1, m.2.2.2.2.2.2.1, m.2.2.2.2.2.2.2.1, m.2.2.2.2.2.2.2.2.1, m.2.2.2.2.2.2.2.2.2.1, [], m.2.2.2.2.2.2.2.2.2.2.2)
def qaG (m : M12) : Int := m.2.2.2.2.2.2.2.2.2.2.2
def qlP (m : M12) : LR := m.2.2.2.2.2.2.2.2.2.2.1
def qlR (m : M12) : Prop := q0 m.1 m.2.1 m.2.2.1 m.2.2.2.1 m.2.2.2.2.1 m.2.2.2.2.2.1 m.2.2.2.2.2.2.1 m.2.2.2.2.2.2.2.1 m.2.2.2.2.2.2.2.2.1 m.2.2.2.2.2.2.2.2.2.1 m.2.2.2.2.2.2.2.2.2.2.1 = true
def okM (m : qrq) : M12 := (m.1, m.2.1, m.2.2.1, m.2.2.2.1, m.2.2.2.2.1, m.2.2.2.2.2.1, m.2.2.2.2.2.2.1, m.2.2.2.2.2.2.2.1, m.2.2.2.2.2.2.2.2.1, m.2.2.2.2.2.2.2.2.2.1, m.2.2.2.2.2.2.2.2.2.2, 0)
def qaH (b : List Int) (qb : LR) : M12 :=
 if Qs qb = true then (match qh2 b qb with
  | none => z12 4
  | some m => okM m) else z12 1
def qhR (b : List Int) : M12 := match hdS b with
 | none => z12 4
 | some (k, f, i, lo, hi, s, t, l, e, b, _) => (k, f, i, lo, hi, s, t, l, e, b, [], 0)
theorem qnk {b : List Int} {qb : LR} (hb : ∀ c ∈ b, 0 ≤ c ∧ c ≤ 255) (h : qaG (qaH b qb) = 0) :
  qlR (qaH b qb) ∧ qc5 (qaH b qb).1 (qaH b qb).2.1 (qaH b qb).2.2.1 (qaH b qb).2.2.2.1 (qaH b qb).2.2.2.2.1 (qaH b qb).2.2.2.2.2.1 (qaH b qb).2.2.2.2.2.2.1 (qaH b qb).2.2.2.2.2.2.2.1 (qaH b qb).2.2.2.2.2.2.2.2.1 (qaH b qb).2.2.2.2.2.2.2.2.2.1 (qaH b qb).2.2.2.2.2.2.2.2.2.2.1 qb = (b, 0) ∧ qhR b = qqL (qaH b qb) := by
 unfold qaH at h ⊢
 by_cases hs : Qs qb = true
 ·rw [if_pos hs] at h ⊢
  cases hd : qh2 b qb with
  | none => rw [hd] at h; exact absurd h (by unfold qaG z12; decide)
  | some m =>
   obtain ⟨k, f, i, lo, hi, s, t, l, e, b', rs⟩ := m
   obtain ⟨e1, e2, e3, a, e4⟩ := qoC hb hd
   dsimp only [okM]
   refine ⟨e2, ?_, ?_⟩
   ·unfold qc5
    rw [e2, hs, e1]
    simp only [Bool.and_self, if_true]
    rw [if_neg (by omega)]
   ·unfold qhR
    rw [e4]
    all_goals rfl
 ·rw [if_neg hs] at h
  exact absurd h (by unfold qaG z12; decide)
theorem qq7 {b : List Int} {qb : LR} (h : qaG (qaH b qb) ≠ 0) : qaH b qb = z12 (qaG (qaH b qb)) := by
 unfold qaH at h ⊢
 by_cases hs : Qs qb = true
 ·rw [if_pos hs] at h ⊢
  cases hd : qh2 b qb with
  | none => rfl
  | some m => rw [hd] at h; exact absurd rfl h
 ·rw [if_neg hs]; all_goals rfl
theorem qlt {k f i lo hi s t l e b : Int} {qd qb : LR} (hs : Qs qb = true) (h : (qc5 k f i lo hi s t l e b qd qb).2 = 0) :
  qaH (qc5 k f i lo hi s t l e b qd qb).1 qb = (k, f, i, lo, hi, s, t, l, e, b, qd, 0) ∧ q0 k f i lo hi s t l e b qd = true ∧ (qc5 k f i lo hi s t l e b qd qb).1.length ≤ 65499 := by
 unfold qc5 at h ⊢
 cases hv : q0 k f i lo hi s t l e b qd with
 | false => rw [hv] at h; exact absurd h (by simp)
 | true =>
  rw [hv, hs] at h
  rw [hs]
  simp only [Bool.and_self, if_true] at h ⊢
  by_cases hl : (qbP k f i lo hi s t l e b qd qb).length > 65499
  ·rw [if_pos hl] at h; exact absurd h (by decide)
  ·rw [if_neg hl]
   dsimp only
   refine ⟨?_, trivial, by omega⟩
   unfold qaH
   rw [if_pos hs, qpE (qbR hs).1 hv (by omega)]
   all_goals rfl
def qrx (gen : Int) : Int := if gen == 1 then 65535 else if gen == 2 then 4294967295 else 281474976710655
def qrE (qd : LR) : Bool := qd.any fun r => decide ((r.2.2.2.2.2.length : Int) > 0)
def qrz (gen : Int) (qd : LR) : Bool := qd.any fun r => decide (r.2.1 > qrx gen)
def qmb (b : Bool) (x : Int) : List Int := if b then [x] else []
def qrv (qk qz inc lo hi seq qp qW qK qb : Int) (qd : LR) (gen : Int) (bags incs : Bool) : List Int :=
 qmb (decide (gen < 3) && qk == 9) 1 ++ (qmb (decide (gen < 3) && qK != 0) 2 ++ (qmb (gen == 1 && bags) 3 ++ (qmb incs 4 ++ qmb (decide (qrl qk qz inc lo hi seq qp qW qK qb qd gen > 65499)) 5)))
def qrN (qk qz inc lo hi seq qp qW qK qb : Int) (qd : LR) (gen : Int) : List Int := if qqS qk qz inc lo hi seq qp qW qK qb qd gen then qrv qk qz inc lo hi seq qp qW qK qb qd gen (qrE qd) (qrz gen qd) else [0]
def qrS (qk qz inc lo hi seq qp qW qK qb : Int) (qd : LR) (gen : Int) : Bool := ((qrN qk qz inc lo hi seq qp qW qK qb qd gen).length : Int) == 0
def Q0 (gen : Int) (b : List Int) (qb : LR) : M12 :=
 if gen == 1 then ((Ql b).1, (Ql b).2.1, (Ql b).2.2.1, (Ql b).2.2.2.1, (Ql b).2.2.2.2.1, (Ql b).2.2.2.2.2.1, (Ql b).2.2.2.2.2.2.1, 0, 0, 0, (Ql b).2.2.2.2.2.2.2.1, (Ql b).2.2.2.2.2.2.2.2)
 else if gen == 2 then ((zN b).1, (zN b).2.1, (zN b).2.2.1, (zN b).2.2.2.1, (zN b).2.2.2.2.1, (zN b).2.2.2.2.2.1, (zN b).2.2.2.2.2.2.1, 0, 0, 0, (zN b).2.2.2.2.2.2.2.1, (zN b).2.2.2.2.2.2.2.2)
 else if gen == 3 then qaH b qb else z12 5
def zZ (gen : Int) (k f i lo hi s t l e b : Int) (qd qb : LR) : List Int × Int :=
 if gen == 1 then qd0 k f i lo hi s t l e b qd else if gen == 2 then qd1 k f i lo hi s t l e b qd else if gen == 3 then qc5 k f i lo hi s t l e b qd qb else ([], 5)
def QW (gen : Int) (b : List Int) : M12 := if gen == 3 then qhR b else qqL (Q0 gen b [])
def qoh (gen : Int) (m : M12) (qb : LR) : List Int × Int :=
 zZ gen m.1 m.2.1 m.2.2.1 m.2.2.2.1 m.2.2.2.2.1 m.2.2.2.2.2.1 m.2.2.2.2.2.2.1 m.2.2.2.2.2.2.2.1 m.2.2.2.2.2.2.2.2.1 m.2.2.2.2.2.2.2.2.2.1 m.2.2.2.2.2.2.2.2.2.2.1 qb
theorem qoX {qd : LR} (hr : ∀ r ∈ qd, zw r = true) (hn : qd.length < 1000000000) : za qd = true :=
 (QO _).2 ⟨by omega, fun r h => by
  have := (zE (hr r h)).2.2.2.2.2.2.2.1
  have h1 := Za this
  exact (Z6 _).2 ⟨by omega, fun x hx => by have := qbm this x hx; omega⟩⟩
theorem qmH {k f i lo hi s t l e b : Int} {qd : LR} (h : q0 k f i lo hi s t l e b qd = true) : za qd = true := by
 have := Qj h
 exact qoX this.2.2.2.2.2.2.2.2.2.2.2.2.2 (by have := this.2.2.2.2.2.2.2.2.2.2.2.2.1; omega)
theorem qi7 {gen : Int} {b : List Int} {qb : LR} (hb : ∀ c ∈ b, 0 ≤ c ∧ c ≤ 255) (hl : b.length < 1000000000) (h : qaG (Q0 gen b qb) = 0) :
  qlR (Q0 gen b qb) ∧ qoh gen (Q0 gen b qb) qb = (b, 0) ∧ 1 ≤ gen ∧ gen ≤ 3 := by
 unfold Q0 at h ⊢
 by_cases h1 : gen = 1
 ·subst h1
  rw [if_pos (by simp)] at h ⊢
  obtain ⟨i1, i2, i3⟩ := qrA b ((QP b).2 ⟨by omega, hb⟩) h
  have hv := (qdZ (by rw [← qdE]; exact i1)).1
  refine ⟨hv, ?_, by omega, by omega⟩
  unfold qoh zZ
  rw [if_pos (by simp)]
  dsimp only
  unfold qd0
  rw [hv, i1, i2]
  all_goals rfl
 ·rw [if_neg (by simpa using h1)] at h ⊢
  by_cases h2 : gen = 2
  ·subst h2
   rw [if_pos (by simp)] at h ⊢
   obtain ⟨i1, i2, i3⟩ := qrj b (qmh hb hl) h
   have hv := (qf7 i1).1
   refine ⟨hv, ?_, by omega, by omega⟩
   unfold qoh zZ
   rw [if_neg (by simp), if_pos (by simp)]
   dsimp only
   unfold qd1
   rw [hv, i1, i2]
   all_goals rfl
  ·rw [if_neg (by simpa using h2)] at h ⊢
   by_cases h3 : gen = 3
   ·subst h3
    rw [if_pos (by simp)] at h ⊢
    obtain ⟨d1, d2, d3⟩ := qnk hb h
    refine ⟨d1, ?_, by omega, by omega⟩
    unfold qoh zZ
    rw [if_neg (by simp), if_neg (by simp), if_pos (by simp)]
    exact d2
   ·rw [if_neg (by simpa using h3)] at h
    exact absurd h (by unfold qaG z12; decide)
theorem qp9 {gen : Int} {b : List Int} {qb : LR} (h : qaG (Q0 gen b qb) ≠ 0) : Q0 gen b qb = z12 (qaG (Q0 gen b qb)) := by
 unfold Q0 at h ⊢
 by_cases h1 : gen = 1
 ·subst h1
  rw [if_pos (by simp)] at h ⊢
  rw [qqx b h]; all_goals rfl
 ·rw [if_neg (by simpa using h1)] at h ⊢
  by_cases h2 : gen = 2
  ·subst h2
   rw [if_pos (by simp)] at h ⊢
   rw [qpF b h]; all_goals rfl
  ·rw [if_neg (by simpa using h2)] at h ⊢
   by_cases h3 : gen = 3
   ·subst h3
    rw [if_pos (by simp)] at h ⊢
    exact qq7 h
   ·rw [if_neg (by simpa using h3)]; all_goals rfl
theorem qmW {gen : Int} {b : List Int} {qb : LR} (hb : ∀ c ∈ b, 0 ≤ c ∧ c ≤ 255) (hl : b.length < 1000000000) : za (qlP (Q0 gen b qb)) = true := by
 by_cases h : qaG (Q0 gen b qb) = 0
 ·exact qmH (qi7 hb hl h).1
 ·rw [qp9 h]; all_goals rfl
theorem qdC {gen : Int} (P : Int → Prop) (h1 : P 1) (h2 : P 2) (h3 : P 3) (h0 : gen ≠ 1 → gen ≠ 2 → gen ≠ 3 → P gen) : P gen := by
 by_cases e1 : gen = 1
 ·subst e1; exact h1
 ·by_cases e2 : gen = 2
  ·subst e2; exact h2
  ·by_cases e3 : gen = 3
   ·subst e3; exact h3
   ·exact h0 e1 e2 e3
theorem qgf (k f i lo hi s t l e b : Int) (qd qb : LR) : zZ 1 k f i lo hi s t l e b qd qb = qd0 k f i lo hi s t l e b qd := rfl
theorem qge (k f i lo hi s t l e b : Int) (qd qb : LR) : zZ 2 k f i lo hi s t l e b qd qb = qd1 k f i lo hi s t l e b qd := rfl
theorem qeg (k f i lo hi s t l e b : Int) (qd qb : LR) : zZ 3 k f i lo hi s t l e b qd qb = qc5 k f i lo hi s t l e b qd qb := rfl
theorem qgg {gen : Int} (h1 : gen ≠ 1) (h2 : gen ≠ 2) (h3 : gen ≠ 3) (k f i lo hi s t l e b : Int) (qd qb : LR) : zZ gen k f i lo hi s t l e b qd qb = ([], 5) := by
 unfold zZ
 rw [if_neg (by simpa using h1), if_neg (by simpa using h2), if_neg (by simpa using h3)]
theorem qj1 (b : List Int) (qb : LR) : Q0 1 b qb = ((Ql b).1, (Ql b).2.1, (Ql b).2.2.1, (Ql b).2.2.2.1, (Ql b).2.2.2.2.1, (Ql b).2.2.2.2.2.1, (Ql b).2.2.2.2.2.2.1, 0, 0, 0, (Ql b).2.2.2.2.2.2.2.1, (Ql b).2.2.2.2.2.2.2.2) := rfl
theorem qj0 (b : List Int) (qb : LR) : Q0 2 b qb = ((zN b).1, (zN b).2.1, (zN b).2.2.1, (zN b).2.2.2.1, (zN b).2.2.2.2.1, (zN b).2.2.2.2.2.1, (zN b).2.2.2.2.2.2.1, 0, 0, 0, (zN b).2.2.2.2.2.2.2.1, (zN b).2.2.2.2.2.2.2.2) := rfl
theorem ql8 (b : List Int) (qb : LR) : Q0 3 b qb = qaH b qb := rfl
theorem qkT {k f i lo hi s t l e b : Int} {qd : LR} (h : (qd0 k f i lo hi s t l e b qd).2 = 0) : q0 k f i lo hi s t l e b qd = true ∧ qa2 k f i lo hi s t l e b qd = true ∧ l = 0 ∧ e = 0 ∧ b = 0 ∧ qd0 k f i lo hi s t l e b qd = (qcn k f i lo hi s t qd, 0) := by
 unfold qd0 at h ⊢
 cases hv : q0 k f i lo hi s t l e b qd with
 | false => rw [hv] at h; exact absurd h (by simp)
 | true =>
  rw [hv] at h
  cases hf : qa2 k f i lo hi s t l e b qd with
  | false => rw [hf] at h; exact absurd h (by simp)
  | true =>
   have hf' := hf
   rw [qdE] at hf'
   obtain ⟨h1, h2, h3⟩ := qoz hf'
   exact ⟨rfl, rfl, h1, h2, h3, rfl⟩
theorem qkS {k f i lo hi s t l e b : Int} {qd : LR} (h : (qd1 k f i lo hi s t l e b qd).2 = 0) : q0 k f i lo hi s t l e b qd = true ∧ k ≠ 9 ∧ l = 0 ∧ e = 0 ∧ b = 0 ∧ qcK qd = true ∧ (qab k f i lo hi s t qd).length ≤ 65499 ∧ qd1 k f i lo hi s t l e b qd = (qab k f i lo hi s t qd, 0) := by
 unfold qd1 at h ⊢
 cases hv : q0 k f i lo hi s t l e b qd with
 | false => rw [hv] at h; exact absurd h (by simp)
 | true =>
  rw [hv] at h
  cases hf : qbp k f i lo hi s t l e b qd with
  | false => rw [hf] at h; exact absurd h (by simp)
  | true =>
   have hf' := hf
   rw [qoA] at hf'
   obtain ⟨_, h9, h1, h2, h3, h2', hlen⟩ := qmo hf'
   exact ⟨rfl, h9, h1, h2, h3, h2', hlen, rfl⟩
theorem qgA {gen : Int} {k f i lo hi s t l e b : Int} {qd qb : LR} (Qz : gen = 3 → Qs qb = true) (h : (zZ gen k f i lo hi s t l e b qd qb).2 = 0) :
  Q0 gen (zZ gen k f i lo hi s t l e b qd qb).1 qb = (k, f, i, lo, hi, s, t, l, e, b, qd, 0) ∧ q0 k f i lo hi s t l e b qd = true ∧ (zZ gen k f i lo hi s t l e b qd qb).1.length ≤ 65499 ∧ 1 ≤ gen ∧ gen ≤ 3 := by
 revert Qz h
 refine qdC (gen := gen) (fun gen => (gen = 3 → Qs qb = true) → (zZ gen k f i lo hi s t l e b qd qb).2 = 0 → Q0 gen (zZ gen k f i lo hi s t l e b qd qb).1 qb = (k, f, i, lo, hi, s, t, l, e, b, qd, 0) ∧ q0 k f i lo hi s t l e b qd = true ∧ (zZ gen k f i lo hi s t l e b qd qb).1.length ≤ 65499 ∧ 1 ≤ gen ∧ gen ≤ 3) ?_ ?_ ?_ ?_
 ·intro _ h
  rw [qgf] at h ⊢
  obtain ⟨hv, hf, rfl, rfl, rfl, he⟩ := qkT h
  rw [qj1, he]
  dsimp only
  rw [qrT k f i lo hi s t qd hf]
  have := qqz k f i lo hi s t qd
  have hlen := (Qj hv).2.2.2.2.2.2.2.2.2.2.2.2.1
  exact ⟨rfl, hv, by omega, by omega, by omega⟩
 ·intro _ h
  rw [qge] at h ⊢
  obtain ⟨hv, h9, rfl, rfl, rfl, h2, hl, he⟩ := qkS h
  rw [qj0, he]
  dsimp only
  rw [qrF hv h9 h2 hl]
  exact ⟨rfl, hv, hl, by omega, by omega⟩
 ·intro hs h
  rw [qeg] at h ⊢
  rw [ql8]
  obtain ⟨q1, q2, q3⟩ := qlt (hs rfl) h
  exact ⟨q1, q2, q3, by omega, by omega⟩
 ·intro h1 h2 h3 _ h
  rw [qgg h1 h2 h3] at h
  exact absurd h (by simp)
def isB (l : List Int) : Prop := ∀ c ∈ l, 0 ≤ c ∧ c ≤ 255
theorem qap : isB [] := by simp [isB]
theorem qat {l m : List Int} (h1 : isB l) (h2 : isB m) : isB (l ++ m) := fun c hc => by
 rcases List.mem_append.1 hc with h | h
 ·exact h1 c h
 ·exact h2 c h
theorem ZX {x : Int} {m : List Int} (h0 : 0 ≤ x) (h1 : x ≤ 255) (h2 : isB m) : isB (x :: m) := fun c hc => by
 rcases List.mem_cons.1 hc with rfl | h
 ·exact ⟨h0, h1⟩
 ·exact h2 c h
theorem qgw {b : Bool} {l : List Int} (h : isB l) : isB (if b = true then l else []) := by
 cases b
 ·exact qap
 ·exact h
theorem qng {b : Bool} {l : List Int} (h : isB l) : isB (if b = true then [] else l) := by
 cases b
 ·exact h
 ·exact qap
theorem qk2 : ∀ (j : Nat) (v : Int), 0 ≤ v → v < 2 * 128 ^ j → isB (viF j v)
 | 0, v, h0, h1 => by
  rw [viF]
  exact ZX h0 (by simp at h1; omega) qap
 | j + 1, v, h0, h1 => by
  rw [viF]
  by_cases h : v ≥ 128
  ·rw [if_pos h]
   exact ZX (by omega) (by omega) (qk2 j (v / 128) (by omega) (by rw [Int.pow_succ] at h1; generalize (128 : Int) ^ j = M at h1 ⊢; omega))
  ·rw [if_neg h]
   exact ZX h0 (by omega) qap
theorem qaN {v : Int} (h0 : 0 ≤ v) (h1 : v < 18446744073709551616) : isB (vi v) := qk2 9 v h0 (by simpa using h1)
theorem qox {x : Int × List Int} (h0 : 0 ≤ x.1) (h1 : x.1 ≤ 255) (h2 : x.2.length ≤ 4096) (h3 : isB x.2) : isB (qbl x) :=
 ZX h0 h1 (qat (qaN (by omega) (by omega)) h3)
theorem qoH {b : LF} (h : qbQ b = true) (hb : ∀ x ∈ b, isB x.2) : isB (qbZ b) := by
 have hl := Za h
 have ht := qbm h
 exact qat (qaN (by omega) (by omega)) (qjd fun x hx => qox (by have := ht x hx; omega) (ht x hx).2.1 (ht x hx).2.2 (hb x hx))
theorem qmZ {o : REC × Bool} {r : REC} (hr : zw r = true) : 0 ≤ qeA o r ∧ qeA o r ≤ 31 := by
 obtain ⟨f1, f2, f3, f4, f5, f6, _⟩ := zE hr
 unfold qeA
 split <;> split <;> split <;> omega
theorem qof {qb : LR} (Qz : ∀ x ∈ qb, zw x = true) {qe : Int} {r : REC} (hr : zw r = true) (h1 : -1 ≤ qe) (h2 : qe < r.1) (hb : ∀ x ∈ r.2.2.2.2.2, isB x.2) : isB (qc4 (zC qb r.1) qe r) := by
 obtain ⟨f1, f2, f3, f4, f5, f6, f7, f8, f9⟩ := zE hr
 obtain ⟨o0, o1⟩ := qkO Qz r.1
 obtain ⟨z0, z1⟩ := qlS f3 f4 o0 o1
 obtain ⟨g0, g1⟩ := qmZ (o := zC qb r.1) hr
 have hs := (qag _ _).1 f7
 unfold qc4
 exact qat (qaN (by omega) (by omega)) (ZX g0 (by omega) (qat (qng (ZX (by omega) (by omega) qap)) (qat (qaN z0 (by omega)) (qng (qoH f8 hb)))))
theorem qiE {qb : LR} (Qz : ∀ x ∈ qb, zw x = true) : ∀ (l : LR) (qe : Int), (∀ r ∈ l, zw r = true) → -1 ≤ qe → qfP qe l → ZZ l → isB (ZQ qb qe l)
 | [], _, _, _, _, _ => qap
 | r :: l, qe, hr, h1, h2, hb => by
  have hm := hr r (List.mem_cons_self ..)
  have hid := (zE hm).1
  exact qat (qof Qz hm h1 h2.1 (hb r (List.mem_cons_self ..))) (qiE Qz l r.1 (fun x hx => hr x (List.mem_cons_of_mem _ hx)) (by omega) h2.2 (fun x hx => hb x (List.mem_cons_of_mem _ hx)))
theorem qm3 {k f i lo hi s t l e b : Int} {qd qb : LR} (hv : q0 k f i lo hi s t l e b qd = true) (Qz : ∀ x ∈ qb, zw x = true) (hb : ZZ qd) : isB (qbP k f i lo hi s t l e b qd qb) := by
 obtain ⟨v1, v2, v3, v4, v5, v6, v7, v8, v9, v10, v11, v12, v13, v14⟩ := Qj hv
 obtain ⟨w1, w2, w3, w4, w5, w6, _⟩ := qdc v12
 obtain ⟨_, hris⟩ := qgC hv
 have hs := (qag _ _).1 v7
 rw [qg0]
 unfold hd3
 exact ZX (by omega) (by omega) (qat (qaN v3 (by omega)) (qat (qaN v5 (by omega)) (ZX (by omega) (by omega) (qat (qgw (qaN v8 (by omega))) (qat (qgw (qaN v10 (by omega))) (qat (qgw (qaN w1 (by omega))) (qat (qgw (qaN w3 (by omega))) (qat (qgw (qaN w5 (by omega))) (qat (qgw (qaN (by omega) (by omega))) (qiE (qh4 Qz b) qd (-1) v14 (by omega) hris hb))))))))))
theorem qms : ∀ (l : LR) (qe : Int), (∀ r ∈ l, zw r = true) → isB (ZQ [] qe l) → ZZ l
 | [], _, _, _ => by intro r hr; simp at hr
 | r :: l, qe, hr, h => by
  have hm := hr r (List.mem_cons_self ..)
  have f9 := (zE hm).2.2.2.2.2.2.2.2
  have h1 : isB (qc4 (zC [] r.1) qe r) := fun c hc => h c (List.mem_append_left _ hc)
  have h2 : isB (ZQ [] r.1 l) := fun c hc => h c (List.mem_append_right _ hc)
  intro x hx
  rcases List.mem_cons.1 hx with rfl | hx
  ·intro y hy c hc
   refine h1 c ?_
   unfold qc4
   have hcut : x.2.2.2.2.1 = false := by
    cases hq : x.2.2.2.2.1 with
    | false => rfl
    | true => rw [f9 hq] at hy; simp at hy
   have hsb : qbS (zC [] x.1) x = false := rfl
   simp only [hsb, hcut, Bool.or_self, Bool.false_eq_true, if_false]
   refine List.mem_append_right _ (List.mem_cons_of_mem _ (List.mem_append_right _ (List.mem_append_right _ (List.mem_append_right _ (List.mem_flatMap.2 ⟨y, hy, ?_⟩)))))
   exact List.mem_cons_of_mem _ (List.mem_append_right _ hc)
  ·exact qms l r.1 (fun z hz => hr z (List.mem_cons_of_mem _ hz)) h2 x hx
theorem qqB {k f i lo hi s t : Int} {qd : LR} (h : isB (qab k f i lo hi s t qd)) : ZZ qd := by
 intro r hr y hy c hc
 refine h c ?_
 unfold qab
 refine List.mem_append_right _ (List.mem_append_right _ (List.mem_append_right _ (List.mem_append_right _ (List.mem_append_right _ (List.mem_append_right _ (List.mem_flatMap.2 ⟨r, hr, ?_⟩))))))
 unfold qdR Qe
 refine List.mem_cons_of_mem _ (List.mem_cons_of_mem _ (List.mem_cons_of_mem _ ?_))
 unfold Q5
 refine List.mem_append_right _ (List.mem_append_right _ (List.mem_append_right _ (List.mem_append_right _ (List.mem_flatMap.2 ⟨y, hy, ?_⟩))))
 exact List.mem_cons_of_mem _ (List.mem_cons_of_mem _ (List.mem_cons_of_mem _ hc))
theorem qnG {gen : Int} {k f i lo hi s t l e b : Int} {qd : LR} {bs : List Int} (h : zZ gen k f i lo hi s t l e b qd [] = (bs, 0)) (hb : isB bs) : ZZ qd := by
 revert h
 refine qdC (gen := gen) (fun gen => zZ gen k f i lo hi s t l e b qd [] = (bs, 0) → ZZ qd) ?_ ?_ ?_ ?_
 ·intro h
  rw [qgf] at h
  obtain ⟨hv, hf, _, _, _, _⟩ := qkT (by rw [h])
  rw [qdE] at hf
  have := (qdZ hf).2
  intro r hr x hx
  rw [(this r hr).2] at hx
  simp at hx
 ·intro h
  rw [qge] at h
  obtain ⟨_, _, _, _, _, _, _, he⟩ := qkS (by rw [h])
  rw [he] at h
  have e : qab k f i lo hi s t qd = bs := congrArg Prod.fst h
  exact qqB (by rw [e]; exact hb)
 ·intro h
  rw [qeg] at h
  obtain ⟨_, hv, _⟩ := qlt (qb := []) rfl (by rw [h])
  unfold qc5 at h
  rw [hv, show Qs [] = true from rfl] at h
  simp only [Bool.and_self, if_true] at h
  by_cases hl : (qbP k f i lo hi s t l e b qd []).length > 65499
  ·rw [if_pos hl] at h; cases h
  ·rw [if_neg hl] at h
   have e : qbP k f i lo hi s t l e b qd [] = bs := congrArg Prod.fst h
   rw [qg0, qpH] at e
   have hr : isB (ZQ [] (-1) qd) := fun c hc => hb c (by
    rw [← e]
    unfold hd3
    exact List.mem_cons_of_mem _ (List.mem_append_right _ (List.mem_append_right _ (List.mem_cons_of_mem _ (List.mem_append_right _ (List.mem_append_right _ (List.mem_append_right _ (List.mem_append_right _ (List.mem_append_right _ (List.mem_append_right _ hc))))))))))
   exact qms qd (-1) (Qj hv).2.2.2.2.2.2.2.2.2.2.2.2.2 hr
 ·intro h1 h2 h3 h
  rw [qgg h1 h2 h3] at h
  cases h
theorem qpV {gen : Int} {k f i lo hi s t l e b : Int} {qd qb : LR} (h : (zZ gen k f i lo hi s t l e b qd qb).2 ≠ 0) : (zZ gen k f i lo hi s t l e b qd qb).1 = [] := by
 revert h
 refine qdC (gen := gen) (fun gen => (zZ gen k f i lo hi s t l e b qd qb).2 ≠ 0 → (zZ gen k f i lo hi s t l e b qd qb).1 = []) ?_ ?_ ?_ ?_
 ·rw [qgf]
  unfold qd0
  cases q0 k f i lo hi s t l e b qd <;> cases qa2 k f i lo hi s t l e b qd <;> simp
 ·rw [qge]
  unfold qd1
  cases q0 k f i lo hi s t l e b qd <;> cases qbp k f i lo hi s t l e b qd <;> simp
 ·rw [qeg]
  unfold qc5
  split
  ·split
   ·intro _; rfl
   ·intro h; exact absurd rfl h
  ·intro _; rfl
 ·intro h1 h2 h3 _
  rw [qgg h1 h2 h3]
theorem qiq {gen : Int} {k f i lo hi s t l e b : Int} {qd qb : LR} (Qz : gen = 3 → Qs qb = true) (hb : ZZ qd) : isB (zZ gen k f i lo hi s t l e b qd qb).1 ∧ (zZ gen k f i lo hi s t l e b qd qb).1.length ≤ 65499 := by
 by_cases h : (zZ gen k f i lo hi s t l e b qd qb).2 = 0
 ·obtain ⟨_, hv, hl, _⟩ := qgA Qz h
  refine ⟨?_, hl⟩
  have hv' := Qj hv
  revert h Qz
  refine qdC (gen := gen) (fun gen => (gen = 3 → Qs qb = true) → (zZ gen k f i lo hi s t l e b qd qb).2 = 0 → isB (zZ gen k f i lo hi s t l e b qd qb).1) ?_ ?_ ?_ ?_
  ·intro _ h
   rw [qgf] at h ⊢
   obtain ⟨_, _, _, _, _, he⟩ := qkT h
   rw [he]
   exact ((QP _).1 (qkj k f i lo hi s t qd hv'.2.2.2.2.2.2.2.2.2.2.2.2.1)).2
  ·intro _ h
   rw [qge] at h ⊢
   obtain ⟨_, _, _, _, _, _, _, he⟩ := qkS h
   rw [he]
   exact qm5 hv'.2.2.2.2.2.2.2.2.2.2.2.2.2 hb
  ·intro hs h
   rw [qeg] at h ⊢
   unfold qc5 at h ⊢
   rw [hv, hs rfl] at h ⊢
   simp only [Bool.and_self, if_true] at h ⊢
   split
   ·exact qap
   ·exact qm3 hv (qbR (hs rfl)).1 hb
  ·intro h1 h2 h3 _ _
   rw [qgg h1 h2 h3]
   exact qap
 ·rw [qpV h]
  exact ⟨qap, by simp⟩
def qcl : Env := ⟨th, gam [(22, QU), (38, qa1), (39, qb6), (40, qaw), (41, qaa), (42, qfa)], fun i => if i = 4 then ⟨[1, 3], [], [777777]⟩ else if i = 6 then ⟨[1, 3], [], [777777]⟩ else if i = 8 then ⟨[1, 3], [], [777777]⟩ else if i = 10 then ⟨[3], [], [777777]⟩ else ⟨[], [], []⟩⟩
def qE.k (rs : List AV) (os : List Den.Obj) : Option ByteArray :=
 match rs, os with
 | [.d .str r0], [] => some r0
 | _, _ => none
def qE.s10 (qm qB qM qf qg qL qj qA qo qw : Int) (qh : LR) (x14 : (List ByteArray)) : St := ⟨[dD, dD, dD, .row 64, dD, dD, dD, dD, dD, dD, dD, dD, dD, dD, dD, dD, dD, dD, dD, dD, dD, dD, dD, dD, dD, dD, dD, dD, dD, dD, dD, dD, dD, dD, dD, dD, dD, dD, dD, dD, dD, dD, dD, dD, dD, dD, dD, dD, dD, dD, dD, dD, dD, dD, dD, dD, dD, dD, dD, .dead], ofL [(64, .row 9 .str x14 false)], 0⟩
def qE.p10 (qa : Nat) (qm qB qM qf qg qL qj qA qo qw : Int) (qh : LR) (k : Nat) := fun x14 => lp qcl qa Tryz.f23 [.raw] 0 qE.k 10 [] k (qE.s10 qm qB qM qf qg qL qj qA qo qw qh x14)
def qE.b10 (qm qB qM qf qg qL qj qA qo qw : Int) (qh : LR) (A10 : (List ByteArray) → Option ByteArray) (x14 : (List ByteArray)) : Option ByteArray :=
 (if (joinFits x14 (⟨((32 :: ([] : List UInt8))).toArray⟩ : ByteArray)) then some ((joinB x14 (⟨((32 :: ([] : List UInt8))).toArray⟩ : ByteArray))) else none)
def qE.l10 (qa : Nat) (qm qB qM qf qg qL qj qA qo qw : Int) (qh : LR) : Nat → (List ByteArray) → Option ByteArray
 | 0, _ => none
 | k + 1, x14 => qE.b10 qm qB qM qf qg qL qj qA qo qw qh (qE.l10 qa qm qB qM qf qg qL qj qA qo qw qh k) x14
def qE.s8 (qm qB qM qf qg qL qj qA qo qw : Int) (qh : LR) (x12 : (List ByteArray)) : St := ⟨[.dead, .ptr 64 0, .dead, .row 65, dD, dD, dD, dD, dD, dD, dD, dD, dD, dD, dD, dD, dD, dD, dD, dD, dD, dD, dD, dD, dD, dD, dD, dD, dD, dD, dD, dD, dD, dD, dD, dD, dD, dD, dD, dD, dD, dD, dD, dD, dD, dD, dD, dD, dD, dD, dD, dD, dD, dD, dD, dD, dD, dD, dD, .dead], ofL [(64, .box [.d tQi (qm), .d tQi (qB), .d tQi (qM), .d tQi (qf), .d tQi (qg), .d tQi (qL), .d tQi (qj), .d tQi (qA), .d tQi (qo), .d tQi (qw), .d (.sl tQr) (qh)]), (65, .row 9 .str x12 false)], 0⟩
def qE.p8 (qa : Nat) (qm qB qM qf qg qL qj qA qo qw : Int) (qh : LR) (k : Nat) := fun x12 => lp qcl qa Tryz.f23 [.raw] 0 qE.k 8 [] k (qE.s8 qm qB qM qf qg qL qj qA qo qw qh x12)
def qE.b8 (qm qB qM qf qg qL qj qA qo qw : Int) (qh : LR) (A8 : (List ByteArray) → Option ByteArray) (E10 : (List ByteArray) → Option ByteArray) (x12 : (List ByteArray)) : Option ByteArray :=
 (if (qv qm (3 : Int)) then (match (veil (zj.f BIG qw)) with | none => none | some y13 => (if ((((List.length x12) + (List.length ((⟨((98 :: (97 :: (115 :: (101 :: ([] : List UInt8)))))).toArray⟩ : ByteArray) :: (y13 :: ([] : List ByteArray))))) * (16 : Nat)) ≤ lim) then E10 (x12 ++ ((⟨((98 :: (97 :: (115 :: (101 :: ([] : List UInt8)))))).toArray⟩ : ByteArray) :: (y13 :: ([] : List ByteArray)))) else none)) else E10 x12)
def qE.l8 (qa : Nat) (qm qB qM qf qg qL qj qA qo qw : Int) (qh : LR) : Nat → (List ByteArray) → Option ByteArray
 | 0, _ => none
 | k + 1, x12 => qE.b8 qm qB qM qf qg qL qj qA qo qw qh (qE.l8 qa qm qB qM qf qg qL qj qA qo qw qh k) (qE.l10 qa qm qB qM qf qg qL qj qA qo qw qh qa) x12
def qE.s6 (qm qB qM qf qg qL qj qA qo qw : Int) (qh : LR) (x9 : (List ByteArray)) : St := ⟨[.dead, .ptr 64 0, .dead, .row 65, dD, dD, dD, dD, dD, dD, dD, dD, dD, dD, dD, dD, dD, dD, dD, dD, dD, dD, dD, dD, dD, dD, dD, dD, dD, dD, dD, dD, dD, dD, dD, dD, dD, dD, dD, dD, dD, dD, dD, dD, dD, dD, dD, dD, dD, dD, dD, dD, dD, dD, dD, dD, dD, dD, dD, .dead], ofL [(64, .box [.d tQi (qm), .d tQi (qB), .d tQi (qM), .d tQi (qf), .d tQi (qg), .d tQi (qL), .d tQi (qj), .d tQi (qA), .d tQi (qo), .d tQi (qw), .d (.sl tQr) (qh)]), (65, .row 9 .str x9 false)], 0⟩
def qE.p6 (qa : Nat) (qm qB qM qf qg qL qj qA qo qw : Int) (qh : LR) (k : Nat) := fun x9 => lp qcl qa Tryz.f23 [.raw] 0 qE.k 6 [] k (qE.s6 qm qB qM qf qg qL qj qA qo qw qh x9)
def qE.b6 (qm qB qM qf qg qL qj qA qo qw : Int) (qh : LR) (A6 : (List ByteArray) → Option ByteArray) (E8 : (List ByteArray) → Option ByteArray) (x9 : (List ByteArray)) : Option ByteArray :=
 (if (qv qm (2 : Int)) then (match (veil (zj.f BIG qA)) with | none => none | some y10 => (match (veil (zj.f BIG qo)) with | none => none | some y11 => (if ((((List.length x9) + (List.length ((⟨((108 :: (105 :: (102 :: (101 :: ([] : List UInt8)))))).toArray⟩ : ByteArray) :: (y10 :: ((⟨((101 :: (112 :: (111 :: (99 :: (104 :: ([] : List UInt8))))))).toArray⟩ : ByteArray) :: (y11 :: ([] : List ByteArray))))))) * (16 : Nat)) ≤ lim) then E8 (x9 ++ ((⟨((108 :: (105 :: (102 :: (101 :: ([] : List UInt8)))))).toArray⟩ : ByteArray) :: (y10 :: ((⟨((101 :: (112 :: (111 :: (99 :: (104 :: ([] : List UInt8))))))).toArray⟩ : ByteArray) :: (y11 :: ([] : List ByteArray)))))) else none))) else E8 x9)
def qE.l6 (qa : Nat) (qm qB qM qf qg qL qj qA qo qw : Int) (qh : LR) : Nat → (List ByteArray) → Option ByteArray
 | 0, _ => none
 | k + 1, x9 => qE.b6 qm qB qM qf qg qL qj qA qo qw qh (qE.l6 qa qm qB qM qf qg qL qj qA qo qw qh k) (qE.l8 qa qm qB qM qf qg qL qj qA qo qw qh qa) x9
def qE.s4 (qm qB qM qf qg qL qj qA qo qw : Int) (qh : LR) (x7 : (List ByteArray)) : St := ⟨[.dead, .ptr 64 0, .dead, .row 65, dD, dD, dD, dD, dD, dD, dD, dD, dD, dD, dD, dD, dD, dD, dD, dD, dD, dD, dD, dD, dD, dD, dD, dD, dD, dD, dD, dD, dD, dD, dD, dD, dD, dD, dD, dD, dD, dD, dD, dD, dD, dD, dD, dD, dD, dD, dD, dD, dD, dD, dD, dD, dD, dD, dD, .dead], ofL [(64, .box [.d tQi (qm), .d tQi (qB), .d tQi (qM), .d tQi (qf), .d tQi (qg), .d tQi (qL), .d tQi (qj), .d tQi (qA), .d tQi (qo), .d tQi (qw), .d (.sl tQr) (qh)]), (65, .row 9 .str x7 false)], 0⟩
def qE.p4 (qa : Nat) (qm qB qM qf qg qL qj qA qo qw : Int) (qh : LR) (k : Nat) := fun x7 => lp qcl qa Tryz.f23 [.raw] 0 qE.k 4 [] k (qE.s4 qm qB qM qf qg qL qj qA qo qw qh x7)
def qE.b4 (qm qB qM qf qg qL qj qA qo qw : Int) (qh : LR) (A4 : (List ByteArray) → Option ByteArray) (E6 : (List ByteArray) → Option ByteArray) (x7 : (List ByteArray)) : Option ByteArray :=
 (if (qv qm (1 : Int)) then (match (veil (zj.f BIG qj)) with | none => none | some y8 => (if ((((List.length x7) + (List.length ((⟨((116 :: (97 :: (114 :: (103 :: (101 :: (116 :: ([] : List UInt8)))))))).toArray⟩ : ByteArray) :: (y8 :: ([] : List ByteArray))))) * (16 : Nat)) ≤ lim) then E6 (x7 ++ ((⟨((116 :: (97 :: (114 :: (103 :: (101 :: (116 :: ([] : List UInt8)))))))).toArray⟩ : ByteArray) :: (y8 :: ([] : List ByteArray)))) else none)) else E6 x7)
def qE.l4 (qa : Nat) (qm qB qM qf qg qL qj qA qo qw : Int) (qh : LR) : Nat → (List ByteArray) → Option ByteArray
 | 0, _ => none
 | k + 1, x7 => qE.b4 qm qB qM qf qg qL qj qA qo qw qh (qE.l4 qa qm qB qM qf qg qL qj qA qo qw qh k) (qE.l6 qa qm qB qM qf qg qL qj qA qo qw qh qa) x7
def qE.b (qm qB qM qf qg qL qj qA qo qw : Int) (qh : LR) (E4 : (List ByteArray) → Option ByteArray) : Option ByteArray :=
 (match (veil (qaW.f BIG qm)) with | none => none | some y0 => (match (veil (Qn.f BIG y0)) with | none => none | some y1 => (match (veil (zj.f BIG qB)) with | none => none | some y2 => (match (veil (zj.f BIG qM)) with | none => none | some y3 => (match (veil (Q9.f BIG qf qg)) with | none => none | some y4 => (match (veil (Qn.f BIG y4)) with | none => none | some y5 => (if (qv qm (0 : Int)) then (match (veil (zj.f BIG qL)) with | none => none | some y6 => E4 ((y1 :: ((⟨((102 :: (114 :: (111 :: (109 :: ([] : List UInt8)))))).toArray⟩ : ByteArray) :: (y2 :: ((⟨((105 :: (110 :: (99 :: ([] : List UInt8))))).toArray⟩ : ByteArray) :: (y3 :: ((⟨((115 :: (112 :: (97 :: (110 :: ([] : List UInt8)))))).toArray⟩ : ByteArray) :: (y5 :: ([] : List ByteArray)))))))) ++ ((⟨((115 :: (101 :: (113 :: ([] : List UInt8))))).toArray⟩ : ByteArray) :: (y6 :: ([] : List ByteArray))))) else E4 (y1 :: ((⟨((102 :: (114 :: (111 :: (109 :: ([] : List UInt8)))))).toArray⟩ : ByteArray) :: (y2 :: ((⟨((105 :: (110 :: (99 :: ([] : List UInt8))))).toArray⟩ : ByteArray) :: (y3 :: ((⟨((115 :: (112 :: (97 :: (110 :: ([] : List UInt8)))))).toArray⟩ : ByteArray) :: (y5 :: ([] : List ByteArray)))))))))))))))
def qE.f (qa : Nat) (qm qB qM qf qg qL qj qA qo qw : Int) (qh : LR) : Option ByteArray := qE.b qm qB qM qf qg qL qj qA qo qw qh (qE.l4 qa qm qB qM qf qg qL qj qA qo qw qh qa)
theorem qE.l10_eq (qa : Nat) (qm qB qM qf qg qL qj qA qo qw : Int) (qh : LR) : ∀ k : Nat, qE.p10 qa qm qB qM qf qg qL qj qA qo qw qh k = qE.l10 qa qm qB qM qf qg qL qj qA qo qw qh k
 | 0 => by kernel_rfl
 | k + 1 => by
  refine Eq.trans (b := qE.b10 qm qB qM qf qg qL qj qA qo qw qh (qE.p10 qa qm qB qM qf qg qL qj qA qo qw qh k)) (by kernel_rfl) ?_
  rw [qE.l10_eq qa qm qB qM qf qg qL qj qA qo qw qh k]
  kernel_rfl
theorem qE.l8_eq (qa : Nat) (qm qB qM qf qg qL qj qA qo qw : Int) (qh : LR) : ∀ k : Nat, qE.p8 qa qm qB qM qf qg qL qj qA qo qw qh k = qE.l8 qa qm qB qM qf qg qL qj qA qo qw qh k
 | 0 => by kernel_rfl
 | k + 1 => by
  refine Eq.trans (b := qE.b8 qm qB qM qf qg qL qj qA qo qw qh (qE.p8 qa qm qB qM qf qg qL qj qA qo qw qh k) (qE.p10 qa qm qB qM qf qg qL qj qA qo qw qh qa)) (by kernel_rfl) ?_
  rw [qE.l8_eq qa qm qB qM qf qg qL qj qA qo qw qh k, qE.l10_eq qa qm qB qM qf qg qL qj qA qo qw qh qa]
  kernel_rfl
theorem qE.l6_eq (qa : Nat) (qm qB qM qf qg qL qj qA qo qw : Int) (qh : LR) : ∀ k : Nat, qE.p6 qa qm qB qM qf qg qL qj qA qo qw qh k = qE.l6 qa qm qB qM qf qg qL qj qA qo qw qh k
 | 0 => by kernel_rfl
 | k + 1 => by
  refine Eq.trans (b := qE.b6 qm qB qM qf qg qL qj qA qo qw qh (qE.p6 qa qm qB qM qf qg qL qj qA qo qw qh k) (qE.p8 qa qm qB qM qf qg qL qj qA qo qw qh qa)) (by kernel_rfl) ?_
  rw [qE.l6_eq qa qm qB qM qf qg qL qj qA qo qw qh k, qE.l8_eq qa qm qB qM qf qg qL qj qA qo qw qh qa]
  kernel_rfl
theorem qE.l4_eq (qa : Nat) (qm qB qM qf qg qL qj qA qo qw : Int) (qh : LR) : ∀ k : Nat, qE.p4 qa qm qB qM qf qg qL qj qA qo qw qh k = qE.l4 qa qm qB qM qf qg qL qj qA qo qw qh k
 | 0 => by kernel_rfl
 | k + 1 => by
  refine Eq.trans (b := qE.b4 qm qB qM qf qg qL qj qA qo qw qh (qE.p4 qa qm qB qM qf qg qL qj qA qo qw qh k) (qE.p6 qa qm qB qM qf qg qL qj qA qo qw qh qa)) (by kernel_rfl) ?_
  rw [qE.l4_eq qa qm qB qM qf qg qL qj qA qo qw qh k, qE.l6_eq qa qm qB qM qf qg qL qj qA qo qw qh qa]
  kernel_rfl
theorem qE.eq (qa : Nat) (qm qB qM qf qg qL qj qA qo qw : Int) (qh : LR) : (denF qcl loopN qa Tryz.f23 [.raw] [.agg [.d tQi qm, .d tQi qB, .d tQi qM, .d tQi qf, .d tQi qg, .d tQi qL, .d tQi qj, .d tQi qA, .d tQi qo, .d tQi qw, .d (.sl tQr) qh]] [] qE.k) = qE.f qa qm qB qM qf qg qL qj qA qo qw qh := by
 refine Eq.trans (b := qE.b qm qB qM qf qg qL qj qA qo qw qh (qE.p4 qa qm qB qM qf qg qL qj qA qo qw qh qa)) (by kernel_rfl) ?_
 rw [qE.l4_eq qa qm qB qM qf qg qL qj qA qo qw qh qa]
 kernel_rfl
theorem qE.l10_at (qa nN kK : Nat) (hN : nN = kK + 1) (qm : Int) (qB : Int) (qM : Int) (qf : Int) (qg : Int) (qL : Int) (qj : Int) (qA : Int) (qo : Int) (qw : Int) (qh : LR) (x14 : (List ByteArray)) : qE.l10 qa qm qB qM qf qg qL qj qA qo qw qh nN x14 = qE.b10 qm qB qM qf qg qL qj qA qo qw qh (qE.l10 qa qm qB qM qf qg qL qj qA qo qw qh kK) x14 := by
 subst hN
 rfl
theorem qE.l8_at (qa nN kK : Nat) (hN : nN = kK + 1) (qm : Int) (qB : Int) (qM : Int) (qf : Int) (qg : Int) (qL : Int) (qj : Int) (qA : Int) (qo : Int) (qw : Int) (qh : LR) (x12 : (List ByteArray)) : qE.l8 qa qm qB qM qf qg qL qj qA qo qw qh nN x12 = qE.b8 qm qB qM qf qg qL qj qA qo qw qh (qE.l8 qa qm qB qM qf qg qL qj qA qo qw qh kK) (qE.l10 qa qm qB qM qf qg qL qj qA qo qw qh qa) x12 := by
 subst hN
 rfl
theorem qE.l6_at (qa nN kK : Nat) (hN : nN = kK + 1) (qm : Int) (qB : Int) (qM : Int) (qf : Int) (qg : Int) (qL : Int) (qj : Int) (qA : Int) (qo : Int) (qw : Int) (qh : LR) (x9 : (List ByteArray)) : qE.l6 qa qm qB qM qf qg qL qj qA qo qw qh nN x9 = qE.b6 qm qB qM qf qg qL qj qA qo qw qh (qE.l6 qa qm qB qM qf qg qL qj qA qo qw qh kK) (qE.l8 qa qm qB qM qf qg qL qj qA qo qw qh qa) x9 := by
 subst hN
 rfl
theorem qE.l4_at (qa nN kK : Nat) (hN : nN = kK + 1) (qm : Int) (qB : Int) (qM : Int) (qf : Int) (qg : Int) (qL : Int) (qj : Int) (qA : Int) (qo : Int) (qw : Int) (qh : LR) (x7 : (List ByteArray)) : qE.l4 qa qm qB qM qf qg qL qj qA qo qw qh nN x7 = qE.b4 qm qB qM qf qg qL qj qA qo qw qh (qE.l4 qa qm qB qM qf qg qL qj qA qo qw qh kK) (qE.l6 qa qm qB qM qf qg qL qj qA qo qw qh qa) x7 := by
 subst hN
 rfl
def qaz : Den.Sum := ⟨[.dat (.pair tQi (.pair tQi (.pair tQi (.pair (.pair tQi tQi) (.pair tQi (.pair tQi (.pair tQi (.pair tQi (.pair tQi (.sl tQr)))))))))) true], fun qH ql κ => match qH, ql with
 | [.agg [.d (.int .i64) qm, .d (.int .i64) qB, .d (.int .i64) qM, .d (.int .i64) qf, .d (.int .i64) qg, .d (.int .i64) qL, .d (.int .i64) qj, .d (.int .i64) qA, .d (.int .i64) qo, .d (.int .i64) qw, .d (.sl (.pair (.int .i64) (.pair (.int .i64) (.pair (.int .i64) (.pair (.pair (.int .i64) (.int .i64)) (.pair .bool (.sl (.pair (.int .i64) (.sl (.int .u8)))))))))) qh]], [] => (match veil (qE.f BIG qm qB qM qf qg qL qj qA qo qw qh) with | none => none | some y => κ [.d .str y] [])
 | _, _ => none⟩
theorem qfO : SumDet qaz := zi fun _ _ _ _ => by
 unfold qaz
 simp only [veil_eq]
 split
 ·split <;> rfl
 ·rfl
theorem qgr : SumOk Tryz.prog 23 qaz := by
 have hE : EnvOk Tryz.prog qcl := env_ok (l := [(22, QU), (38, qa1), (39, qb6), (40, qaw), (41, qaa), (42, qfa)]) th_ok qX ⟨⟨qbU, qbx⟩, ⟨qhj, qgp⟩, ⟨qlD, qkD⟩, ⟨qgm, qfK⟩, ⟨qbJ, qa5⟩, ⟨qjL, qiy⟩, trivial⟩ _
 refine sum_ok hE Tryz.func23 rfl (by kernel_rfl) qaz [.raw] qE.k ?_
 intro R avs ql κ r h
 unfold qaz at h
 simp only [veil_eq] at h
 split at h
 ·rename_i qm qB qM qf qg qL qj qA qo qw qh
  split at h
  ·cases h
  ·rename_i y hy
   refine ⟨BIG, _, _, _, (qE.eq BIG qm qB qM qf qg qL qj qA qo qw qh).trans hy, ?_, h⟩
   intro rs ros hk
   unfold qE.k at hk
   split at hk
   ·rw [← sj hk]; exact ⟨rfl, rfl⟩
   ·cases hk
 ·cases h
def qeP : Env := ⟨th, gam [(22, QU)], fun i => if i = 3 then ⟨[3, 12, 13, 14], [], []⟩ else ⟨[], [], []⟩⟩
def zl.k (rs : List AV) (os : List Den.Obj) : Option ByteArray :=
 match rs, os with
 | [.d .str r0], [] => some r0
 | _, _ => none
def zl.s3 (Zq : Int) (Qf : List Int) (x1 x2 : Int) (x3 : (List Int)) : St := ⟨[dD, dD, dD, .row 64, dD, dD, dD, dD, dD, dD, dD, dD, .d (.sl (.int .u8)) (Qf), .d tQi x1, .d tQi x2, dD, dD, dD, dD, dD, dD, dD, dD, dD, dD, dD, dD, dD, dD, .dead], ofL [(64, .row 5 (.int .u8) x3 false)], 0⟩
def zl.p3 (qa : Nat) (Zq : Int) (Qf : List Int) (k : Nat) := fun x1 x2 x3 => lp qeP qa Tryz.f44 [.raw] 0 zl.k 3 [] k (zl.s3 Zq Qf x1 x2 x3)
def zl.b3 (Zq : Int) (Qf : List Int) (A3 : Int → Int → (List Int) → Option ByteArray) (x1 : Int) (x2 : Int) (x3 : (List Int)) : Option ByteArray :=
 (if (decide (x2 < x1)) then (match (idx Qf x2) with | none => none | some y4 => (match (idx (Array.toList (ByteArray.data (⟨((48 :: (49 :: (50 :: (51 :: (52 :: (53 :: (54 :: (55 :: (56 :: (57 :: (97 :: (98 :: (99 :: (100 :: (101 :: (102 :: ([] : List UInt8)))))))))))))))))).toArray⟩ : ByteArray))) (Int.fdiv y4 ((2 : Int) ^ (Min.min (Int.toNat (4 : Int)) (IntKind.bits .u8))))) with | none => none | some y5 => (match (idx (Array.toList (ByteArray.data (⟨((48 :: (49 :: (50 :: (51 :: (52 :: (53 :: (54 :: (55 :: (56 :: (57 :: (97 :: (98 :: (99 :: (100 :: (101 :: (102 :: ([] : List UInt8)))))))))))))))))).toArray⟩ : ByteArray))) (bits BinOp.and .u8 y4 (15 : Int))) with | none => none | some y6 => (if ((((List.length x3) + (List.length (((((UInt8.toNat y5)) : Nat) : Int) :: (((((UInt8.toNat y6)) : Nat) : Int) :: ([] : List Int))))) * (1 : Nat)) ≤ lim) then A3 x1 (IntKind.wrap .i64 (x2 + (1 : Int))) (x3 ++ (((((UInt8.toNat y5)) : Nat) : Int) :: (((((UInt8.toNat y6)) : Nat) : Int) :: ([] : List Int)))) else none)))) else some ((strOf x3)))
def zl.l3 (qa : Nat) (Zq : Int) (Qf : List Int) : Nat → Int → Int → (List Int) → Option ByteArray
 | 0, _, _, _ => none
 | k + 1, x1, x2, x3 => zl.b3 Zq Qf (zl.l3 qa Zq Qf k) x1 x2 x3
def zl.b (Zq : Int) (Qf : List Int) (E3 : Int → Int → (List Int) → Option ByteArray) : Option ByteArray :=
 (match (veil (zj.f BIG Zq)) with | none => none | some y0 => (if (((ByteArray.size y0) + (ByteArray.size (⟨((58 :: ([] : List UInt8))).toArray⟩ : ByteArray))) ≤ (1099511627776 : Nat)) then (if ((ByteArray.size (y0 ++ (⟨((58 :: ([] : List UInt8))).toArray⟩ : ByteArray))) ≤ lim) then E3 ((((List.length Qf)) : Nat) : Int) (0 : Int) (bytesOf (y0 ++ (⟨((58 :: ([] : List UInt8))).toArray⟩ : ByteArray))) else none) else none))
def zl.f (qa : Nat) (Zq : Int) (Qf : List Int) : Option ByteArray := zl.b Zq Qf (zl.l3 qa Zq Qf qa)
theorem zl.l3_eq (qa : Nat) (Zq : Int) (Qf : List Int) : ∀ k : Nat, zl.p3 qa Zq Qf k = zl.l3 qa Zq Qf k
 | 0 => by kernel_rfl
 | k + 1 => by
  refine Eq.trans (b := zl.b3 Zq Qf (zl.p3 qa Zq Qf k)) (by kernel_rfl) ?_
  rw [zl.l3_eq qa Zq Qf k]
  kernel_rfl
theorem zl.eq (qa : Nat) (Zq : Int) (Qf : List Int) : (denF qeP loopN qa Tryz.f44 [.raw] [.agg [.d tQi Zq, .d (.sl (.int .u8)) Qf]] [] zl.k) = zl.f qa Zq Qf := by
 refine Eq.trans (b := zl.b Zq Qf (zl.p3 qa Zq Qf qa)) (by kernel_rfl) ?_
 rw [zl.l3_eq qa Zq Qf qa]
 kernel_rfl
def qaT : Den.Sum := ⟨[.dat (.pair tQi (.sl (.int .u8))) true], fun qH ql κ => match qH, ql with
 | [.agg [.d (.int .i64) Zq, .d (.sl (.int .u8)) Qf]], [] => (match veil (zl.f BIG Zq Qf) with | none => none | some y => κ [.d .str y] [])
 | _, _ => none⟩
theorem qil : SumDet qaT := zi fun _ _ _ _ => by
 unfold qaT
 simp only [veil_eq]
 split
 ·split <;> rfl
 ·rfl
theorem qi2 : SumOk Tryz.prog 44 qaT := by
 have hE : EnvOk Tryz.prog qeP := env_ok (l := [(22, QU)]) th_ok qX ⟨⟨qbU, qbx⟩, trivial⟩ _
 refine sum_ok hE Tryz.func44 rfl (by kernel_rfl) qaT [.raw] zl.k ?_
 intro R avs ql κ r h
 unfold qaT at h
 simp only [veil_eq] at h
 split at h
 ·rename_i Zq Qf
  split at h
  ·cases h
  ·rename_i y hy
   refine ⟨BIG, _, _, _, (zl.eq BIG Zq Qf).trans hy, ?_, h⟩
   intro rs ros hk
   unfold zl.k at hk
   split at hk
   ·rw [← sj hk]; exact ⟨rfl, rfl⟩
   ·cases hk
 ·cases h
def qiJ : Env := ⟨th, gam [(69, qaS)], fun i => ⟨[], [], []⟩⟩
def Z1.k (rs : List AV) (os : List Den.Obj) : Option ByteArray :=
 match rs, os with
 | [.d .str r0], [] => some r0
 | _, _ => none
def Z1.b (e : Int) : Option ByteArray :=
 (match (veil (Q6.f BIG ())) with | none => none | some y0 => (if (decide (e < (0 : Int))) then some ((⟨((63 :: ([] : List UInt8))).toArray⟩ : ByteArray)) else (if (decide (e ≥ (18 : Int))) then some ((⟨((63 :: ([] : List UInt8))).toArray⟩ : ByteArray)) else (match (idx y0 e) with | none => none | some y1 => (match (idx y0 e) with | none => none | some y2 => some (y2))))))
def Z1.f (qa : Nat) (e : Int) : Option ByteArray := Z1.b e
theorem Z1.eq (qa : Nat) (e : Int) : (denF qiJ loopN qa Tryz.f45 [.raw] [.d tQi e] [] Z1.k) = Z1.f qa e := by
 kernel_rfl
def qbI : Den.Sum := ⟨[.raw], fun qH ql κ => match qH, ql with
 | [.d (.int .i64) e], [] => (match veil (Z1.f BIG e) with | none => none | some y => κ [.d .str y] [])
 | _, _ => none⟩
theorem qjK : SumDet qbI := zi fun _ _ _ _ => by
 unfold qbI
 simp only [veil_eq]
 split
 ·split <;> rfl
 ·rfl
theorem qkF : SumOk Tryz.prog 45 qbI := by
 have hE : EnvOk Tryz.prog qiJ := env_ok (l := [(69, qaS)]) th_ok qX ⟨⟨qi1, qik⟩, trivial⟩ _
 refine sum_ok hE Tryz.func45 rfl (by kernel_rfl) qbI [.raw] Z1.k ?_
 intro R avs ql κ r h
 unfold qbI at h
 simp only [veil_eq] at h
 split at h
 ·rename_i e
  split at h
  ·cases h
  ·rename_i y hy
   refine ⟨BIG, _, _, _, (Z1.eq BIG e).trans hy, ?_, h⟩
   intro rs ros hk
   unfold Z1.k at hk
   split at hk
   ·rw [← sj hk]; exact ⟨rfl, rfl⟩
   ·cases hk
 ·cases h
theorem qmI (bs : ByteArray) : ∀ (m i : Nat) (r : List UInt8), i + m = bs.size → ByteArray.toList.loop bs i r = r.reverse ++ bs.data.toList.drop i := by
 intro m
 induction m with
 | zero =>
  intro i r h
  rw [ByteArray.toList.loop, if_neg (by omega), List.drop_of_length_le (by simp; omega), List.append_nil]
 | succ m ih =>
  intro i r h
  have hlt : i < bs.data.toList.length := by simp; omega
  rw [ByteArray.toList.loop, if_pos (by omega), ih (i + 1) _ (by omega), List.drop_eq_getElem_cons hlt]
  have e : bs.get! i = bs.data.toList[i] := by
   have h2 : i < bs.data.size := by simpa using hlt
   simp only [ByteArray.get!, Array.getElem_toList]
   exact getElem!_pos bs.data i h2
  rw [e]
  simp
theorem qa4 (bs : ByteArray) : bs.toList = bs.data.toList := by
 unfold ByteArray.toList
 rw [qmI bs bs.size 0 [] (by omega)]
 simp
def qhQ (d : Int) : Int := if d < 10 then 48 + d else 87 + d
def qjc (l : List Int) : List Int := l.flatMap fun c => [qhQ (c / 16), qhQ (c % 16)]
abbrev qlQ : ByteArray := ⟨((58 :: ([] : List UInt8))).toArray⟩
abbrev qbB : ByteArray := ⟨((32 :: ([] : List UInt8))).toArray⟩
def qfD (x : Int × List Int) : ByteArray := strOf (bytesOf (Q8 x.1 ++ qlQ) ++ qjc x.2)
theorem qcm (s : ByteArray) : (bytesOf s).length = s.size := by simp [bytesOf]
theorem Qo (a b : ByteArray) : (a ++ b).size = a.size + b.size := ByteArray.size_append
theorem qmi : ∀ l : List Int, (qjc l).length = 2 * l.length
 | [] => rfl
 | c :: l => by
  have := qmi l
  unfold qjc at this ⊢
  simp only [List.flatMap_cons, List.length_append, List.length_cons, List.length_nil]
  omega
theorem qm2 (x : Int × List Int) : (qfD x).size ≤ 21 + 2 * x.2.length := by
 have := ZL x.1
 unfold qfD
 rw [qgE, List.length_append, qcm, Qo, qmi]
 have : qlQ.size = 1 := rfl
 omega
theorem qq3 : (List.range 256).all (fun n => match idx (Array.toList (ByteArray.data (⟨((48 :: (49 :: (50 :: (51 :: (52 :: (53 :: (54 :: (55 :: (56 :: (57 :: (97 :: (98 :: (99 :: (100 :: (101 :: (102 :: ([] : List UInt8)))))))))))))))))).toArray⟩ : ByteArray))) (Int.fdiv (n : Int) ((2 : Int) ^ (Min.min (Int.toNat (4 : Int)) (IntKind.bits .u8)))), idx (Array.toList (ByteArray.data (⟨((48 :: (49 :: (50 :: (51 :: (52 :: (53 :: (54 :: (55 :: (56 :: (57 :: (97 :: (98 :: (99 :: (100 :: (101 :: (102 :: ([] : List UInt8)))))))))))))))))).toArray⟩ : ByteArray))) (bits BinOp.and .u8 (n : Int) (15 : Int)) with
  | some a, some b => ((a.toNat : Int) == qhQ ((n : Int) / 16)) && ((b.toNat : Int) == qhQ ((n : Int) % 16))
  | _, _ => false) = true := by kernel_rfl
theorem qrk (c : Int) (h0 : 0 ≤ c) (h1 : c ≤ 255) : ∃ a b : UInt8, idx (Array.toList (ByteArray.data (⟨((48 :: (49 :: (50 :: (51 :: (52 :: (53 :: (54 :: (55 :: (56 :: (57 :: (97 :: (98 :: (99 :: (100 :: (101 :: (102 :: ([] : List UInt8)))))))))))))))))).toArray⟩ : ByteArray))) (Int.fdiv c ((2 : Int) ^ (Min.min (Int.toNat (4 : Int)) (IntKind.bits .u8)))) = some a ∧ idx (Array.toList (ByteArray.data (⟨((48 :: (49 :: (50 :: (51 :: (52 :: (53 :: (54 :: (55 :: (56 :: (57 :: (97 :: (98 :: (99 :: (100 :: (101 :: (102 :: ([] : List UInt8)))))))))))))))))).toArray⟩ : ByteArray))) (bits BinOp.and .u8 c (15 : Int)) = some b ∧ (a.toNat : Int) = qhQ (c / 16) ∧ (b.toNat : Int) = qhQ (c % 16) := by
 have := List.all_eq_true.1 qq3 c.toNat (by simp; omega)
 rw [show ((c.toNat : Nat) : Int) = c from by omega] at this
 revert this
 cases idx (Array.toList (ByteArray.data (⟨((48 :: (49 :: (50 :: (51 :: (52 :: (53 :: (54 :: (55 :: (56 :: (57 :: (97 :: (98 :: (99 :: (100 :: (101 :: (102 :: ([] : List UInt8)))))))))))))))))).toArray⟩ : ByteArray))) (Int.fdiv c ((2 : Int) ^ (Min.min (Int.toNat (4 : Int)) (IntKind.bits .u8)))) with
 | none => intro h; cases h
 | some a =>
  cases idx (Array.toList (ByteArray.data (⟨((48 :: (49 :: (50 :: (51 :: (52 :: (53 :: (54 :: (55 :: (56 :: (57 :: (97 :: (98 :: (99 :: (100 :: (101 :: (102 :: ([] : List UInt8)))))))))))))))))).toArray⟩ : ByteArray))) (bits BinOp.and .u8 c (15 : Int)) with
  | none => intro h; cases h
  | some b =>
   intro h
   simp only [Bool.and_eq_true, beq_iff_eq] at h
   exact ⟨a, b, rfl, rfl, h.1, h.2⟩
theorem qps (l : List Int) (i : Nat) (h : i < l.length) : qjc (l.drop i) = [qhQ (l[i] / 16), qhQ (l[i] % 16)] ++ qjc (l.drop (i + 1)) := by
 rw [List.drop_eq_getElem_cons h]
 rfl
theorem qmA.loop (qa : Nat) (t : Int) (d : List Int) (hb : isB d) (hl : d.length ≤ 1000000) : ∀ (m k i : Nat) (acc : List Int), i + m = d.length → m < k → acc.length ≤ 1000 + 2 * i →
  zl.l3 qa t d k (d.length : Int) (i : Int) acc = some (strOf (acc ++ qjc (d.drop i))) := by
 intro m
 induction m with
 | zero =>
  intro k i acc hi hk ha
  obtain ⟨k, rfl⟩ : ∃ k', k = k' + 1 := ⟨k - 1, by omega⟩
  rw [zl.l3]
  unfold zl.b3
  rw [if_neg (c := decide ((i : Int) < (d.length : Int)) = true) (by simp; omega), List.drop_of_length_le (by omega)]
  unfold qjc
  rw [List.flatMap_nil, List.append_nil]
 | succ m ih =>
  intro k i acc hi hk ha
  obtain ⟨k, rfl⟩ : ∃ k', k = k' + 1 := ⟨k - 1, by omega⟩
  have hlt : i < d.length := by omega
  obtain ⟨c0, c1⟩ := hb _ (List.getElem_mem hlt)
  obtain ⟨a, b, h1, h2, h3, h4⟩ := qrk d[i] c0 c1
  rw [zl.l3]
  unfold zl.b3
  rw [if_pos (c := decide ((i : Int) < (d.length : Int)) = true) (by simp; omega), Qh, List.getElem?_eq_getElem hlt]
  dsimp only
  rw [h1]
  dsimp only
  rw [h2]
  dsimp only
  rw [if_pos (by simp [lim]; omega), qV _ (by omega) (by omega), show ((i : Int) + 1) = ((i + 1 : Nat) : Int) from by omega, ih k (i + 1) _ (by omega) (by omega) (by simp; omega), h3, h4, qps d i hlt, List.append_assoc]
theorem qmA.pure (t : Int) (d : List Int) (t0 : -9223372036854775808 ≤ t) (t1 : t < 9223372036854775808) (hb : isB d) (hl : d.length ≤ 1000000) : zl.f BIG t d = some (qfD (t, d)) := by
 have hs := ZL t
 have hc : qlQ.size = 1 := rfl
 have hc2 : ({ data := #[58] } : ByteArray).size = 1 := rfl
 unfold zl.f zl.b
 simp only [veil_eq]
 rw [qeu.pure t t0 t1]
 dsimp only
 rw [if_pos (by omega), if_pos (by rw [Qo]; simp [lim]; omega)]
 have := qmA.loop BIG t d hb hl d.length BIG 0 (bytesOf (Q8 t ++ qlQ)) (by omega) (by rw [qaj]; omega) (by rw [qcm, Qo]; omega)
 rw [List.drop_zero] at this
 exact this
def spT (lo hi : Int) : ByteArray := if okS lo hi = true then strOf [48 + lo, 45, 48 + hi] else strOf [63]
theorem qqM.pure (lo hi : Int) : (match Q9.f BIG lo hi with
  | none => none
  | some y => Qn.f BIG y) = some (spT lo hi) := by
 unfold Q9.f Q9.b Qn.f Qn.b spT
 cases ho : okS lo hi with
 | false =>
  simp
  rfl
 | true =>
  have hs := (qag _ _).1 ho
  have e : (strOf [48 + lo, 45, 48 + hi]).toList ≠ [] := by
   intro h
   rw [qa4] at h
   simp [strOf, strOfNums] at h
  simp only [Bool.not_true, Bool.false_eq_true, if_false, if_true]
  rw [qV _ (by omega) (by omega), qV _ (by omega) (by omega), qoD _ (by omega) (by omega), qoD _ (by omega) (by omega), if_neg]
  intro h
  have h := eq_of_beq h
  exact e (h.trans (by rw [qa4]))
def qev (s : ByteArray) (r : List ByteArray) : ByteArray := ⟨(Lib.joinTail s.data.toList (r.map (·.data.toList))).toArray⟩
theorem qe6 (x : ByteArray) (r : List ByteArray) (s : ByteArray) : joinB (x :: r) s = x ++ qev s r := by
 apply ByteArray.ext
 rw [ByteArray.data_append]
 simp [joinB, qev, Lib.join_cons]
theorem qnK (s : ByteArray) (r : List ByteArray) (y : ByteArray) : qev s (r ++ [y]) = qev s r ++ (s ++ y) := by
 apply ByteArray.ext
 rw [ByteArray.data_append, ByteArray.data_append]
 simp [qev, Lib.joinTail]
theorem qgY (l : List ByteArray) (hl : l ≠ []) (y s : ByteArray) : joinB (l ++ [y]) s = joinB l s ++ (s ++ y) := by
 cases l with
 | nil => exact absurd rfl hl
 | cons x r => rw [List.cons_append, qe6, qe6, qnK, ByteArray.append_assoc]
theorem qpq (l : List ByteArray) (hl : l ≠ []) (w y s : ByteArray) : joinB (l ++ [w, y]) s = (joinB l s ++ (s ++ (w ++ s))) ++ y := by
 rw [show l ++ [w, y] = (l ++ [w]) ++ [y] from by simp, qgY _ (by simp), qgY _ hl]
 simp only [ByteArray.append_assoc]
theorem qoq (l : List ByteArray) (s : ByteArray) : (joinB l s).size = (Lib.join (l.map (·.data.toList)) s.data.toList).length := by simp [joinB, ByteArray.size]
theorem qiK {l : List ByteArray} {s : ByteArray} (hl : l ≠ []) (hn : l.length ≤ 1000000) (hs : (joinB l s).size ≤ 281474976710656) : joinFits l s = true := by
 unfold joinFits
 rw [qoq] at hs
 rw [decide_eq_true hs, decide_eq_true (by omega)]
 cases l with
 | nil => exact absurd rfl hl
 | cons x r => rfl
def qf3 : Env := ⟨th, gam [(22, QU), (38, qa1), (40, qaw), (42, qfa), (43, qb5), (44, qaT)], fun i => if i = 5 then ⟨[3, 27, 28, 29], [], []⟩ else ⟨[], [], []⟩⟩
def zv.k (rs : List AV) (os : List Den.Obj) : Option ByteArray :=
 match rs, os with
 | [.d .str r0], [] => some r0
 | _, _ => none
def zv.s5 (qZ qP qs qq qr : Int) (qO : Bool) (qN : LF) (x6 x7 : Int) (x8 : (List ByteArray)) : St := ⟨[dD, dD, dD, .row 64, dD, dD, dD, dD, dD, dD, dD, dD, dD, dD, dD, dD, dD, dD, dD, dD, dD, dD, dD, dD, dD, dD, dD, .d (.sl (.pair tQi (.sl (.int .u8)))) (qN), .d tQi x6, .d tQi x7, dD, dD, dD, dD, dD, dD, dD, dD, dD, dD, .dead], ofL [(64, .row 9 .str x8 false)], 0⟩
def zv.p5 (qa : Nat) (qZ qP qs qq qr : Int) (qO : Bool) (qN : LF) (k : Nat) := fun x6 x7 x8 => lp qf3 qa Tryz.f24 [.raw] 0 zv.k 5 [] k (zv.s5 qZ qP qs qq qr qO qN x6 x7 x8)
def zv.b5 (qZ qP qs qq qr : Int) (qO : Bool) (qN : LF) (A5 : Int → Int → (List ByteArray) → Option ByteArray) (x6 : Int) (x7 : Int) (x8 : (List ByteArray)) : Option ByteArray :=
 (if (decide (x7 < x6)) then (match (idx qN x7) with | none => none | some y9 => (match (veil (zl.f BIG y9.1 y9.2)) with | none => none | some y10 => (if ((((List.length x8) + (List.length (y10 :: ([] : List ByteArray)))) * (16 : Nat)) ≤ lim) then A5 x6 (IntKind.wrap .i64 (x7 + (1 : Int))) (x8 ++ (y10 :: ([] : List ByteArray))) else none))) else (if (joinFits x8 (⟨((32 :: ([] : List UInt8))).toArray⟩ : ByteArray)) then some ((joinB x8 (⟨((32 :: ([] : List UInt8))).toArray⟩ : ByteArray))) else none))
def zv.l5 (qa : Nat) (qZ qP qs qq qr : Int) (qO : Bool) (qN : LF) : Nat → Int → Int → (List ByteArray) → Option ByteArray
 | 0, _, _, _ => none
 | k + 1, x6, x7, x8 => zv.b5 qZ qP qs qq qr qO qN (zv.l5 qa qZ qP qs qq qr qO qN k) x6 x7 x8
def zv.b (qZ qP qs qq qr : Int) (qO : Bool) (qN : LF) (E5 : Int → Int → (List ByteArray) → Option ByteArray) : Option ByteArray :=
 (match (veil (zj.f BIG qZ)) with | none => none | some y0 => (match (veil (qac.f BIG qs)) with | none => none | some y1 => (match (veil (Qn.f BIG y1)) with | none => none | some y2 => (match (veil (Q9.f BIG qq qr)) with | none => none | some y3 => (match (veil (Qn.f BIG y3)) with | none => none | some y4 => (match (veil (zj.f BIG qP)) with | none => none | some y5 => (if qO then E5 ((((List.length qN)) : Nat) : Int) (0 : Int) ((y0 :: (y2 :: (y4 :: ((⟨((105 :: (110 :: (99 :: ([] : List UInt8))))).toArray⟩ : ByteArray) :: (y5 :: ([] : List ByteArray)))))) ++ ((⟨((99 :: (117 :: (116 :: ([] : List UInt8))))).toArray⟩ : ByteArray) :: ([] : List ByteArray))) else E5 ((((List.length qN)) : Nat) : Int) (0 : Int) (y0 :: (y2 :: (y4 :: ((⟨((105 :: (110 :: (99 :: ([] : List UInt8))))).toArray⟩ : ByteArray) :: (y5 :: ([] : List ByteArray)))))))))))))
def zv.f (qa : Nat) (qZ qP qs qq qr : Int) (qO : Bool) (qN : LF) : Option ByteArray := zv.b qZ qP qs qq qr qO qN (zv.l5 qa qZ qP qs qq qr qO qN qa)
theorem zv.l5_eq (qa : Nat) (qZ qP qs qq qr : Int) (qO : Bool) (qN : LF) : ∀ k : Nat, zv.p5 qa qZ qP qs qq qr qO qN k = zv.l5 qa qZ qP qs qq qr qO qN k
 | 0 => by kernel_rfl
 | k + 1 => by
  refine Eq.trans (b := zv.b5 qZ qP qs qq qr qO qN (zv.p5 qa qZ qP qs qq qr qO qN k)) (by kernel_rfl) ?_
  rw [zv.l5_eq qa qZ qP qs qq qr qO qN k]
  kernel_rfl
theorem zv.eq (qa : Nat) (qZ qP qs qq qr : Int) (qO : Bool) (qN : LF) : (denF qf3 loopN qa Tryz.f24 [.raw] [.agg [.d tQi qZ, .d tQi qP, .d tQi qs, .d tQi qq, .d tQi qr, .d .bool qO, .d (.sl (.pair tQi (.sl (.int .u8)))) qN]] [] zv.k) = zv.f qa qZ qP qs qq qr qO qN := by
 refine Eq.trans (b := zv.b qZ qP qs qq qr qO qN (zv.p5 qa qZ qP qs qq qr qO qN qa)) (by kernel_rfl) ?_
 rw [zv.l5_eq qa qZ qP qs qq qr qO qN qa]
 kernel_rfl
def qay : Den.Sum := ⟨[.dat tQr true], fun qH ql κ => match qH, ql with
 | [.agg [.d (.int .i64) qZ, .d (.int .i64) qP, .d (.int .i64) qs, .d (.int .i64) qq, .d (.int .i64) qr, .d .bool qO, .d (.sl (.pair (.int .i64) (.sl (.int .u8)))) qN]], [] => (match veil (zv.f BIG qZ qP qs qq qr qO qN) with | none => none | some y => κ [.d .str y] [])
 | _, _ => none⟩
theorem qfN : SumDet qay := zi fun _ _ _ _ => by
 unfold qay
 simp only [veil_eq]
 split
 ·split <;> rfl
 ·rfl
theorem qgq : SumOk Tryz.prog 24 qay := by
 have hE : EnvOk Tryz.prog qf3 := env_ok (l := [(22, QU), (38, qa1), (40, qaw), (42, qfa), (43, qb5), (44, qaT)]) th_ok qX ⟨⟨qbU, qbx⟩, ⟨qhj, qgp⟩, ⟨qgm, qfK⟩, ⟨qjL, qiy⟩, ⟨qlC, qkB⟩, ⟨qi2, qil⟩, trivial⟩ _
 refine sum_ok hE Tryz.func24 rfl (by kernel_rfl) qay [.raw] zv.k ?_
 intro R avs ql κ r h
 unfold qay at h
 simp only [veil_eq] at h
 split at h
 ·rename_i qZ qP qs qq qr qO qN
  split at h
  ·cases h
  ·rename_i y hy
   refine ⟨BIG, _, _, _, (zv.eq BIG qZ qP qs qq qr qO qN).trans hy, ?_, h⟩
   intro rs ros hk
   unfold zv.k at hk
   split at hk
   ·rw [← sj hk]; exact ⟨rfl, rfl⟩
   ·cases hk
 ·cases h
abbrev qrd : ByteArray := ⟨((97 :: (108 :: (105 :: (118 :: (101 :: ([] : List UInt8))))))).toArray⟩
abbrev qpW : ByteArray := ⟨((115 :: (117 :: (115 :: (112 :: (101 :: (99 :: (116 :: ([] : List UInt8))))))))).toArray⟩
abbrev qrt : ByteArray := ⟨((100 :: (101 :: (97 :: (100 :: ([] : List UInt8)))))).toArray⟩
abbrev qrs : ByteArray := ⟨((108 :: (101 :: (102 :: (116 :: ([] : List UInt8)))))).toArray⟩
abbrev wQ : ByteArray := ⟨((63 :: ([] : List UInt8))).toArray⟩
abbrev qnH : ByteArray := ⟨((105 :: (110 :: (99 :: ([] : List UInt8))))).toArray⟩
abbrev qrc : ByteArray := ⟨((99 :: (117 :: (116 :: ([] : List UInt8))))).toArray⟩
def stT (st : Int) : ByteArray := if st = 0 then qrd else if st = 1 then qpW else if st = 2 then qrt else if st = 3 then qrs else wQ
theorem qma : Qn.f BIG (⟨(([] : List UInt8)).toArray⟩ : ByteArray) = some wQ := by
 unfold Qn.f Qn.b
 simp
theorem qqY (w : ByteArray) (h : 0 < w.size) : Qn.f BIG w = some w := by
 unfold Qn.f Qn.b
 rw [if_neg]
 intro e
 have e := eq_of_beq e
 rw [qa4, qa4] at e
 have := congrArg List.length e
 have hsz : w.data.toList.length = w.size := by simp
 rw [hsz] at this
 have this : w.size = 0 := this
 omega
theorem qp1 (st : Int) : (stT st).size ≤ 7 ∧ 0 < (stT st).size := by
 unfold stT
 repeat' split
 all_goals exact ⟨by decide, by decide⟩
theorem qlV (lo hi : Int) : (spT lo hi).size ≤ 3 := by
 unfold spT
 split <;> rw [qgE] <;> simp
theorem qra.pure (st : Int) : (match qac.f BIG st with
  | none => none
  | some y => Qn.f BIG y) = some (stT st) := by
 unfold qac.f qac.b
 simp only [veil_eq]
 by_cases h0 : st < 0
 ·rw [if_pos (by simpa using h0)]
  dsimp only
  rw [qma]
  unfold stT
  rw [if_neg (by omega), if_neg (by omega), if_neg (by omega), if_neg (by omega)]
 ·rw [if_neg (by simpa using h0)]
  by_cases h3 : st > 3
  ·rw [if_pos (by simpa using h3)]
   dsimp only
   rw [qma]
   unfold stT
   rw [if_neg (by omega), if_neg (by omega), if_neg (by omega), if_neg (by omega)]
  ·rw [if_neg (by simpa using h3)]
   have : st = 0 ∨ st = 1 ∨ st = 2 ∨ st = 3 := by omega
   rcases this with rfl | rfl | rfl | rfl <;> exact qqY _ (by decide)
def qeM (r : REC) : List ByteArray := (Q8 r.1 :: (stT r.2.2.1 :: (spT r.2.2.2.1.1 r.2.2.2.1.2 :: (qnH :: (Q8 r.2.1 :: []))))) ++ (if r.2.2.2.2.1 = true then [qrc] else [])
def qgS (r : REC) : ByteArray := joinB (qeM r ++ r.2.2.2.2.2.map qfD) qbB
theorem qkN (r : REC) : qeM r ≠ [] := by unfold qeM; simp
theorem qe8 : qbB.size = 1 := rfl
theorem qju (s y : ByteArray) (r : List ByteArray) : qev s (y :: r) = s ++ (y ++ qev s r) := by
 apply ByteArray.ext
 rw [ByteArray.data_append, ByteArray.data_append]
 simp [qev, Lib.joinTail]
theorem qjt (s : ByteArray) : (qev s []).size = 0 := by simp [qev, Lib.joinTail, ByteArray.size]
theorem qlh (r : REC) : (joinB (qeM r) qbB).size ≤ 100 := by
 have h1 := ZL r.1
 have h2 := ZL r.2.1
 have h3 := (qp1 r.2.2.1).1
 have h4 := qlV r.2.2.2.1.1 r.2.2.2.1.2
 have h5 := qe8
 have h6 : qnH.size = 3 := rfl
 have h7 : qrc.size = 3 := rfl
 unfold qeM
 cases r.2.2.2.2.1 <;> simp only [if_true, Bool.false_eq_true, if_false, List.append_nil, List.cons_append, List.nil_append, qe6, qju, Qo, qjt] <;> omega
def qoG (b : LF) : Prop := b.length ≤ 1000 ∧ ∀ x ∈ b, (-9223372036854775808 ≤ x.1 ∧ x.1 < 9223372036854775808) ∧ isB x.2 ∧ x.2.length ≤ 10000
theorem qhy (W : List ByteArray) (hW : W ≠ []) (bag : LF) (hb : qoG bag) : ∀ i, i ≤ bag.length → (joinB (W ++ (bag.take i).map qfD) qbB).size ≤ (joinB W qbB).size + i * 20100
 | 0, _ => by simp
 | i + 1, h => by
  have ih := qhy W hW bag hb i (by omega)
  have h1 := qm2 bag[i]
  have h2 := (hb.2 _ (List.getElem_mem (show i < bag.length by omega))).2.2
  have h3 := qe8
  rw [List.take_succ_eq_append_getElem (by omega), List.map_append, List.map_cons, List.map_nil, ← List.append_assoc, qgY _ (by simp [hW]), Qo, Qo]
  omega
theorem qqD.loop (r : REC) (hb : qoG r.2.2.2.2.2) (qa : Nat) : ∀ (m k i : Nat), i + m = r.2.2.2.2.2.length → m < k →
  zv.l5 qa r.1 r.2.1 r.2.2.1 r.2.2.2.1.1 r.2.2.2.1.2 r.2.2.2.2.1 r.2.2.2.2.2 k (r.2.2.2.2.2.length : Int) (i : Int) (qeM r ++ (r.2.2.2.2.2.take i).map qfD) = some (qgS r) := by
 have hw : (qeM r).length ≤ 6 := by unfold qeM; split <;> simp
 intro m
 induction m with
 | zero =>
  intro k i hi hk
  obtain ⟨k, rfl⟩ : ∃ k', k = k' + 1 := ⟨k - 1, by omega⟩
  have hs := qhy (qeM r) (qkN r) r.2.2.2.2.2 hb i (by omega)
  have h0 := qlh r
  have hn := hb.1
  rw [zv.l5]
  unfold zv.b5 qgS
  rw [if_neg (c := decide ((i : Int) < (r.2.2.2.2.2.length : Int)) = true) (by simp; omega)]
  rw [List.take_of_length_le (by omega)] at hs ⊢
  rw [if_pos (qiK (s := qbB) (by simp [qkN r]) (by simp; omega) (show (joinB (qeM r ++ r.2.2.2.2.2.map qfD) qbB).size ≤ _ from by omega))]
 | succ m ih =>
  intro k i hi hk
  obtain ⟨k, rfl⟩ : ∃ k', k = k' + 1 := ⟨k - 1, by omega⟩
  have hlt : i < r.2.2.2.2.2.length := by omega
  have hn := hb.1
  obtain ⟨ht, hB, hl⟩ := hb.2 _ (List.getElem_mem hlt)
  have ih1 := ih k (i + 1) (by omega) (by omega)
  rw [List.take_succ_eq_append_getElem hlt, List.map_append, List.map_cons, List.map_nil, ← List.append_assoc] at ih1
  rw [zv.l5]
  unfold zv.b5
  simp only [veil_eq]
  rw [if_pos (c := decide ((i : Int) < (r.2.2.2.2.2.length : Int)) = true) (by simp; omega), Qh, List.getElem?_eq_getElem hlt]
  dsimp only
  rw [qmA.pure _ _ ht.1 ht.2 hB (by omega)]
  dsimp only
  rw [if_pos (by simp [lim]; omega), qV _ (by omega) (by omega), show ((i : Int) + 1) = ((i + 1 : Nat) : Int) from by omega]
  exact ih1
theorem qqD.pure (r : REC) (hid : -9223372036854775808 ≤ r.1 ∧ r.1 < 9223372036854775808) (hinc : -9223372036854775808 ≤ r.2.1 ∧ r.2.1 < 9223372036854775808) (hb : qoG r.2.2.2.2.2) :
  zv.f BIG r.1 r.2.1 r.2.2.1 r.2.2.2.1.1 r.2.2.2.1.2 r.2.2.2.2.1 r.2.2.2.2.2 = some (qgS r) := by
 have hlp := qqD.loop r hb BIG r.2.2.2.2.2.length BIG 0 (by omega) (by rw [qaj]; have := hb.1; omega)
 rw [List.take_zero, List.map_nil, List.append_nil] at hlp
 have h1 := qra.pure r.2.2.1
 have h2 := qqM.pure r.2.2.2.1.1 r.2.2.2.1.2
 unfold zv.f zv.b
 simp only [veil_eq]
 rw [qeu.pure r.1 hid.1 hid.2]
 dsimp only
 revert h1 h2
 cases qac.f BIG r.2.2.1 with
 | none => intro h1; cases h1
 | some y1 =>
  cases Q9.f BIG r.2.2.2.1.1 r.2.2.2.1.2 with
  | none => intro _ h2; cases h2
  | some y3 =>
   intro h1 h2
   dsimp only at h1 h2 ⊢
   rw [h1]
   dsimp only
   rw [h2]
   dsimp only
   rw [qeu.pure r.2.1 hinc.1 hinc.2]
   dsimp only
   unfold qeM at hlp
   cases hc : r.2.2.2.2.1 with
   | true =>
    rw [hc] at hlp
    rw [if_pos rfl] at hlp ⊢
    exact hlp
   | false =>
    rw [hc] at hlp
    rw [if_neg (by simp)] at hlp ⊢
    rw [List.append_nil] at hlp
    exact hlp
def qj3 (k : Int) : ByteArray := if ((ofF k).1.toList == (⟨(([] : List UInt8)).toArray⟩ : ByteArray).toList) = true then wQ else (ofF k).1
abbrev qqH : ByteArray := ⟨((102 :: (114 :: (111 :: (109 :: ([] : List UInt8)))))).toArray⟩
abbrev qqG : ByteArray := ⟨((115 :: (112 :: (97 :: (110 :: ([] : List UInt8)))))).toArray⟩
abbrev qrb : ByteArray := ⟨((115 :: (101 :: (113 :: ([] : List UInt8))))).toArray⟩
abbrev qkt : ByteArray := ⟨((116 :: (97 :: (114 :: (103 :: (101 :: (116 :: ([] : List UInt8)))))))).toArray⟩
abbrev qjp : ByteArray := ⟨((108 :: (105 :: (102 :: (101 :: ([] : List UInt8)))))).toArray⟩
abbrev qjq : ByteArray := ⟨((101 :: (112 :: (111 :: (99 :: (104 :: ([] : List UInt8))))))).toArray⟩
abbrev qnI : ByteArray := ⟨((98 :: (97 :: (115 :: (101 :: ([] : List UInt8)))))).toArray⟩
def qdf (k f i lo hi s : Int) : List ByteArray := (qj3 k :: (qqH :: (Q8 f :: (qnH :: (Q8 i :: (qqG :: (spT lo hi :: []))))))) ++ (if qv k 0 = true then [qrb, Q8 s] else [])
def qdX (k f i lo hi s t : Int) : List ByteArray := qdf k f i lo hi s ++ (if qv k 1 = true then [qkt, Q8 t] else [])
def qdW (k f i lo hi s t l e : Int) : List ByteArray := qdX k f i lo hi s t ++ (if qv k 2 = true then [qjp, Q8 l, qjq, Q8 e] else [])
def qja (k f i lo hi s t l e b : Int) : List ByteArray := qdW k f i lo hi s t l e ++ (if qv k 3 = true then [qnI, Q8 b] else [])
def qeO (k f i lo hi s t l e b : Int) : ByteArray := joinB (qja k f i lo hi s t l e b) qbB
theorem qqh : (List.range 11).all (fun n => decide ((ofF (n : Int)).1.size ≤ 7)) = true := by kernel_rfl
theorem qon (k : Int) : (qj3 k).size ≤ 7 := by
 unfold qj3
 split
 ·decide
 ·by_cases h : k < 1 ∨ k > 9
  ·unfold ofF
   rw [if_pos (by simp; omega)]
   decide
  ·have := List.all_eq_true.1 qqh k.toNat (by simp; omega)
   rw [show ((k.toNat : Nat) : Int) = k from by omega] at this
   simpa using this
def qhP (v : Int) : Prop := -9223372036854775808 ≤ v ∧ v < 9223372036854775808
theorem qq1 (k f i lo hi s t l e b : Int) : qja k f i lo hi s t l e b ≠ [] := by unfold qja qdW qdX qdf; simp
theorem qfh (X : List ByteArray) (hX : X ≠ []) (w y : ByteArray) (hw : w.size ≤ 7) (hy : y.size ≤ 20) (c : Bool) : (joinB (X ++ if c = true then [w, y] else []) qbB).size ≤ (joinB X qbB).size + 40 := by
 have b1 := qe8
 cases c with
 | false => simp
 | true =>
  rw [if_pos rfl, qpq X hX, Qo, Qo, Qo, Qo]
  omega
theorem qoo (k f i lo hi s : Int) : (joinB (qdf k f i lo hi s) qbB).size ≤ 200 := by
 have h1 := ZL f
 have h2 := ZL i
 have h3 := qon k
 have h4 := qlV lo hi
 have h5 := ZL s
 have b1 := qe8
 have c1 : qqH.size = 4 := rfl
 have c2 : qnH.size = 3 := rfl
 have c3 : qqG.size = 4 := rfl
 unfold qdf
 refine Nat.le_trans (qfh _ (by simp) qrb (Q8 s) (by decide) h5 (qv k 0)) ?_
 simp only [qe6, qju, Qo, qjt]
 omega
theorem qqi (k f i lo hi s : Int) : qdf k f i lo hi s ≠ [] := by unfold qdf; simp
theorem qe4 (k f i lo hi s t l e b : Int) : (qja k f i lo hi s t l e b).length ≤ 20 ∧ (qeO k f i lo hi s t l e b).size ≤ 500 := by
 have h0 := qoo k f i lo hi s
 have n0 := qqi k f i lo hi s
 have h1 := qfh _ n0 qkt (Q8 t) (by decide) (ZL t) (qv k 1)
 have n1 : qdX k f i lo hi s t ≠ [] := by unfold qdX; simp [n0]
 have h2 := qfh _ n1 qjp (Q8 l) (by decide) (ZL l) (qv k 2)
 have n2 : (qdX k f i lo hi s t ++ if qv k 2 = true then [qjp, Q8 l] else []) ≠ [] := by simp [n1]
 have h3 := qfh _ n2 qjq (Q8 e) (by decide) (ZL e) (qv k 2)
 have e2 : qdW k f i lo hi s t l e = (qdX k f i lo hi s t ++ if qv k 2 = true then [qjp, Q8 l] else []) ++ if qv k 2 = true then [qjq, Q8 e] else [] := by
  unfold qdW
  cases qv k 2 <;> simp
 have n3 : qdW k f i lo hi s t l e ≠ [] := by unfold qdW; simp [n1]
 rw [← e2] at h3
 have h4 := qfh _ n3 qnI (Q8 b) (by decide) (ZL b) (qv k 3)
 have h1 : (joinB (qdX k f i lo hi s t) qbB).size ≤ (joinB (qdf k f i lo hi s) qbB).size + 40 := h1
 have h4 : (joinB (qja k f i lo hi s t l e b) qbB).size ≤ (joinB (qdW k f i lo hi s t l e) qbB).size + 40 := h4
 constructor
 ·unfold qja qdW qdX qdf
  cases qv k 0 <;> cases qv k 1 <;> cases qv k 2 <;> cases qv k 3 <;> simp
 ·unfold qeO
  omega
theorem qrr.pure (k f i lo hi s t l e b : Int) (qd : LR) (hf : qhP f) (hi' : qhP i) (hs : qhP s) (ht : qhP t) (hl : qhP l) (he : qhP e) (hb : qhP b) :
  qE.f BIG k f i lo hi s t l e b qd = some (qeO k f i lo hi s t l e b) := by
 have e10 : ∀ X : List ByteArray, qE.l10 BIG k f i lo hi s t l e b qd BIG X = if joinFits X qbB = true then some (joinB X qbB) else none := by
  intro X
  rw [qE.l10_at BIG BIG (BIG - 1) qaI]
  rfl
 have e8 : ∀ X : List ByteArray, X.length ≤ 50 → qE.l8 BIG k f i lo hi s t l e b qd BIG X = qE.l10 BIG k f i lo hi s t l e b qd BIG (X ++ if qv k 3 = true then [qnI, Q8 b] else []) := by
  intro X hX
  rw [qE.l8_at BIG BIG (BIG - 1) qaI]
  unfold qE.b8
  simp only [veil_eq]
  cases qv k 3 with
  | false => simp only [Bool.false_eq_true, if_false, List.append_nil]
  | true =>
   rw [if_pos rfl, if_pos rfl, qeu.pure b hb.1 hb.2]
   dsimp only
   rw [if_pos (by simp [lim]; omega)]
 have e6 : ∀ X : List ByteArray, X.length ≤ 40 → qE.l6 BIG k f i lo hi s t l e b qd BIG X = qE.l8 BIG k f i lo hi s t l e b qd BIG (X ++ if qv k 2 = true then [qjp, Q8 l, qjq, Q8 e] else []) := by
  intro X hX
  rw [qE.l6_at BIG BIG (BIG - 1) qaI]
  unfold qE.b6
  simp only [veil_eq]
  cases qv k 2 with
  | false => simp only [Bool.false_eq_true, if_false, List.append_nil]
  | true =>
   rw [if_pos rfl, if_pos rfl, qeu.pure l hl.1 hl.2]
   dsimp only
   rw [qeu.pure e he.1 he.2]
   dsimp only
   rw [if_pos (by simp [lim]; omega)]
 have e4 : ∀ X : List ByteArray, X.length ≤ 30 → qE.l4 BIG k f i lo hi s t l e b qd BIG X = qE.l6 BIG k f i lo hi s t l e b qd BIG (X ++ if qv k 1 = true then [qkt, Q8 t] else []) := by
  intro X hX
  rw [qE.l4_at BIG BIG (BIG - 1) qaI]
  unfold qE.b4
  simp only [veil_eq]
  cases qv k 1 with
  | false => simp only [Bool.false_eq_true, if_false, List.append_nil]
  | true =>
   rw [if_pos rfl, if_pos rfl, qeu.pure t ht.1 ht.2]
   dsimp only
   rw [if_pos (by simp [lim]; omega)]
 have hW0 : (qdf k f i lo hi s).length ≤ 9 := by unfold qdf; split <;> simp
 have hW1 : (qdX k f i lo hi s t).length ≤ 11 := by unfold qdX; split <;> simp <;> omega
 have hW2 : (qdW k f i lo hi s t l e).length ≤ 15 := by unfold qdW; split <;> simp <;> omega
 have hfin : qE.l4 BIG k f i lo hi s t l e b qd BIG (qdf k f i lo hi s) = some (qeO k f i lo hi s t l e b) := by
  rw [e4 _ (by omega)]
  show qE.l6 BIG k f i lo hi s t l e b qd BIG (qdX k f i lo hi s t) = _
  rw [e6 _ (by omega)]
  show qE.l8 BIG k f i lo hi s t l e b qd BIG (qdW k f i lo hi s t l e) = _
  rw [e8 _ (by omega)]
  show qE.l10 BIG k f i lo hi s t l e b qd BIG (qja k f i lo hi s t l e b) = _
  obtain ⟨w1, w2⟩ := qe4 k f i lo hi s t l e b
  rw [e10, if_pos (qiK (qq1 k f i lo hi s t l e b) (by omega) (by unfold qeO at w2; omega))]
  rfl
 have h2 := qqM.pure lo hi
 have hor : Qn.f BIG (ofF k).1 = some (qj3 k) := by
  unfold Qn.f Qn.b qj3
  split <;> rfl
 unfold qE.f qE.b
 simp only [veil_eq]
 rw [show qaW.f BIG k = some (ofF k).1 from rfl]
 dsimp only
 rw [hor]
 dsimp only
 rw [qeu.pure f hf.1 hf.2]
 dsimp only
 rw [qeu.pure i hi'.1 hi'.2]
 dsimp only
 revert h2
 cases Q9.f BIG lo hi with
 | none => intro h2; cases h2
 | some y3 =>
  intro h2
  dsimp only at h2 ⊢
  rw [h2]
  dsimp only
  unfold qdf at hfin
  cases h0 : qv k 0 with
  | true =>
   rw [h0] at hfin
   rw [if_pos rfl] at hfin ⊢
   rw [qeu.pure s hs.1 hs.2]
   exact hfin
  | false =>
   rw [h0] at hfin
   rw [if_neg (by simp)] at hfin ⊢
   rw [List.append_nil] at hfin
   exact hfin
theorem qq2 (a b : ByteArray) (h : a.data.toList = b.data.toList) : a = b := by
 apply ByteArray.ext
 exact Array.ext' h
def hN (i : Nat) : Nat := (halves.getD i 0).toNat
def nib (r x : Nat) : Nat := (r * 16 % 4294967296) ^^^ hN ((r / 268435456) ^^^ x)
def qlO (r c : Nat) : Nat := nib (nib r (c / 16)) (c % 16)
theorem qou (i : Nat) : hN i < 4294967296 := by
 unfold hN
 rcases Nat.lt_or_ge i 16 with h | h
 ·have : ∀ i, i < 16 → (halves.getD i 0).toNat < 4294967296 := by decide
  exact this i h
 ·have : halves.getD i 0 = 0 := by
   show (halves[i]?).getD 0 = 0
   rw [List.getElem?_eq_none (by simpa [halves] using h)]; rfl
  rw [this]; decide
theorem qjl (a b n : Nat) (ha : a < 2 ^ n) (hb : b < 2 ^ n) : a ^^^ b < 2 ^ n := Nat.xor_lt_two_pow ha hb
theorem qmd (r x : Nat) : nib r x < 4294967296 := by
 unfold nib
 exact qjl _ _ 32 (by omega) (qou _)
theorem qoO (r x : Nat) (hr : r < 4294967296) (hx : x < 16) : (r / 268435456) ^^^ x < 16 := qjl _ _ 4 (by omega) hx
theorem qlT (r c : Nat) : qlO r c < 4294967296 := qmd _ _
def qmq (r : Nat) : List Nat → Nat
 | [] => r
 | c :: b => qmq (qlO r c) b
theorem qnm (b : List Nat) : ∀ r, r < 4294967296 → qmq r b < 4294967296 := by
 induction b with
 | nil => intro r h; exact h
 | cons c b ih => intro r h; exact ih _ (qlT _ _)
def qcf : Env := ⟨th, gam [(98, zK), (52, Zc), (84, qaA), (53, qcj)], fun i => if i = 4 then ⟨[0, 3, 4, 5], [(3, 86, (.pair tQi (.sl (.int .u8))))], []⟩ else ⟨[], [], []⟩⟩
def qS.k (rs : List AV) (os : List Den.Obj) : Option (Bool × (List Int) × Int × Bool × LF) :=
 match rs, os with
 | [.row 2], [.box [.ptr 1 0, .d .bool r0], .box [.d (.sl (.int .u8)) r1, .d (.int .i64) r2, .d .bool r3], .row 86 (.pair (.int .i64) (.sl (.int .u8))) r4 false] => some (r0, r1, r2, r3, r4)
 | _, _ => none
def qS.s4 (bs : List Int) (at0 : Int) (bad qY : Bool) (x1 x2 : Int) (x3 : Bool) (x4 : (List Int)) (x5 : Int) (x6 : Bool) (x7 : LF) : St := ⟨[.ptr 0 0, .dead, .dead, .row 64, .d tQi x1, .d tQi x2, dD, dD, dD, dD, dD, dD, dD, dD, dD, dD, dD, dD, dD, dD, dD, dD, dD, dD, dD, dD, dD, dD, dD, dD, dD, dD, dD, dD, dD, dD, dD, dD, dD, dD, dD, dD, dD, dD, dD, dD, dD, .dead], ofL [(0, .box [.ptr 1 0, .d .bool x3]), (1, .box [.d (.sl (.int .u8)) x4, .d tQi x5, .d .bool x6]), (64, .row 86 (.pair tQi (.sl (.int .u8))) x7 false)], 2⟩
def qS.p4 (qa : Nat) (bs : List Int) (at0 : Int) (bad qY : Bool) (k : Nat) := fun x1 x2 x3 x4 x5 x6 x7 => lp qcf qa Tryz.f124 [.own 86 (.pair tQi (.sl (.int .u8)))] 2 qS.k 4 [] k (qS.s4 bs at0 bad qY x1 x2 x3 x4 x5 x6 x7)
def qS.b4 (bs : List Int) (at0 : Int) (bad qY : Bool) (A4 : Int → Int → Bool → (List Int) → Int → Bool → LF → Option (Bool × (List Int) × Int × Bool × LF)) (x1 : Int) (x2 : Int) (x3 : Bool) (x4 : (List Int)) (x5 : Int) (x6 : Bool) (x7 : LF) : Option (Bool × (List Int) × Int × Bool × LF) :=
 (if (decide (x2 < x1)) then (if (!x3) then (if (zq x4 x5) then (match (veil (Option.some (qy x4 (1 : Int) x5 x6))) with | none => none | some y8 => (match (veil (qD.f BIG x4 y8.2.1 y8.2.2 x3 (4096 : Int))) with | none => none | some y9 => (if (zq y9.2.2.1 y9.2.2.2.1) then (match (veil (Option.some (zd y9.2.2.1 y9.1 y9.2.2.2.1 y9.2.2.2.2))) with | none => none | some y10 => (if y10.2.2.2 then (if ((((List.length x7) + (List.length ((y8.1, y10.1) :: ([] : LF)))) * (32 : Nat)) ≤ lim) then A4 x1 (IntKind.wrap .i64 (x2 + (1 : Int))) true y9.2.2.1 y10.2.2.1 y10.2.2.2 (x7 ++ ((y8.1, y10.1) :: ([] : LF))) else none) else (if ((((List.length x7) + (List.length ((y8.1, y10.1) :: ([] : LF)))) * (32 : Nat)) ≤ lim) then A4 x1 (IntKind.wrap .i64 (x2 + (1 : Int))) y9.2.1 y9.2.2.1 y10.2.2.1 y10.2.2.2 (x7 ++ ((y8.1, y10.1) :: ([] : LF))) else none))) else none))) else none) else some (x3, x4, x5, x6, x7)) else some (x3, x4, x5, x6, x7))
def qS.l4 (qa : Nat) (bs : List Int) (at0 : Int) (bad qY : Bool) : Nat → Int → Int → Bool → (List Int) → Int → Bool → LF → Option (Bool × (List Int) × Int × Bool × LF)
 | 0, _, _, _, _, _, _, _ => none
 | k + 1, x1, x2, x3, x4, x5, x6, x7 => qS.b4 bs at0 bad qY (qS.l4 qa bs at0 bad qY k) x1 x2 x3 x4 x5 x6 x7
def qS.b (bs : List Int) (at0 : Int) (bad qY : Bool) (E4 : Int → Int → Bool → (List Int) → Int → Bool → LF → Option (Bool × (List Int) × Int × Bool × LF)) : Option (Bool × (List Int) × Int × Bool × LF) :=
 (match (veil (qD.f BIG bs at0 bad qY (32 : Int))) with | none => none | some y0 => E4 y0.1 (0 : Int) y0.2.1 y0.2.2.1 y0.2.2.2.1 y0.2.2.2.2 ([] : LF))
def qS.f (qa : Nat) (bs : List Int) (at0 : Int) (bad qY : Bool) : Option (Bool × (List Int) × Int × Bool × LF) := qS.b bs at0 bad qY (qS.l4 qa bs at0 bad qY qa)
theorem qS.l4_eq (qa : Nat) (bs : List Int) (at0 : Int) (bad qY : Bool) : ∀ k : Nat, qS.p4 qa bs at0 bad qY k = qS.l4 qa bs at0 bad qY k
 | 0 => by kernel_rfl
 | k + 1 => by
  refine Eq.trans (b := qS.b4 bs at0 bad qY (qS.p4 qa bs at0 bad qY k)) (by kernel_rfl) ?_
  rw [qS.l4_eq qa bs at0 bad qY k]
  kernel_rfl
theorem qS.eq (qa : Nat) (bs : List Int) (at0 : Int) (bad qY : Bool) : (denF qcf loopN qa Tryz.f124 [.own 86 (.pair tQi (.sl (.int .u8)))] [.ptr 0 0] [.box [.ptr 1 0, .d .bool qY], .box [.d (.sl (.int .u8)) bs, .d tQi at0, .d .bool bad]] qS.k) = qS.f qa bs at0 bad qY := by
 refine Eq.trans (b := qS.b bs at0 bad qY (qS.p4 qa bs at0 bad qY qa)) (by kernel_rfl) ?_
 rw [qS.l4_eq qa bs at0 bad qY qa]
 kernel_rfl
def Ze : Den.Sum := ⟨[.pb [.frz none [0] 0 (.int .u8)]], fun qH ql κ => match qH, ql with
 | [.ptr 0 0], [.box [.ptr 1 0, .d .bool qY], .box [.d (.sl (.int .u8)) bs, .d (.int .i64) at0, .d .bool bad]] => (match veil (qS.f BIG bs at0 bad qY) with | none => none | some y => κ [.row 2] [.box [.ptr 1 0, .d .bool y.1], .box [.d (.sl (.int .u8)) y.2.1, .d (.int .i64) y.2.2.1, .d .bool y.2.2.2.1], .row 86 (.pair (.int .i64) (.sl (.int .u8))) y.2.2.2.2 false])
 | _, _ => none⟩
theorem qfu : SumDet Ze := zi fun _ _ _ _ => by
 unfold Ze
 simp only [veil_eq]
 split
 ·split <;> rfl
 ·rfl
theorem qfI : SumOk Tryz.prog 124 Ze := by
 have hE : EnvOk Tryz.prog qcf := env_ok (l := [(98, zK), (52, Zc), (84, qaA), (53, qcj)]) th_ok qX ⟨⟨qaf, Z7⟩, ⟨qaZ, qax⟩, ⟨qcF, qb1⟩, ⟨qgI, qfV⟩, trivial⟩ _
 refine sum_ok hE Tryz.func124 rfl (by kernel_rfl) Ze [.own 86 (.pair tQi (.sl (.int .u8)))] qS.k ?_
 intro R avs ql κ r h
 unfold Ze at h
 simp only [veil_eq] at h
 split at h
 ·rename_i qY bs at0 bad
  split at h
  ·cases h
  ·rename_i y hy
   refine ⟨BIG, _, _, _, (qS.eq BIG bs at0 bad qY).trans hy, ?_, h⟩
   intro rs ros hk
   unfold qS.k at hk
   split at hk
   ·rw [← sj hk]; exact ⟨rfl, rfl⟩
   ·cases hk
 ·cases h
def qbO : Env := ⟨th, gam [(98, zK), (122, qa0), (75, qcV), (52, Zc), (107, Qu), (123, qbd), (124, Ze)], fun i => if i = 8 then ⟨[0, 6, 7, 8, 9, 10], [], [777777]⟩ else if i = 12 then ⟨[0, 6, 7, 8, 9, 10], [], [777777]⟩ else ⟨[], [], []⟩⟩
def qC.k (rs : List AV) (os : List Den.Obj) : Option (Int × Int × Int × Int × Int × Bool × LF × Bool × (List Int) × Int × Bool) :=
 match rs, os with
 | [.agg [.d (.int .i64) r0, .d (.int .i64) r1, .d (.int .i64) r2, .d (.int .i64) r3, .d (.int .i64) r4, .d .bool r5, .d (.sl (.pair (.int .i64) (.sl (.int .u8)))) r6]], [.box [.ptr 1 0, .d .bool r7], .box [.d (.sl (.int .u8)) r8, .d (.int .i64) r9, .d .bool r10]] => some (r0, r1, r2, r3, r4, r5, r6, r7, r8, r9, r10)
 | _, _ => none
def qC.s12 (bs : List Int) (at0 : Int) (bad qY : Bool) (qe : Int) (qb : LR) (x19 : Int) (x20 x21 : Bool) (x22 : (List Int)) (x23 : Int) (x24 : Bool) (x25 x26 x27 x28 : Int) (x29 : Bool) (x30 x31 x32 x33 x34 : Int) (x35 : Bool) (x36 : LF) : St := ⟨[.ptr 0 0, dD, dD, dD, dD, dD, .ptr 64 0, .ptr 65 0, .d tQi x19, .ptr 66 0, .d .bool x20, dD, dD, dD, dD, dD, dD, dD, dD, dD, dD, dD, dD, dD, dD, dD, dD, dD, dD, dD, dD, dD, dD, dD, dD, dD, dD, dD, dD, dD, dD, dD, dD, dD, dD, dD, dD, dD, dD, dD, dD, dD, dD, dD, dD, dD, dD, dD, dD, dD, dD, dD, dD, dD, dD, dD, dD, dD, dD, dD, dD, dD, dD, dD, dD, dD, dD, dD, dD, dD, dD, dD, dD, dD, dD, dD, dD, dD, dD, dD, dD, dD, dD, dD, dD, dD, dD, dD, dD, dD, dD, dD, dD, dD, dD, dD, dD, dD, dD, dD, dD, dD, dD, dD, dD, dD, dD, dD, dD, dD, dD, dD, .dead], ofL [(0, .box [.ptr 1 0, .d .bool x21]), (1, .box [.d (.sl (.int .u8)) x22, .d tQi x23, .d .bool x24]), (64, .box [.d tQi (0), .d tQi (0), .d tQi (0), .d tQi (0), .d tQi (0), .d .bool (false), .nilsl]), (65, .box [.d tQi x25, .d tQi (0), .d tQi x26, .d tQi x27, .d tQi x28, .d .bool x29, .nilsl]), (66, .box [.d tQi x30, .d tQi x31, .d tQi x32, .d tQi x33, .d tQi x34, .d .bool x35, .d (.sl (.pair tQi (.sl (.int .u8)))) x36])], 2⟩
def qC.p12 (qa : Nat) (bs : List Int) (at0 : Int) (bad qY : Bool) (qe : Int) (qb : LR) (k : Nat) := fun x19 x20 x21 x22 x23 x24 x25 x26 x27 x28 x29 x30 x31 x32 x33 x34 x35 x36 => lp qbO qa Tryz.f99 [.dat tQr true] 2 qC.k 12 [] k (qC.s12 bs at0 bad qY qe qb x19 x20 x21 x22 x23 x24 x25 x26 x27 x28 x29 x30 x31 x32 x33 x34 x35 x36)
def qC.b12 (bs : List Int) (at0 : Int) (bad qY : Bool) (qe : Int) (qb : LR) (A12 : Int → Bool → Bool → (List Int) → Int → Bool → Int → Int → Int → Int → Bool → Int → Int → Int → Int → Int → Bool → LF → Option (Int × Int × Int × Int × Int × Bool × LF × Bool × (List Int) × Int × Bool)) (x19 : Int) (x20 : Bool) (x21 : Bool) (x22 : (List Int)) (x23 : Int) (x24 : Bool) (x25 : Int) (x26 : Int) (x27 : Int) (x28 : Int) (x29 : Bool) (x30 : Int) (x31 : Int) (x32 : Int) (x33 : Int) (x34 : Int) (x35 : Bool) (x36 : LF) : Option (Int × Int × Int × Int × Int × Bool × LF × Bool × (List Int) × Int × Bool) :=
 (match (veil (qD.f BIG x22 x23 x24 x21 (veil (562949953421310 : Int)))) with | none => none | some y37 => (match (veil (QZ.f BIG (IntKind.wrap .u64 y37.1))) with | none => none | some y38 => (if x29 then some (x25, (IntKind.wrap .i64 (x31 + y38)), x26, x27, x28, x29, ([] : LF), y37.2.1, y37.2.2.1, y37.2.2.2.1, y37.2.2.2.2) else (if ((bits BinOp.and .i64 x19 (16 : Int)) != (0 : Int)) then some (x25, (IntKind.wrap .i64 (x31 + y38)), x26, x27, x28, x29, x36, y37.2.1, y37.2.2.1, y37.2.2.2.1, y37.2.2.2.2) else (match (veil (qS.f BIG y37.2.2.1 y37.2.2.2.1 y37.2.2.2.2 y37.2.1)) with | none => none | some y39 => (if y39.1 then some (x25, (IntKind.wrap .i64 (x31 + y38)), x26, x27, x28, x29, y39.2.2.2.2, true, y39.2.1, y39.2.2.1, y39.2.2.2.1) else (if x20 then (if ((zo y39.2.2.2.2) && (zo x36)) then some (x25, (IntKind.wrap .i64 (x31 + y38)), x26, x27, x28, x29, y39.2.2.2.2, ((ZH y39.2.2.2.2 x36) == (0 : Int)), y39.2.1, y39.2.2.1, y39.2.2.2.1) else none) else some (x25, (IntKind.wrap .i64 (x31 + y38)), x26, x27, x28, x29, y39.2.2.2.2, false, y39.2.1, y39.2.2.1, y39.2.2.2.1))))))))
def qC.l12 (qa : Nat) (bs : List Int) (at0 : Int) (bad qY : Bool) (qe : Int) (qb : LR) : Nat → Int → Bool → Bool → (List Int) → Int → Bool → Int → Int → Int → Int → Bool → Int → Int → Int → Int → Int → Bool → LF → Option (Int × Int × Int × Int × Int × Bool × LF × Bool × (List Int) × Int × Bool)
 | 0, _, _, _, _, _, _, _, _, _, _, _, _, _, _, _, _, _, _ => none
 | k + 1, x19, x20, x21, x22, x23, x24, x25, x26, x27, x28, x29, x30, x31, x32, x33, x34, x35, x36 => qC.b12 bs at0 bad qY qe qb (qC.l12 qa bs at0 bad qY qe qb k) x19 x20 x21 x22 x23 x24 x25 x26 x27 x28 x29 x30 x31 x32 x33 x34 x35 x36
def qC.s8 (bs : List Int) (at0 : Int) (bad qY : Bool) (qe : Int) (qb : LR) (x3 : Int) (x4 x5 : Bool) (x6 : (List Int)) (x7 : Int) (x8 : Bool) (x9 x10 : Int) (x11 : Bool) (x12 x13 x14 x15 x16 : Int) (x17 : Bool) (x18 : LF) : St := ⟨[.ptr 0 0, dD, dD, dD, dD, dD, .ptr 64 0, .ptr 65 0, .d tQi x3, .ptr 66 0, .d .bool x4, dD, dD, dD, dD, dD, dD, dD, dD, dD, dD, dD, dD, dD, dD, dD, dD, dD, dD, dD, dD, dD, dD, dD, dD, dD, dD, dD, dD, dD, dD, dD, dD, dD, dD, dD, dD, dD, dD, dD, dD, dD, dD, dD, dD, dD, dD, dD, dD, dD, dD, dD, dD, dD, dD, dD, dD, dD, dD, dD, dD, dD, dD, dD, dD, dD, dD, dD, dD, dD, dD, dD, dD, dD, dD, dD, dD, dD, dD, dD, dD, dD, dD, dD, dD, dD, dD, dD, dD, dD, dD, dD, dD, dD, dD, dD, dD, dD, dD, dD, dD, dD, dD, dD, dD, dD, dD, dD, dD, dD, dD, dD, .dead], ofL [(0, .box [.ptr 1 0, .d .bool x5]), (1, .box [.d (.sl (.int .u8)) x6, .d tQi x7, .d .bool x8]), (64, .box [.d tQi (0), .d tQi (0), .d tQi (0), .d tQi (0), .d tQi (0), .d .bool (false), .nilsl]), (65, .box [.d tQi x9, .d tQi (0), .d tQi x10, .d tQi (0), .d tQi (0), .d .bool x11, .nilsl]), (66, .box [.d tQi x12, .d tQi x13, .d tQi x14, .d tQi x15, .d tQi x16, .d .bool x17, .d (.sl (.pair tQi (.sl (.int .u8)))) x18])], 2⟩
def qC.p8 (qa : Nat) (bs : List Int) (at0 : Int) (bad qY : Bool) (qe : Int) (qb : LR) (k : Nat) := fun x3 x4 x5 x6 x7 x8 x9 x10 x11 x12 x13 x14 x15 x16 x17 x18 => lp qbO qa Tryz.f99 [.dat tQr true] 2 qC.k 8 [] k (qC.s8 bs at0 bad qY qe qb x3 x4 x5 x6 x7 x8 x9 x10 x11 x12 x13 x14 x15 x16 x17 x18)
def qC.b8 (bs : List Int) (at0 : Int) (bad qY : Bool) (qe : Int) (qb : LR) (A8 : Int → Bool → Bool → (List Int) → Int → Bool → Int → Int → Bool → Int → Int → Int → Int → Int → Bool → LF → Option (Int × Int × Int × Int × Int × Bool × LF × Bool × (List Int) × Int × Bool)) (E12 : Int → Bool → Bool → (List Int) → Int → Bool → Int → Int → Int → Int → Bool → Int → Int → Int → Int → Int → Bool → LF → Option (Int × Int × Int × Int × Int × Bool × LF × Bool × (List Int) × Int × Bool)) (x3 : Int) (x4 : Bool) (x5 : Bool) (x6 : (List Int)) (x7 : Int) (x8 : Bool) (x9 : Int) (x10 : Int) (x11 : Bool) (x12 : Int) (x13 : Int) (x14 : Int) (x15 : Int) (x16 : Int) (x17 : Bool) (x18 : LF) : Option (Int × Int × Int × Int × Int × Bool × LF × Bool × (List Int) × Int × Bool) :=
 (if ((bits BinOp.and .i64 x3 (8 : Int)) != (0 : Int)) then E12 x3 x4 x5 x6 x7 x8 x9 x10 x15 x16 x11 x12 x13 x14 x15 x16 x17 x18 else (match (veil (zm.f BIG x6 x7 x8 x5)) with | none => none | some y40 => (if y40.2.2.1 then E12 x3 x4 true y40.2.2.2.1 y40.2.2.2.2.1 y40.2.2.2.2.2 x9 x10 y40.1 y40.2.1 x11 x12 x13 x14 x15 x16 x17 x18 else (if x4 then E12 x3 x4 (if (y40.1 == x15) then (if (y40.2.1 == x16) then true else false) else false) y40.2.2.2.1 y40.2.2.2.2.1 y40.2.2.2.2.2 x9 x10 y40.1 y40.2.1 x11 x12 x13 x14 x15 x16 x17 x18 else E12 x3 x4 false y40.2.2.2.1 y40.2.2.2.2.1 y40.2.2.2.2.2 x9 x10 y40.1 y40.2.1 x11 x12 x13 x14 x15 x16 x17 x18))))
def qC.l8 (qa : Nat) (bs : List Int) (at0 : Int) (bad qY : Bool) (qe : Int) (qb : LR) : Nat → Int → Bool → Bool → (List Int) → Int → Bool → Int → Int → Bool → Int → Int → Int → Int → Int → Bool → LF → Option (Int × Int × Int × Int × Int × Bool × LF × Bool × (List Int) × Int × Bool)
 | 0, _, _, _, _, _, _, _, _, _, _, _, _, _, _, _, _ => none
 | k + 1, x3, x4, x5, x6, x7, x8, x9, x10, x11, x12, x13, x14, x15, x16, x17, x18 => qC.b8 bs at0 bad qY qe qb (qC.l8 qa bs at0 bad qY qe qb k) (qC.l12 qa bs at0 bad qY qe qb qa) x3 x4 x5 x6 x7 x8 x9 x10 x11 x12 x13 x14 x15 x16 x17 x18
def qC.b (bs : List Int) (at0 : Int) (bad qY : Bool) (qe : Int) (qb : LR) (E8 : Int → Bool → Bool → (List Int) → Int → Bool → Int → Int → Bool → Int → Int → Int → Int → Int → Bool → LF → Option (Int × Int × Int × Int × Int × Bool × LF × Bool × (List Int) × Int × Bool)) : Option (Int × Int × Int × Int × Int × Bool × LF × Bool × (List Int) × Int × Bool) :=
 (match (veil (qD.f BIG bs at0 bad qY (4095 : Int))) with | none => none | some y0 => (if (zq y0.2.2.1 y0.2.2.2.1) then (match (veil (Option.some (qy y0.2.2.1 (1 : Int) y0.2.2.2.1 y0.2.2.2.2))) with | none => none | some y1 => (match (veil (qad.f BIG qb (IntKind.wrap .i64 ((IntKind.wrap .i64 (qe + (1 : Int))) + y0.1)))) with | none => none | some y2 => (if (decide (y1.1 ≥ (32 : Int))) then some ((IntKind.wrap .i64 ((IntKind.wrap .i64 (qe + (1 : Int))) + y0.1)), 0, (bits BinOp.and .i64 y1.1 (3 : Int)), 0, 0, ((bits BinOp.and .i64 y1.1 (4 : Int)) != (0 : Int)), ([] : LF), true, y0.2.2.1, y1.2.1, y1.2.2) else (if (!y2.2.2.2.2.2.2.2) then (if (decide (y1.1 ≥ (8 : Int))) then some ((IntKind.wrap .i64 ((IntKind.wrap .i64 (qe + (1 : Int))) + y0.1)), 0, (bits BinOp.and .i64 y1.1 (3 : Int)), 0, 0, ((bits BinOp.and .i64 y1.1 (4 : Int)) != (0 : Int)), ([] : LF), true, y0.2.2.1, y1.2.1, y1.2.2) else (if ((bits BinOp.and .i64 y1.1 (4 : Int)) != (0 : Int)) then (if (decide (y1.1 ≥ (16 : Int))) then some ((IntKind.wrap .i64 ((IntKind.wrap .i64 (qe + (1 : Int))) + y0.1)), 0, (bits BinOp.and .i64 y1.1 (3 : Int)), 0, 0, ((bits BinOp.and .i64 y1.1 (4 : Int)) != (0 : Int)), ([] : LF), true, y0.2.2.1, y1.2.1, y1.2.2) else E8 y1.1 y2.2.2.2.2.2.2.2 y0.2.1 y0.2.2.1 y1.2.1 y1.2.2 (IntKind.wrap .i64 ((IntKind.wrap .i64 (qe + (1 : Int))) + y0.1)) (bits BinOp.and .i64 y1.1 (3 : Int)) ((bits BinOp.and .i64 y1.1 (4 : Int)) != (0 : Int)) y2.1 y2.2.1 y2.2.2.1 y2.2.2.2.1 y2.2.2.2.2.1 y2.2.2.2.2.2.1 y2.2.2.2.2.2.2.1) else E8 y1.1 y2.2.2.2.2.2.2.2 y0.2.1 y0.2.2.1 y1.2.1 y1.2.2 (IntKind.wrap .i64 ((IntKind.wrap .i64 (qe + (1 : Int))) + y0.1)) (bits BinOp.and .i64 y1.1 (3 : Int)) ((bits BinOp.and .i64 y1.1 (4 : Int)) != (0 : Int)) y2.1 y2.2.1 y2.2.2.1 y2.2.2.2.1 y2.2.2.2.2.1 y2.2.2.2.2.2.1 y2.2.2.2.2.2.2.1)) else (if ((bits BinOp.and .i64 y1.1 (4 : Int)) != (0 : Int)) then (if (decide (y1.1 ≥ (16 : Int))) then some ((IntKind.wrap .i64 ((IntKind.wrap .i64 (qe + (1 : Int))) + y0.1)), 0, (bits BinOp.and .i64 y1.1 (3 : Int)), 0, 0, ((bits BinOp.and .i64 y1.1 (4 : Int)) != (0 : Int)), ([] : LF), true, y0.2.2.1, y1.2.1, y1.2.2) else E8 y1.1 y2.2.2.2.2.2.2.2 y0.2.1 y0.2.2.1 y1.2.1 y1.2.2 (IntKind.wrap .i64 ((IntKind.wrap .i64 (qe + (1 : Int))) + y0.1)) (bits BinOp.and .i64 y1.1 (3 : Int)) ((bits BinOp.and .i64 y1.1 (4 : Int)) != (0 : Int)) y2.1 y2.2.1 y2.2.2.1 y2.2.2.2.1 y2.2.2.2.2.1 y2.2.2.2.2.2.1 y2.2.2.2.2.2.2.1) else E8 y1.1 y2.2.2.2.2.2.2.2 y0.2.1 y0.2.2.1 y1.2.1 y1.2.2 (IntKind.wrap .i64 ((IntKind.wrap .i64 (qe + (1 : Int))) + y0.1)) (bits BinOp.and .i64 y1.1 (3 : Int)) ((bits BinOp.and .i64 y1.1 (4 : Int)) != (0 : Int)) y2.1 y2.2.1 y2.2.2.1 y2.2.2.2.1 y2.2.2.2.2.1 y2.2.2.2.2.2.1 y2.2.2.2.2.2.2.1))))) else none))
def qC.f (qa : Nat) (bs : List Int) (at0 : Int) (bad qY : Bool) (qe : Int) (qb : LR) : Option (Int × Int × Int × Int × Int × Bool × LF × Bool × (List Int) × Int × Bool) := qC.b bs at0 bad qY qe qb (qC.l8 qa bs at0 bad qY qe qb qa)
theorem qC.l12_eq (qa : Nat) (bs : List Int) (at0 : Int) (bad qY : Bool) (qe : Int) (qb : LR) : ∀ k : Nat, qC.p12 qa bs at0 bad qY qe qb k = qC.l12 qa bs at0 bad qY qe qb k
 | 0 => by kernel_rfl
 | k + 1 => by
  refine Eq.trans (b := qC.b12 bs at0 bad qY qe qb (qC.p12 qa bs at0 bad qY qe qb k)) (by kernel_rfl) ?_
  rw [qC.l12_eq qa bs at0 bad qY qe qb k]
  kernel_rfl
theorem qC.l8_eq (qa : Nat) (bs : List Int) (at0 : Int) (bad qY : Bool) (qe : Int) (qb : LR) : ∀ k : Nat, qC.p8 qa bs at0 bad qY qe qb k = qC.l8 qa bs at0 bad qY qe qb k
 | 0 => by kernel_rfl
 | k + 1 => by
  refine Eq.trans (b := qC.b8 bs at0 bad qY qe qb (qC.p8 qa bs at0 bad qY qe qb k) (qC.p12 qa bs at0 bad qY qe qb qa)) (by kernel_rfl) ?_
  rw [qC.l8_eq qa bs at0 bad qY qe qb k, qC.l12_eq qa bs at0 bad qY qe qb qa]
  kernel_rfl
theorem qC.eq (qa : Nat) (bs : List Int) (at0 : Int) (bad qY : Bool) (qe : Int) (qb : LR) : (denF qbO loopN qa Tryz.f99 [.dat tQr true] [.ptr 0 0, .d tQi qe, .d (.sl tQr) qb] [.box [.ptr 1 0, .d .bool qY], .box [.d (.sl (.int .u8)) bs, .d tQi at0, .d .bool bad]] qC.k) = qC.f qa bs at0 bad qY qe qb := by
 refine Eq.trans (b := qC.b bs at0 bad qY qe qb (qC.p8 qa bs at0 bad qY qe qb qa)) (by kernel_rfl) ?_
 rw [qC.l8_eq qa bs at0 bad qY qe qb qa]
 kernel_rfl
theorem qC.l12_at (qa nN kK : Nat) (hN : nN = kK + 1) (bs : List Int) (at0 : Int) (bad : Bool) (qY : Bool) (qe : Int) (qb : LR) (x19 : Int) (x20 : Bool) (x21 : Bool) (x22 : (List Int)) (x23 : Int) (x24 : Bool) (x25 : Int) (x26 : Int) (x27 : Int) (x28 : Int) (x29 : Bool) (x30 : Int) (x31 : Int) (x32 : Int) (x33 : Int) (x34 : Int) (x35 : Bool) (x36 : LF) : qC.l12 qa bs at0 bad qY qe qb nN x19 x20 x21 x22 x23 x24 x25 x26 x27 x28 x29 x30 x31 x32 x33 x34 x35 x36 = qC.b12 bs at0 bad qY qe qb (qC.l12 qa bs at0 bad qY qe qb kK) x19 x20 x21 x22 x23 x24 x25 x26 x27 x28 x29 x30 x31 x32 x33 x34 x35 x36 := by
 subst hN
 rfl
theorem qC.l8_at (qa nN kK : Nat) (hN : nN = kK + 1) (bs : List Int) (at0 : Int) (bad : Bool) (qY : Bool) (qe : Int) (qb : LR) (x3 : Int) (x4 : Bool) (x5 : Bool) (x6 : (List Int)) (x7 : Int) (x8 : Bool) (x9 : Int) (x10 : Int) (x11 : Bool) (x12 : Int) (x13 : Int) (x14 : Int) (x15 : Int) (x16 : Int) (x17 : Bool) (x18 : LF) : qC.l8 qa bs at0 bad qY qe qb nN x3 x4 x5 x6 x7 x8 x9 x10 x11 x12 x13 x14 x15 x16 x17 x18 = qC.b8 bs at0 bad qY qe qb (qC.l8 qa bs at0 bad qY qe qb kK) (qC.l12 qa bs at0 bad qY qe qb qa) x3 x4 x5 x6 x7 x8 x9 x10 x11 x12 x13 x14 x15 x16 x17 x18 := by
 subst hN
 rfl
def ZW : Den.Sum := ⟨[.pb [.frz none [0] 0 (.int .u8)], .raw, .dat (.sl tQr) false], fun qH ql κ => match qH, ql with
 | [.ptr 0 0, .d (.int .i64) qe, .d (.sl (.pair (.int .i64) (.pair (.int .i64) (.pair (.int .i64) (.pair (.pair (.int .i64) (.int .i64)) (.pair .bool (.sl (.pair (.int .i64) (.sl (.int .u8)))))))))) qb], [.box [.ptr 1 0, .d .bool qY], .box [.d (.sl (.int .u8)) bs, .d (.int .i64) at0, .d .bool bad]] => (match veil (qC.f BIG bs at0 bad qY qe qb) with | none => none | some y => κ [.agg [.d (.int .i64) y.1, .d (.int .i64) y.2.1, .d (.int .i64) y.2.2.1, .d (.int .i64) y.2.2.2.1, .d (.int .i64) y.2.2.2.2.1, .d .bool y.2.2.2.2.2.1, .d (.sl (.pair (.int .i64) (.sl (.int .u8)))) y.2.2.2.2.2.2.1]] [.box [.ptr 1 0, .d .bool y.2.2.2.2.2.2.2.1], .box [.d (.sl (.int .u8)) y.2.2.2.2.2.2.2.2.1, .d (.int .i64) y.2.2.2.2.2.2.2.2.2.1, .d .bool y.2.2.2.2.2.2.2.2.2.2]])
 | _, _ => none⟩
theorem qgt : SumDet ZW := zi fun _ _ _ _ => by
 unfold ZW
 simp only [veil_eq]
 split
 ·split <;> rfl
 ·rfl
theorem qgM : SumOk Tryz.prog 99 ZW := by
 have hE : EnvOk Tryz.prog qbO := env_ok (l := [(98, zK), (122, qa0), (75, qcV), (52, Zc), (107, Qu), (123, qbd), (124, Ze)]) th_ok qX ⟨⟨qaf, Z7⟩, ⟨qhi, qgn⟩, ⟨qjS, qiD⟩, ⟨qaZ, qax⟩, ⟨qbV, qbK⟩, ⟨qjA, qiV⟩, ⟨qfI, qfu⟩, trivial⟩ _
 refine sum_ok hE Tryz.func99 rfl (by kernel_rfl) ZW [.dat tQr true] qC.k ?_
 intro R avs ql κ r h
 unfold ZW at h
 simp only [veil_eq] at h
 split at h
 ·rename_i qe qb qY bs at0 bad
  split at h
  ·cases h
  ·rename_i y hy
   refine ⟨BIG, _, _, _, (qC.eq BIG bs at0 bad qY qe qb).trans hy, ?_, h⟩
   intro rs ros hk
   unfold qC.k at hk
   split at hk
   ·rw [← sj hk]; exact ⟨rfl, rfl⟩
   ·cases hk
 ·cases h
def qeQ : Env := ⟨th, gam [(76, Q1), (96, qbf), (41, qaa), (51, qaC), (74, Zw), (98, zK), (99, ZW), (86, qcD)], fun i => if i = 11 then ⟨[0, 1, 4, 6, 7, 8, 9, 10], [(1458, 54, tQr), (1, 53, tQr)], [1]⟩ else ⟨[], [], []⟩⟩
def zg.k (rs : List AV) (os : List Den.Obj) : Option (Int × Int × Int × Int × Int × Int × Int × Int × Int × Int × LR × Int) :=
 match rs, os with
 | [.agg [.d (.int .i64) r0, .d (.int .i64) r1, .d (.int .i64) r2, .d (.int .i64) r3, .d (.int .i64) r4, .d (.int .i64) r5, .d (.int .i64) r6, .d (.int .i64) r7, .d (.int .i64) r8, .d (.int .i64) r9, .d (.sl (.pair (.int .i64) (.pair (.int .i64) (.pair (.int .i64) (.pair (.pair (.int .i64) (.int .i64)) (.pair .bool (.sl (.pair (.int .i64) (.sl (.int .u8)))))))))) r10], .d (.int .i64) r11], [] => some (r0, r1, r2, r3, r4, r5, r6, r7, r8, r9, r10, r11)
 | _, _ => none
def zg.s11 (b : List Int) (qb x2 : LR) (x3 x4 x5 : Int) (x6 : Bool) (x7 : (List Int)) (x8 : Int) (x9 : Bool) (x10 x11 x12 x13 x14 x15 x16 x17 x18 x19 : Int) (x20 : LR) : St := ⟨[.d (.sl (.int .u8)) (b), .d (.sl tQr) x2, .dead, .dead, .ptr 64 0, .dead, .ptr 65 0, .ptr 67 0, .d tQi x3, .d tQi x4, .d tQi x5, dD, dD, dD, dD, dD, dD, dD, dD, dD, dD, dD, dD, dD, dD, dD, dD, dD, dD, dD, dD, dD, dD, dD, dD, dD, dD, dD, dD, dD, dD, dD, dD, dD, dD, dD, dD, dD, dD, dD, dD, dD, dD, dD, dD, dD, dD, dD, dD, dD, dD, dD, dD, dD, dD, dD, dD, dD, dD, dD, dD, dD, dD, dD, dD, dD, dD, .dead], ofL [(64, .box [.d tQi (0), .d tQi (0), .d tQi (0), .d tQi (0), .d tQi (0), .d tQi (0), .d tQi (0), .d tQi (0), .d tQi (0), .d tQi (0), .nilsl]), (65, .box [.ptr 66 0, .d .bool x6]), (66, .box [.d (.sl (.int .u8)) x7, .d tQi x8, .d .bool x9]), (67, .box [.d tQi x10, .d tQi x11, .d tQi x12, .d tQi x13, .d tQi x14, .d tQi x15, .d tQi x16, .d tQi x17, .d tQi x18, .d tQi x19, .row 68]), (68, .row 54 tQr x20 false)], 0⟩
def zg.p11 (qa : Nat) (b : List Int) (qb : LR) (k : Nat) := fun x2 x3 x4 x5 x6 x7 x8 x9 x10 x11 x12 x13 x14 x15 x16 x17 x18 x19 x20 => lp qeQ qa Tryz.f65 [.dat (.pair tQi (.pair tQi (.pair tQi (.pair (.pair tQi tQi) (.pair tQi (.pair tQi (.pair tQi (.pair tQi (.pair tQi (.sl tQr)))))))))) true, .raw] 0 zg.k 11 [] k (zg.s11 b qb x2 x3 x4 x5 x6 x7 x8 x9 x10 x11 x12 x13 x14 x15 x16 x17 x18 x19 x20)
def zg.b11 (b : List Int) (qb : LR) (A11 : LR → Int → Int → Int → Bool → (List Int) → Int → Bool → Int → Int → Int → Int → Int → Int → Int → Int → Int → Int → LR → Option (Int × Int × Int × Int × Int × Int × Int × Int × Int × Int × LR × Int)) (x2 : LR) (x3 : Int) (x4 : Int) (x5 : Int) (x6 : Bool) (x7 : (List Int)) (x8 : Int) (x9 : Bool) (x10 : Int) (x11 : Int) (x12 : Int) (x13 : Int) (x14 : Int) (x15 : Int) (x16 : Int) (x17 : Int) (x18 : Int) (x19 : Int) (x20 : LR) : Option (Int × Int × Int × Int × Int × Int × Int × Int × Int × Int × LR × Int) :=
 (if (decide (x5 < x3)) then (if (!x6) then (match (veil (qC.f BIG x7 x8 x9 x6 x4 x2)) with | none => none | some y21 => (if ((((List.length x20) + (List.length ((y21.1, (y21.2.1, (y21.2.2.1, ((y21.2.2.2.1, y21.2.2.2.2.1), (y21.2.2.2.2.2.1, y21.2.2.2.2.2.2.1))))) :: ([] : LR)))) * (72 : Nat)) ≤ lim) then A11 x2 x3 y21.1 (IntKind.wrap .i64 (x5 + (1 : Int))) y21.2.2.2.2.2.2.2.1 y21.2.2.2.2.2.2.2.2.1 y21.2.2.2.2.2.2.2.2.2.1 y21.2.2.2.2.2.2.2.2.2.2 x10 x11 x12 x13 x14 x15 x16 x17 x18 x19 (x20 ++ ((y21.1, (y21.2.1, (y21.2.2.1, ((y21.2.2.2.1, y21.2.2.2.2.1), (y21.2.2.2.2.2.1, y21.2.2.2.2.2.2.1))))) :: ([] : LR))) else none)) else (if x6 then some (0, 0, 0, 0, 0, 0, 0, 0, 0, 0, ([] : LR), (4 : Int)) else (if (zq x7 x8) then (if (!((!x9) && ((ZT x7 x8 x9) == (0 : Int)))) then some (0, 0, 0, 0, 0, 0, 0, 0, 0, 0, ([] : LR), (4 : Int)) else (if (decide (((((List.length b)) : Nat) : Int) > (65499 : Int))) then some (0, 0, 0, 0, 0, 0, 0, 0, 0, 0, ([] : LR), (4 : Int)) else (if (za x20) then (if (!(q0 x10 x11 x12 x13 x14 x15 x16 x17 x18 x19 x20)) then some (0, 0, 0, 0, 0, 0, 0, 0, 0, 0, ([] : LR), (4 : Int)) else some (x10, x11, x12, x13, x14, x15, x16, x17, x18, x19, x20, (0 : Int))) else none))) else none))) else (if x6 then some (0, 0, 0, 0, 0, 0, 0, 0, 0, 0, ([] : LR), (4 : Int)) else (if (zq x7 x8) then (if (!((!x9) && ((ZT x7 x8 x9) == (0 : Int)))) then some (0, 0, 0, 0, 0, 0, 0, 0, 0, 0, ([] : LR), (4 : Int)) else (if (decide (((((List.length b)) : Nat) : Int) > (65499 : Int))) then some (0, 0, 0, 0, 0, 0, 0, 0, 0, 0, ([] : LR), (4 : Int)) else (if (za x20) then (if (!(q0 x10 x11 x12 x13 x14 x15 x16 x17 x18 x19 x20)) then some (0, 0, 0, 0, 0, 0, 0, 0, 0, 0, ([] : LR), (4 : Int)) else some (x10, x11, x12, x13, x14, x15, x16, x17, x18, x19, x20, (0 : Int))) else none))) else none)))
def zg.l11 (qa : Nat) (b : List Int) (qb : LR) : Nat → LR → Int → Int → Int → Bool → (List Int) → Int → Bool → Int → Int → Int → Int → Int → Int → Int → Int → Int → Int → LR → Option (Int × Int × Int × Int × Int × Int × Int × Int × Int × Int × LR × Int)
 | 0, _, _, _, _, _, _, _, _, _, _, _, _, _, _, _, _, _, _, _ => none
 | k + 1, x2, x3, x4, x5, x6, x7, x8, x9, x10, x11, x12, x13, x14, x15, x16, x17, x18, x19, x20 => zg.b11 b qb (zg.l11 qa b qb k) x2 x3 x4 x5 x6 x7 x8 x9 x10 x11 x12 x13 x14 x15 x16 x17 x18 x19 x20
end
end Go.Proofs.YtneiiplppcjjlaaGreatDoor
