import Derived.Test.YtlmljpmohljefaaC3
set_option linter.unusedVariables false
set_option linter.unusedSimpArgs false
namespace Go.Proofs.Ytlmljpmohljefaa
open Go.Den
theorem be_cons : ∀ (n : Nat) (v : Int), be (n + 1) v = (v / 256 ^ n % 256) :: be n v
  | 0, v => by simp [be]
  | n + 1, v => by
    have ih := be_cons n (v / 256)
    show be (n + 1) (v / 256) ++ [v % 256] = _
    rw [ih, Int.ediv_ediv_of_nonneg (by omega)]
    show ((v / (256 * 256 ^ n)) % 256 :: be n (v / 256)) ++ [v % 256] = (v / 256 ^ (n + 1) % 256) :: (be n (v / 256) ++ [v % 256])
    rw [Int.pow_succ, Int.mul_comm (256 ^ n) 256]
    rfl
theorem be_length : ∀ (n : Nat) (v : Int), (be n v).length = n
  | 0, v => rfl
  | n + 1, v => by
    show (be n (v / 256) ++ [v % 256]).length = n + 1
    rw [List.length_append, be_length n]; rfl
theorem wrap8 (x : Int) : Go.IntKind.wrap .u8 x = x % 256 := by
  rw [Go.IntKind.wrap_u8]
theorem pow8' (n : Int) (h1 : 0 ≤ n) (h7 : n ≤ 6) : ((2 : Int) ^ (Min.min (Int.toNat (Go.IntKind.wrap .i64 ((8 : Int) * n))) (Go.IntKind.bits .i64))) = 256 ^ n.toNat := by
  have : n = 0 ∨ n = 1 ∨ n = 2 ∨ n = 3 ∨ n = 4 ∨ n = 5 ∨ n = 6 := by omega
  rcases this with rfl | rfl | rfl | rfl | rfl | rfl | rfl <;> rfl
theorem roomy_iff (l : List Int) : roomy l = true ↔ l.length < 1099511600000 := by unfold roomy; simp
theorem byteAt (v : Int) (i : Nat) : Go.IntKind.wrap .u8 (Int.fdiv v (256 ^ i)) = v / 256 ^ i % 256 := by
  rw [wrap8, Int.fdiv_eq_ediv_of_nonneg _ (Int.pow_nonneg (by omega))]
theorem NumR.loop (fuel : Nat) (n v : Int) (l0 : List Int) : ∀ (k i : Nat) (acc : List Int), i ≤ 7 → i < k → acc.length + i < 1099511620000 → NumR.l7 fuel n v l0 k ((i : Int) - 1) acc = some (false, acc ++ be i v) := by
  intro k
  induction k with
  | zero => intro i acc h1 h2; omega
  | succ k ih =>
    intro i acc h1 h2 h3
    rw [NumR.l7]
    unfold NumR.b7
    cases i with
    | zero => rw [if_neg (by simp)]; simp [be]
    | succ i =>
      rw [show ((i + 1 : Nat) : Int) - 1 = (i : Int) from by omega]
      rw [if_pos (by simp), if_neg (by rw [wrap_small _ (by omega) (by omega)]; omega), pow8' (i : Int) (by omega) (by omega), Int.toNat_natCast, byteAt, if_pos (by simp [lim]; omega), wrap_small _ (by omega) (by omega), ih i _ (by omega) (by omega) (by simp; omega), be_cons i v]
      simp
theorem NumR.pure (n v : Int) (l : List Int) (hf : fitsF n v = true) (hr : roomy l = true) : NumR.f 9 n v l = some (false, l ++ be n.toNat v) := by
  obtain ⟨h1, h2, h3, h4⟩ := (fitsF_iff n v).1 hf
  have hr' := (roomy_iff l).1 hr
  unfold NumR.f NumR.b
  rw [hf, if_pos rfl, wrap_small _ (by omega) (by omega)]
  have := NumR.loop 9 n v l 9 n.toNat l (by omega) (by omega) (by omega)
  rw [Int.toNat_of_nonneg (by omega)] at this
  exact this
theorem NumN.loop (fuel : Nat) (n v : Int) : ∀ (k i : Nat) (acc : List Int), i ≤ 7 → i < k → acc.length + i < 1099511620000 → NumN.l7 fuel n v k ((i : Int) - 1) acc = some (false, acc ++ be i v) := by
  intro k
  induction k with
  | zero => intro i acc h1 h2; omega
  | succ k ih =>
    intro i acc h1 h2 h3
    rw [NumN.l7]
    unfold NumN.b7
    cases i with
    | zero => rw [if_neg (by simp)]; simp [be]
    | succ i =>
      rw [show ((i + 1 : Nat) : Int) - 1 = (i : Int) from by omega]
      rw [if_pos (by simp), if_neg (by rw [wrap_small _ (by omega) (by omega)]; omega), pow8' (i : Int) (by omega) (by omega), Int.toNat_natCast, byteAt, if_pos (by simp [lim]; omega), wrap_small _ (by omega) (by omega), ih i _ (by omega) (by omega) (by simp; omega), be_cons i v]
      simp
theorem NumN.pure (n v : Int) (hf : fitsF n v = true) : NumN.f 9 n v = some (false, be n.toNat v) := by
  obtain ⟨h1, h2, h3, h4⟩ := (fitsF_iff n v).1 hf
  unfold NumN.f NumN.b
  rw [hf, if_pos rfl, wrap_small _ (by omega) (by omega)]
  have := NumN.loop 9 n v 9 n.toNat [] (by omega) (by omega) (by simp; omega)
  rw [Int.toNat_of_nonneg (by omega), List.nil_append] at this
  exact this
theorem OBytes.pure (l : List Int) (hr : roomy l = true) : OBytes.f 0 l = some (l, true, false, l) := by
  have hr' := (roomy_iff l).1 hr
  unfold OBytes.f OBytes.b
  rw [if_pos (by refine ⟨by omega, by omega, by omega, by omega⟩), if_pos (by simp)]
  simp
theorem Put11.loop (fuel : Nat) (n v0 : Int) (l : List Int) (hr : roomy l = true) : ∀ (k i : Nat) (v : Int) (d : List Int), i < k → i ≤ d.length → d.length ≤ 7 → 0 ≤ v → v < 9223372036854775808 →
    Put11.l3 fuel n v0 l k v ((i : Int) - 1) d = some (l ++ (be i v ++ d.drop i)) := by
  have hr' := (roomy_iff l).1 hr
  intro k
  induction k with
  | zero => intro i v d h1; omega
  | succ k ih =>
    intro i v d h1 h2 h3 h4 h5
    rw [Put11.l3]
    unfold Put11.b3
    cases i with
    | zero =>
      rw [if_neg (by simp), if_pos (by simp [lim]; omega)]
      simp [be]
    | succ i =>
      rw [show ((i + 1 : Nat) : Int) - 1 = (i : Int) from by omega]
      rw [if_pos (by simp), idx_at, List.getElem?_eq_getElem (by omega)]
      dsimp only
      have e1 : Int.tdiv v 256 = v / 256 := Int.tdiv_eq_ediv_of_nonneg h4
      have e2 : Int.tmod v 256 = v % 256 := Int.tmod_eq_emod_of_nonneg h4
      rw [e1, e2, wrap8, Int.emod_emod_of_dvd _ (Int.dvd_refl _), wrap_small (v / 256) (by omega) (by omega), wrap_small ((i : Int) - 1) (by omega) (by omega), Int.toNat_natCast]
      rw [ih i (v / 256) (d.set i (v % 256)) (by omega) (by simp; omega) (by simpa using h3) (by omega) (by omega)]
      have e3 : (d.set i (v % 256)).drop i = (v % 256) :: d.drop (i + 1) := by
        rw [List.drop_eq_getElem_cons (by simp; omega), List.drop_set_of_lt (by omega)]
        simp
      rw [e3]
      show _ = some (l ++ ((be i (v / 256) ++ [v % 256]) ++ d.drop (i + 1)))
      simp
theorem Put11.pure (n v : Int) (l : List Int) (hf : fitsF n v = true) (hr : roomy l = true) : Put11.f 9 n v l = some (l ++ be n.toNat v) := by
  obtain ⟨h1, h2, h3, h4⟩ := (fitsF_iff n v).1 hf
  have h5 : v < 9223372036854775808 := by
    have : n = 1 ∨ n = 2 ∨ n = 3 ∨ n = 4 ∨ n = 5 ∨ n = 6 ∨ n = 7 := by omega
    rcases this with rfl | rfl | rfl | rfl | rfl | rfl | rfl <;> simp at h4 <;> omega
  unfold Put11.f Put11.b
  rw [if_pos (by refine ⟨by omega, by omega, by omega, by omega⟩), wrap_small _ (by omega) (by omega)]
  have := Put11.loop 9 n v l hr 9 n.toNat v (List.replicate n.toNat (zeroI (.int .u8))) (by omega) (by simp) (by simp; omega) h3 h5
  rw [Int.toNat_of_nonneg (by omega)] at this
  rw [this]
  simp
end Go.Proofs.Ytlmljpmohljefaa
