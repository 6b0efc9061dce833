/- TrafficRows: whatever letters and generation are given, the law returns true, and the input reads as it did; the table crc.halves is tied to the text of the program. -/
import Derived.Test.YtgaakgeemnkeeaaGreatDoorZTrafficRows3
set_option linter.unusedVariables false
set_option linter.unusedSimpArgs false
set_option maxRecDepth 100000
namespace Go.Proofs.YtgaakgeemnkeeaaGreatDoor
open Go.Den
open Go.Den Go.RowKit
noncomputable section
theorem qkG (qa : Nat) (bs : List Int) (hb : inB bs = true) (a0 : Int) (bad0 wr0 : Bool) (n : Nat) (hn : n ≤ 32) : ∀ (m k : Nat) (i a : Nat) (out : LF), i + m = n → m < k → a ≤ bs.length → out.length ≤ i →
  match qck bs m a with
  | some (l, a2) => qD.l4 qa bs a0 bad0 wr0 k (n : Int) (i : Int) false bs (a : Int) false out = some (false, bs, (a2 : Int), false, out ++ l)
  | none => ∃ (a' : Nat) (bad' : Bool) (l : LF), qD.l4 qa bs a0 bad0 wr0 k (n : Int) (i : Int) false bs (a : Int) false out = some (true, bs, (a' : Int), bad', l) ∧ a' ≤ bs.length := by
 obtain ⟨hl, hc⟩ := (Qy bs).1 hb
 intro m
 induction m with
 | zero =>
  intro k i a out hi hk ha ho
  obtain ⟨k, rfl⟩ : ∃ k', k = k' + 1 := ⟨k - 1, by omega⟩
  rw [qck]
  dsimp only
  rw [qdP qa bs a0 bad0 wr0 k (n : Int) (i : Int) false (a : Int) false out (Or.inr (by omega)), List.append_nil]
 | succ m ih =>
  intro k i a out hi hk ha ho
  obtain ⟨k, rfl⟩ : ∃ k', k = k' + 2 := ⟨k - 2, by omega⟩
  have hend : ∀ (a' : Nat) (bad' : Bool) (l : LF), a' ≤ bs.length → ∃ (a'' : Nat) (bad'' : Bool) (l' : LF), qD.l4 qa bs a0 bad0 wr0 (k + 1) (n : Int) (IntKind.wrap .i64 ((i : Int) + 1)) true bs (a' : Int) bad' l = some (true, bs, (a'' : Int), bad'', l') ∧ a'' ≤ bs.length :=
   fun a' bad' l h => ⟨a', bad', l, qdP qa bs a0 bad0 wr0 k _ _ true _ _ _ (Or.inl rfl), h⟩
  have hw : IntKind.wrap .i64 ((i : Int) + 1) = ((i + 1 : Nat) : Int) := by rw [qK _ (by omega) (by omega)]; omega
  rw [show k + 2 = (k + 1) + 1 from rfl, qD.l4, qck]
  unfold qD.b4
  simp only [veil_eq]
  rw [if_pos (c := decide ((i : Int) < (n : Int)) = true) (by simp; omega), if_pos (c := (!false) = true) rfl, if_pos (c := zk bs (a : Int) = true) ((zA _ _).2 ⟨hb, by omega, by omega⟩)]
  have hlim : ∀ x : Int × List Int, (out.length + ([x] : LF).length) * 32 ≤ lim := fun x => by simp [lim]; omega
  by_cases hlt : a < bs.length
  ·rw [qbO bs a hlt]
   have hf : qeB bs a = match tk bs (a + 1) 4096 with
     | none => none
     | some (n, a2) => if a2 + n.toNat ≤ bs.length then some ((bs[a], (bs.drop a2).take n.toNat), a2 + n.toNat) else none := by
    unfold qeB
    rw [List.getElem?_eq_getElem hlt]
    all_goals rfl
   rw [hf]
   dsimp only
   generalize bs[a] = t at hf ⊢
   have hg := qcD bs (a + 1) 4096 hb (by decide) (by decide) hlt
   cases ht : tk bs (a + 1) 4096 with
   | none =>
    rw [ht] at hg
    obtain ⟨a', bad, hg, h2⟩ := hg
    rw [hg]
    dsimp only
    rw [if_pos (c := zk bs (a' : Int) = true) ((zA _ _).2 ⟨hb, by omega, by omega⟩)]
    cases bad with
    | true =>
     rw [qiY]
     dsimp only
     rw [if_pos rfl, if_pos (hlim _)]
     exact hend a' true _ h2
    | false =>
     rw [qlo bs a' h2]
     dsimp only
     rw [if_neg (c := false = true) (by simp), if_pos (hlim _)]
     exact hend a' false _ h2
   | some p =>
    obtain ⟨w, a2⟩ := p
    rw [ht] at hg
    dsimp only at hg ⊢
    obtain ⟨e1, w0, w1, _, _, l1⟩ := qab hc ht
    rw [hg]
    dsimp only
    rw [if_pos (c := zk bs (a2 : Int) = true) ((zA _ _).2 ⟨hb, by omega, by omega⟩)]
    by_cases hin : a2 + w.toNat ≤ bs.length
    ·rw [qno bs w a2 w0 hin, if_pos hin]
     dsimp only
     rw [if_neg (c := false = true) (by simp), if_pos (hlim _), hw]
     have := ih (k + 1) (i + 1) (a2 + w.toNat) (out ++ [(t, (bs.drop a2).take w.toNat)]) (by omega) (by omega) hin (by simp; omega)
     cases hr : qck bs m (a2 + w.toNat) with
     | none =>
      rw [hr] at this
      exact this
     | some q =>
      obtain ⟨l, a3⟩ := q
      rw [hr] at this
      dsimp only at this ⊢
      rw [this]
      simp
    ·rw [qmr bs w a2 w0 (by omega), if_neg hin]
     dsimp only
     rw [if_pos rfl, if_pos (hlim _)]
     exact hend a2 true _ l1
  ·have hf : qeB bs a = none := by
    unfold qeB
    rw [List.getElem?_eq_none (by omega)]
   rw [hf, qbP bs a (by omega)]
   dsimp only
   rw [qj6 bs a 4096 hb ha]
   dsimp only
   rw [if_pos (c := zk bs (a : Int) = true) ((zA _ _).2 ⟨hb, by omega, by omega⟩), qiY]
   dsimp only
   rw [if_pos rfl, if_pos (hlim _)]
   exact hend a true _ ha
theorem qgg (bs : List Int) (a : Int) (bad : Bool) : qD.f BIG bs a bad true = some (true, bs, a, bad, []) := by
 unfold qD.f qD.b
 simp only [veil_eq]
 rw [qfs]
 dsimp only
 rw [ZK]
 exact qdP _ bs a bad true _ _ _ true a bad [] (Or.inl rfl)
theorem qkH (bs : List Int) (a : Nat) (hb : inB bs = true) (ha : a ≤ bs.length) :
  match qeF bs a with
  | some (l, a2) => qD.f BIG bs (a : Int) false false = some (false, bs, (a2 : Int), false, l)
  | none => ∃ (a' : Nat) (bad' : Bool) (l : LF), qD.f BIG bs (a : Int) false false = some (true, bs, (a' : Int), bad', l) ∧ a' ≤ bs.length := by
 obtain ⟨hl, hc⟩ := (Qy bs).1 hb
 have hg := qcD bs a 32 hb (by decide) (by decide) ha
 unfold qD.f qD.b qeF
 simp only [veil_eq]
 cases ht : tk bs a 32 with
 | none =>
  rw [ht] at hg
  obtain ⟨a', bad, hg, h2⟩ := hg
  rw [hg]
  dsimp only
  refine ⟨a', bad, [], ?_, h2⟩
  rw [ZK]
  exact qdP _ bs a false false _ _ _ true a' bad [] (Or.inl rfl)
 | some p =>
  obtain ⟨w, a2⟩ := p
  rw [ht] at hg
  dsimp only at hg ⊢
  obtain ⟨e1, w0, w1, _, _, l1⟩ := qab hc ht
  rw [hg]
  dsimp only
  have := qkG BIG bs hb a false false w.toNat (by omega) w.toNat BIG 0 a2 [] (by omega) (by rw [Z4]; omega) l1 (by simp)
  rw [show ((w.toNat : Nat) : Int) = w from by omega] at this
  simpa using this
theorem qm1 : (List.range 256).all (fun n => (bits BinOp.and .i64 (n : Int) 3 == (n : Int) % 4) && (((bits BinOp.and .i64 (n : Int) 4 != 0) == ((n : Int) / 4 % 2 == 1)) && (((bits BinOp.and .i64 (n : Int) 8 != 0) == ((n : Int) / 8 % 2 == 1)) && ((bits BinOp.and .i64 (n : Int) 16 != 0) == ((n : Int) / 16 % 2 == 1))))) = true := by kernel_rfl
theorem qhk (v : Int) (h0 : 0 ≤ v) (h1 : v ≤ 255) : bits BinOp.and .i64 v 3 = v % 4 ∧ (bits BinOp.and .i64 v 4 != 0) = (v / 4 % 2 == 1) ∧ (bits BinOp.and .i64 v 8 != 0) = (v / 8 % 2 == 1) ∧ (bits BinOp.and .i64 v 16 != 0) = (v / 16 % 2 == 1) := by
 have := List.all_eq_true.1 qm1 v.toNat (by simp; omega)
 rw [show ((v.toNat : Nat) : Int) = v from by omega] at this
 simp only [Bool.and_eq_true] at this
 obtain ⟨a, b, c, d⟩ := this
 exact ⟨by simpa using a, eq_of_beq b, eq_of_beq c, eq_of_beq d⟩
theorem qli (a : Int) (h0 : 0 ≤ a) (h1 : a < 9223372036854775808) : bits BinOp.xor .i64 a 0 = a := by
 have e : bits BinOp.xor .i64 a 0 = IntKind.wrap .i64 ((BitVec.ofInt 64 a ^^^ 0#64).toNat : Int) := rfl
 rw [e, BitVec.xor_zero, BitVec.toNat_ofInt, qK]
 ·omega
 ·omega
 ·omega
theorem qlj (a : Int) (h0 : 0 ≤ a) (h1 : a < 9223372036854775808) : bits BinOp.xor .i64 a (-1) = -a - 1 := by
 have e : bits BinOp.xor .i64 a (-1) = IntKind.wrap .i64 ((BitVec.ofInt 64 a ^^^ BitVec.ofInt 64 (-1)).toNat : Int) := rfl
 rw [e, show BitVec.ofInt 64 (-1) = BitVec.allOnes 64 from by decide +kernel, BitVec.xor_allOnes, BitVec.toNat_not, BitVec.toNat_ofInt, IntKind.wrap_i64]
 omega
theorem qnb (z : Int) (h0 : 0 ≤ z) (h1 : z < 18446744073709551616) : bits BinOp.and .u64 z 1 = z % 2 := by
 obtain ⟨a, rfl⟩ := Int.eq_ofNat_of_zero_le h0
 have e : bits BinOp.and .u64 (a : Int) 1 = IntKind.wrap .u64 ((BitVec.ofInt 64 (a : Int) &&& 1#64).toNat : Int) := rfl
 rw [e, BitVec.toNat_and, BitVec.ofInt_natCast, BitVec.toNat_ofNat, Nat.mod_eq_of_lt (by omega), show (1#64 : BitVec 64).toNat = 1 from rfl, Nat.and_one_is_mod, Z5 _ (by omega) (by omega)]
 omega
theorem Zag.pure (z : Int) (h0 : 0 ≤ z) (h1 : z < 4611686018427387904) : QF.f BIG z = some (qc8 z) := by
 unfold QF.f QF.b qc8
 rw [show ((2 : Int) ^ (Min.min (Int.toNat (1 : Int)) (IntKind.bits .u64))) = 2 from rfl, Int.fdiv_eq_ediv_of_nonneg _ (by omega), qnb z h0 (by omega), qK (z / 2) (by omega) (by omega), qK (z % 2) (by omega) (by omega)]
 by_cases h : z % 2 = 0
 ·rw [if_pos h, h, show IntKind.wrap .i64 (0 - 0) = 0 from by decide, qli _ (by omega) (by omega)]
 ·rw [if_neg h, show z % 2 = 1 from by omega, show IntKind.wrap .i64 (0 - 1) = -1 from by decide, qlj _ (by omega) (by omega)]
  congr 1
  omega
theorem qkD (bs : List Int) (a0 : Int) (bad0 wr0 : Bool) (qe : Int) (qc : LR) (v : Int) (ok : Bool) (a : Int) (bad : Bool) (id st lo hi : Int) (cut : Bool) (oid oinc ost olo ohi : Int) (ocut : Bool) (obag : LF) :
  ∃ inc bag, qr.l12 BIG bs a0 bad0 wr0 qe qc BIG v ok true bs a bad id st lo hi cut oid oinc ost olo ohi ocut obag = some (id, inc, st, lo, hi, cut, bag, true, bs, a, bad) := by
 rw [qr.l12_at BIG BIG (BIG - 1) ZK]
 unfold qr.b12
 simp only [veil_eq]
 rw [qfs]
 dsimp only
 obtain ⟨y, hy⟩ : ∃ y, QF.f BIG (IntKind.wrap .u64 0) = some y := ⟨_, rfl⟩
 rw [hy]
 dsimp only
 cases cut with
 | true => exact ⟨_, _, rfl⟩
 | false =>
  rw [if_neg (c := false = true) (by simp)]
  split
  ·exact ⟨_, _, rfl⟩
  ·rw [qgg]
   exact ⟨_, _, rfl⟩
def qgl (bs : List Int) (o : Option (Int × Int × Int × Int × Int × Bool × LF × Bool × List Int × Int × Bool)) : Prop :=
 ∃ id inc st lo hi cut bag, ∃ (a' : Nat) (bad' : Bool), o = some (id, inc, st, lo, hi, cut, bag, true, bs, (a' : Int), bad') ∧ a' ≤ bs.length
theorem qdv (bs : List Int) (a0 : Int) (bad0 wr0 : Bool) (qe : Int) (qc : LR) (v : Int) (ok : Bool) (a : Nat) (bad : Bool) (id st lo hi : Int) (cut : Bool) (oid oinc ost olo ohi : Int) (ocut : Bool) (obag : LF) (ha : a ≤ bs.length) :
  qgl bs (qr.l12 BIG bs a0 bad0 wr0 qe qc BIG v ok true bs (a : Int) bad id st lo hi cut oid oinc ost olo ohi ocut obag) := by
 obtain ⟨inc, bag, h⟩ := qkD bs a0 bad0 wr0 qe qc v ok a bad id st lo hi cut oid oinc ost olo ohi ocut obag
 exact ⟨id, inc, st, lo, hi, cut, bag, a, bad, h, ha⟩
theorem qem {b : LF} (h1 : b.length ≤ 32) (h2 : ∀ x ∈ b, x.2.length ≤ 4096) : zn b = true := (qas _).2 ⟨by omega, fun x hx => by have := h2 x hx; omega⟩
theorem qja {qc : LR} (Qo : ∀ x ∈ qc, zu x = true) (id : Int) : zn (zt qc id).1.2.2.2.2.2 = true := by
 rcases qhh (qc := qc) (id := id) with ⟨_, h⟩ | ⟨_, h, _⟩
 ·rw [h]; all_goals rfl
 ·have := zy (Qo _ h)
  have hb2 := Zv this.2.2.2.2.2.2.2.1
  exact qem hb2.1 (fun x hx => (qbn this.2.2.2.2.2.2.2.1 x hx).2.2)
theorem qlW (bs : List Int) (hb : inB bs = true) (a0 : Int) (bad0 wr0 : Bool) (qe : Int) (qc : LR) (Qo : ∀ x ∈ qc, zu x = true) (id0 : Int) (v : Int) (v0 : 0 ≤ v) (hv : qaM (zt qc id0) v = false) (a : Nat) (ha : a ≤ bs.length) (id st lo hi oid ost olo ohi : Int) (ocut : Bool) :
  match (match tk bs a 562949953421310 with
   | none => none
   | some (z, a3) => match qcY bs (zt qc id0) v a3 with
    | none => none
    | some (b, a4) => some ((zt qc id0).1.2.1 + qc8 z, b, a4)) with
  | some (inc, b, a4) => qr.l12 BIG bs a0 bad0 wr0 qe qc BIG v (zt qc id0).2 false bs (a : Int) false id st lo hi (v / 4 % 2 == 1) oid (zt qc id0).1.2.1 ost olo ohi ocut (zt qc id0).1.2.2.2.2.2 = some (id, inc, st, lo, hi, (v / 4 % 2 == 1), b, false, bs, (a4 : Int), false)
  | none => qgl bs (qr.l12 BIG bs a0 bad0 wr0 qe qc BIG v (zt qc id0).2 false bs (a : Int) false id st lo hi (v / 4 % 2 == 1) oid (zt qc id0).1.2.1 ost olo ohi ocut (zt qc id0).1.2.2.2.2.2) := by
 obtain ⟨hl, hc⟩ := (Qy bs).1 hb
 obtain ⟨f1, f2, f3⟩ := qie hv
 obtain ⟨o0, o1⟩ := qiG Qo id0
 have hos := qja Qo id0
 obtain ⟨_, _, _, b16⟩ := qhk v v0 (by omega)
 have hg := qcD bs a 562949953421310 hb (by decide) (by decide) ha
 rw [qr.l12_at BIG BIG (BIG - 1) ZK]
 unfold qr.b12
 simp only [veil_eq]
 generalize zt qc id0 = o at *
 cases ht : tk bs a 562949953421310 with
 | none =>
  rw [ht] at hg
  obtain ⟨a', bad, hg, h2⟩ := hg
  rw [hg]
  dsimp only
  obtain ⟨y, hy⟩ : ∃ y, QF.f BIG (IntKind.wrap .u64 0) = some y := ⟨_, rfl⟩
  rw [hy]
  dsimp only
  cases (v / 4 % 2 == 1) with
  | true => exact ⟨_, _, _, _, _, _, _, a', bad, rfl, h2⟩
  | false =>
   rw [if_neg (c := false = true) (by simp)]
   split
   ·exact ⟨_, _, _, _, _, _, _, a', bad, rfl, h2⟩
   ·rw [qgg]
    exact ⟨_, _, _, _, _, _, _, a', bad, rfl, h2⟩
 | some p =>
  obtain ⟨z, a3⟩ := p
  rw [ht] at hg
  dsimp only at hg ⊢
  obtain ⟨e1, z0, z1, _, _, l3⟩ := qab hc ht
  have hz : -300000000000000 ≤ qc8 z ∧ qc8 z ≤ 300000000000000 := by unfold qc8; split <;> omega
  rw [hg]
  dsimp only
  rw [Z5 z z0 (by omega), Zag.pure z z0 (by omega)]
  dsimp only
  rw [qK _ (by omega) (by omega), b16]
  unfold qcY
  by_cases h4 : v / 4 % 2 = 1
  ·rw [if_pos h4]
   have e4 : (v / 4 % 2 == 1) = true := by simpa using h4
   rw [e4]
   all_goals rfl
  ·rw [if_neg h4]
   have e4 : (v / 4 % 2 == 1) = false := by simpa using h4
   rw [e4, if_neg (c := false = true) (by simp)]
   by_cases h16 : 16 ≤ v
   ·rw [if_pos h16, if_pos (c := (v / 16 % 2 == 1) = true) (by simp; omega)]
   ·rw [if_neg h16, if_neg (c := (v / 16 % 2 == 1) = true) (by simp; omega)]
    have hf := qkH bs a3 hb l3
    cases hbg : qeF bs a3 with
    | none =>
     rw [hbg] at hf
     obtain ⟨a', bad', l, hf, h2⟩ := hf
     rw [hf]
     exact ⟨_, _, _, _, _, _, _, a', bad', rfl, h2⟩
    | some q =>
     obtain ⟨b, a4⟩ := q
     rw [hbg] at hf
     dsimp only at hf ⊢
     rw [hf]
     dsimp only
     obtain ⟨_, l4, n4, s4⟩ := qfy hc hbg
     rw [if_neg (c := false = true) (by simp)]
     cases ho : o.2 with
     | false =>
      rw [if_neg (c := false = true) (by simp)]
      simp
     | true =>
      cases hcm : Zf b o.1.2.2.2.2.2 == 0 with
      | true =>
       simp only [qem n4 s4, hos, Bool.and_self, if_true]
       exact ⟨_, _, _, _, _, _, _, a4, false, rfl, l4⟩
      | false =>
       simp only [qem n4 s4, hos, Bool.and_self, Bool.and_false, if_true, Bool.false_eq_true, if_false]
theorem qjW (bs : List Int) (a0 : Int) (bad0 wr0 : Bool) (qe : Int) (qc : LR) (v : Int) (ok : Bool) (a : Nat) (bad : Bool) (id st : Int) (cut : Bool) (oid oinc ost olo ohi : Int) (ocut : Bool) (obag : LF) (hb : inB bs = true) (ha : a ≤ bs.length) (wr : Bool) (hw : wr = true ∨ (bad = true ∧ v = 0)) :
  qgl bs (qr.l8 BIG bs a0 bad0 wr0 qe qc BIG v ok wr bs (a : Int) bad id st cut oid oinc ost olo ohi ocut obag) := by
 rw [qr.l8_at BIG BIG (BIG - 1) ZK]
 unfold qr.b8
 simp only [veil_eq]
 by_cases h8 : (bits BinOp.and .i64 v 8 != 0) = true
 ·rw [if_pos h8]
  rcases hw with rfl | ⟨_, rfl⟩
  ·exact qdv bs a0 bad0 wr0 qe qc v ok a bad id st _ _ cut oid oinc ost olo ohi ocut obag ha
  ·exact absurd h8 (by decide)
 ·rw [if_neg h8]
  have hr : Rel bs none wr (a : Int) bad := ⟨⟨a, rfl, ha⟩, by
   rcases hw with h | h
   ·exact Or.inl h
   ·exact Or.inr h.1⟩
  obtain ⟨lo, hi, wr', a', bad', e1, r1, _⟩ := qg4 hb hr
  rw [e1]
  dsimp only
  obtain ⟨⟨n, rfl, hn⟩, hor⟩ := r1
  have hwr : wr' = true := by
   -- a span that is not read is qP
   have := e1
   unfold zd.f zd.b at this
   simp only [veil_eq] at this
   rw [if_pos ((zA _ _).2 ⟨hb, by omega, by omega⟩)] at this
   rcases hw with rfl | ⟨rfl, _⟩
   ·have := (Option.some.inj this)
    simp only [Prod.mk.injEq] at this
    rw [← this.2.2.1]
   ·rw [qf6] at this
    cases wr with
    | true =>
     have := (Option.some.inj this)
     simp only [Prod.mk.injEq] at this
     rw [← this.2.2.1]
    | false =>
     rw [if_neg (by simp)] at this
     have := (Option.some.inj this)
     simp only [Prod.mk.injEq] at this
     rw [← this.2.2.1, qfl 0 (by omega) (by omega)]
     all_goals rfl
  subst hwr
  rw [if_pos rfl]
  exact qdv bs a0 bad0 wr0 qe qc v ok n bad' id st _ _ cut oid oinc ost olo ohi ocut obag hn
theorem qmu (bs : List Int) (a : Nat) (hb : inB bs = true) (ha : a ≤ bs.length) :
  match bs[a]? with
  | none => ∃ lo hi bad, zd.f BIG bs (a : Int) false false = some (lo, hi, true, bs, (a : Int), bad)
  | some c => if okS (c / 16) (c % 16) = true then zd.f BIG bs (a : Int) false false = some (c / 16, c % 16, false, bs, ((a + 1 : Nat) : Int), false)
   else ∃ lo hi, zd.f BIG bs (a : Int) false false = some (lo, hi, true, bs, ((a + 1 : Nat) : Int), false) := by
 obtain ⟨hl, hc⟩ := (Qy bs).1 hb
 unfold zd.f zd.b
 simp only [veil_eq]
 rw [if_pos ((zA _ _).2 ⟨hb, by omega, by omega⟩)]
 by_cases hlt : a < bs.length
 ·rw [qbO bs a hlt, List.getElem?_eq_getElem hlt]
  dsimp only
  obtain ⟨c0, c1⟩ := hc _ (List.getElem_mem hlt)
  have ht := qfl _ c0 c1
  have hd := qfm _ c0 c1
  generalize bs[a] = c at c0 c1 ht hd ⊢
  rw [if_neg (c := false = true) (by simp), ht]
  cases ho : okS (c / 16) (c % 16) with
  | true => rw [if_pos rfl, hd.1 ho]; all_goals rfl
  | false => rw [if_neg (c := false = true) (by simp)]; exact ⟨_, _, rfl⟩
 ·rw [qbP bs a (by omega), List.getElem?_eq_none (by omega)]
  dsimp only
  rw [if_neg (c := false = true) (by simp), qfl 0 (by omega) (by omega)]
  exact ⟨_, _, _, rfl⟩
theorem qmU (bs : List Int) (hb : inB bs = true) (a0 : Int) (bad0 wr0 : Bool) (qe : Int) (qc : LR) (o : REC × Bool) (v : Int) (v0 : 0 ≤ v) (v1 : v ≤ 255) (a : Nat) (ha : a ≤ bs.length) (id st : Int) (cut : Bool) :
  match qdn bs o v a with
  | some (sp, a2) => qr.l8 BIG bs a0 bad0 wr0 qe qc BIG v o.2 false bs (a : Int) false id st cut o.1.1 o.1.2.1 o.1.2.2.1 o.1.2.2.2.1.1 o.1.2.2.2.1.2 o.1.2.2.2.2.1 o.1.2.2.2.2.2 =
    qr.l12 BIG bs a0 bad0 wr0 qe qc BIG v o.2 false bs (a2 : Int) false id st sp.1 sp.2 cut o.1.1 o.1.2.1 o.1.2.2.1 o.1.2.2.2.1.1 o.1.2.2.2.1.2 o.1.2.2.2.2.1 o.1.2.2.2.2.2 ∧ a2 ≤ bs.length
  | none => qgl bs (qr.l8 BIG bs a0 bad0 wr0 qe qc BIG v o.2 false bs (a : Int) false id st cut o.1.1 o.1.2.1 o.1.2.2.1 o.1.2.2.2.1.1 o.1.2.2.2.1.2 o.1.2.2.2.2.1 o.1.2.2.2.2.2) := by
 obtain ⟨_, _, b8, _⟩ := qhk v v0 v1
 have hs := qmu bs a hb ha
 rw [qr.l8_at BIG BIG (BIG - 1) ZK]
 unfold qr.b8 qdn
 simp only [veil_eq]
 rw [b8]
 by_cases h8 : v / 8 % 2 = 1
 ·rw [if_pos h8, if_pos (c := (v / 8 % 2 == 1) = true) (by simpa using h8)]
  exact ⟨rfl, ha⟩
 ·rw [if_neg h8, if_neg (c := (v / 8 % 2 == 1) = true) (by simpa using h8)]
  cases hc : bs[a]? with
  | none =>
   rw [hc] at hs
   obtain ⟨lo, hi, bad, hs⟩ := hs
   rw [hs]
   dsimp only
   rw [if_pos rfl]
   exact qdv bs a0 bad0 wr0 qe qc v _ a bad id st _ _ cut _ _ _ _ _ _ _ ha
  | some c =>
   rw [hc] at hs
   dsimp only at hs ⊢
   have hlt := (qdk hc).2
   cases ho : okS (c / 16) (c % 16) with
   | false =>
    rw [ho, if_neg (by simp)] at hs
    obtain ⟨lo, hi, hs⟩ := hs
    rw [hs]
    dsimp only
    rw [if_pos (c := true = true) rfl, if_neg (by simp)]
    exact qdv bs a0 bad0 wr0 qe qc v _ (a + 1) false id st _ _ cut _ _ _ _ _ _ _ hlt
   | true =>
    rw [ho, if_pos rfl] at hs
    rw [hs]
    dsimp only
    rw [if_neg (c := false = true) (by simp)]
    cases h2 : o.2 with
    | false =>
     simp only [Bool.false_and, and_self, if_true, Bool.false_eq_true, if_false]
     first | exact hlt | exact ⟨rfl, hlt⟩ | exact ⟨trivial, hlt⟩
    | true =>
     rw [if_pos (c := true = true) rfl]
     cases h3 : (c / 16 == o.1.2.2.2.1.1) <;> cases h4 : (c % 16 == o.1.2.2.2.1.2) <;> simp only [Bool.true_and, Bool.and_self, Bool.and_true, Bool.and_false, Bool.false_eq_true, and_self, and_false, true_and, Bool.true_eq_false, if_true, if_false]
     ·first | exact hlt | exact ⟨rfl, hlt⟩ | exact ⟨trivial, hlt⟩
     ·first | exact hlt | exact ⟨rfl, hlt⟩ | exact ⟨trivial, hlt⟩
     ·first | exact hlt | exact ⟨rfl, hlt⟩ | exact ⟨trivial, hlt⟩
     ·exact qdv bs a0 bad0 wr0 qe qc v _ (a + 1) false id st _ _ cut _ _ _ _ _ _ _ hlt
theorem qj8 {α : Type} (o : REC × Bool) (v : Int) (B E : α) : (if decide (v ≥ 32) = true then B else if (!o.2) = true then (if decide (v ≥ 8) = true then B else if (v / 4 % 2 == 1) = true then (if decide (v ≥ 16) = true then B else E) else E) else (if (v / 4 % 2 == 1) = true then (if decide (v ≥ 16) = true then B else E) else E)) = if qaM o v = true then B else E := by
 unfold qaM
 have e1 : (v / 4 % 2 == 1) = decide (v / 4 % 2 = 1) := rfl
 rw [e1]
 have g32 : decide (v ≥ 32) = decide (32 ≤ v) := rfl
 have g8 : decide (v ≥ 8) = decide (8 ≤ v) := rfl
 have g16 : decide (v ≥ 16) = decide (16 ≤ v) := rfl
 rw [g32, g8, g16]
 generalize decide (32 ≤ v) = p
 generalize decide (8 ≤ v) = q
 generalize decide (16 ≤ v) = s
 generalize decide (v / 4 % 2 = 1) = t
 generalize o.2 = u
 cases p <;> cases q <;> cases s <;> cases t <;> cases u <;> rfl
theorem qny (bs : List Int) (hb : inB bs = true) (qe : Int) (h1 : -1 ≤ qe) (h2 : qe ≤ 100000000) (qc : LR) (Qo : ∀ x ∈ qc, zu x = true) (hbn : qc.length < 1000000000) (a : Nat) (ha : a ≤ bs.length) :
  match qea bs qc qe a with
  | some (r, a2) => qr.f BIG bs (a : Int) false false qe qc = some (r.1, r.2.1, r.2.2.1, r.2.2.2.1.1, r.2.2.2.1.2, r.2.2.2.2.1, r.2.2.2.2.2, false, bs, (a2 : Int), false)
  | none => qgl bs (qr.f BIG bs (a : Int) false false qe qc) := by
 obtain ⟨hl, hc⟩ := (Qy bs).1 hb
 have hg := qcD bs a 4095 hb (by decide) (by decide) ha
 have hfine := qkX Qo hbn
 unfold qr.f qr.b qea
 simp only [veil_eq]
 cases ht : tk bs a 4095 with
 | none =>
  rw [ht] at hg
  obtain ⟨a', bad, hg, l1⟩ := hg
  rw [hg]
  dsimp only
  have hat : zk bs (a' : Int) = true := (zA _ _).2 ⟨hb, by omega, by omega⟩
  have hr := (zA _ _).1 (Qk bs 1 (a' : Int) bad hat)
  obtain ⟨m, hm1, hm2⟩ : ∃ m : Nat, (ql bs 1 (a' : Int) bad).2.1 = (m : Int) ∧ m ≤ bs.length := ⟨(ql bs 1 (a' : Int) bad).2.1.toNat, by omega, by omega⟩
  rw [if_pos (c := zk bs (a' : Int) = true) hat, qnV.pure qc _ hfine, hm1]
  dsimp only
  repeat' split
  all_goals first
   | exact ⟨_, _, _, _, _, _, _, m, _, rfl, hm2⟩
   | exact qjW bs a false false qe qc _ _ m _ _ _ _ _ _ _ _ _ _ _ hb hm2 true (Or.inl rfl)
 | some p =>
  obtain ⟨d, a1⟩ := p
  rw [ht] at hg
  dsimp only at hg ⊢
  obtain ⟨_, d0, d1, _, _, l1⟩ := qab hc ht
  rw [hg]
  dsimp only
  have hid : IntKind.wrap .i64 (IntKind.wrap .i64 (qe + 1) + d) = qe + 1 + d := by rw [qK (qe + 1) (by omega) (by omega), qK _ (by omega) (by omega)]
  rw [if_pos (c := zk bs (a1 : Int) = true) ((zA _ _).2 ⟨hb, by omega, by omega⟩), hid, qnV.pure qc _ hfine]
  dsimp only
  by_cases hlt : a1 < bs.length
  ·rw [qbO bs a1 hlt, List.getElem?_eq_getElem hlt]
   dsimp only
   obtain ⟨c0, c1⟩ := hc _ (List.getElem_mem hlt)
   generalize bs[a1] = v at c0 c1 ⊢
   obtain ⟨b3, b4, _, _⟩ := qhk v c0 c1
   rw [b3, b4, qj8]
   cases hf : qaM (zt qc (qe + 1 + d)) v with
   | true =>
    rw [if_pos rfl, if_pos rfl]
    exact ⟨_, _, _, _, _, _, _, a1 + 1, _, rfl, hlt⟩
   | false =>
    rw [if_neg (c := false = true) (by simp), if_neg (c := false = true) (by simp)]
    have h8 := qmU bs hb a false false qe qc (zt qc (qe + 1 + d)) v c0 c1 (a1 + 1) hlt (qe + 1 + d) (v % 4) (v / 4 % 2 == 1)
    cases hs : qdn bs (zt qc (qe + 1 + d)) v (a1 + 1) with
    | none =>
     rw [hs] at h8
     exact h8
    | some q =>
     obtain ⟨sp, a2⟩ := q
     rw [hs] at h8
     dsimp only at h8 ⊢
     rw [h8.1]
     have h12 := qlW bs hb a false false qe qc Qo (qe + 1 + d) v c0 hf a2 h8.2 (qe + 1 + d) (v % 4) sp.1 sp.2 (zt qc (qe + 1 + d)).1.1 (zt qc (qe + 1 + d)).1.2.2.1 (zt qc (qe + 1 + d)).1.2.2.2.1.1 (zt qc (qe + 1 + d)).1.2.2.2.1.2 (zt qc (qe + 1 + d)).1.2.2.2.2.1
     revert h12
     cases tk bs a2 562949953421310 with
     | none => intro h12; exact h12
     | some w =>
      obtain ⟨z, a3⟩ := w
      dsimp only
      cases qcY bs (zt qc (qe + 1 + d)) v a3 with
      | none => intro h12; exact h12
      | some u =>
       obtain ⟨b, a4⟩ := u
       intro h12
       exact h12
  ·rw [qbP bs a1 (by omega), List.getElem?_eq_none (by omega)]
   dsimp only
   rw [show (bits BinOp.and .i64 0 4 != 0) = ((0 : Int) / 4 % 2 == 1) from by decide, qj8]
   split
   ·exact ⟨_, _, _, _, _, _, _, a1, _, rfl, l1⟩
   ·exact qjW bs a false false qe qc 0 _ a1 true _ _ _ _ _ _ _ _ _ _ hb l1 false (Or.inr ⟨rfl, rfl⟩)
theorem qlQ {bs : List Int} (hb : ∀ c ∈ bs, 0 ≤ c ∧ c ≤ 255) {qc : LR} (Qo : ∀ x ∈ qc, zu x = true) {qe : Int} {a : Nat} {r : REC} {a2 : Nat} (h : qea bs qc qe a = some (r, a2)) : zn r.2.2.2.2.2 = true := by
 unfold qea at h
 cases ht : tk bs a 4095 with
 | none => rw [ht] at h; cases h
 | some p =>
  obtain ⟨d, a1⟩ := p
  rw [ht] at h
  dsimp only at h
  cases hc : bs[a1]? with
  | none => rw [hc] at h; cases h
  | some v =>
   rw [hc] at h
   dsimp only at h
   cases hf : qaM (zt qc (qe + 1 + d)) v with
   | true => rw [hf] at h; cases h
   | false =>
    rw [hf, if_neg (by simp)] at h
    cases hs : qdn bs (zt qc (qe + 1 + d)) v (a1 + 1) with
    | none => rw [hs] at h; cases h
    | some q =>
     rw [hs] at h
     dsimp only at h
     cases hz : tk bs q.2 562949953421310 with
     | none => rw [hz] at h; cases h
     | some w =>
      rw [hz] at h
      dsimp only at h
      cases hg : qcY bs (zt qc (qe + 1 + d)) v w.2 with
      | none => rw [hg] at h; cases h
      | some u =>
       rw [hg] at h
       cases h
       unfold qcY at hg
       dsimp only
       split at hg
       ·cases hg; rfl
       ·split at hg
        ·cases hg; exact qja Qo _
        ·cases hk : qeF bs w.2 with
         | none => rw [hk] at hg; cases hg
         | some y =>
          rw [hk] at hg
          dsimp only at hg
          split at hg
          ·cases hg
          ·cases hg
           obtain ⟨_, _, n4, s4⟩ := qfy hb (l := y.1) (a2 := y.2) hk
           exact qem n4 s4
abbrev HDR := Int × Int × Int × Int × Int × Int × Int × Int × Int × Int × Bool × List Int × Int × Bool
def qma (k f i lo hi s t l e b : Int) (wr : Bool) (bs : List Int) (a : Int) (bad : Bool) : Option HDR :=
 if bad then some (k, f, i, lo, hi, s, t, l, e, b, true, bs, a, bad)
 else if (!(qR k f i lo hi s t l e b [])) then some (k, f, i, lo, hi, s, t, l, e, b, true, bs, a, bad)
 else some (k, f, i, lo, hi, s, t, l, e, b, wr, bs, a, bad)
def qj5 (bs : List Int) (at0 : Int) (bad qP : Bool) : Option HDR :=
 if zk bs at0 then
  qbk true 4095 qP bs (ql bs 1 at0 bad).2.1 (ql bs 1 at0 bad).2.2 fun f w b1 a1 d1 =>
  qbk true 281474976710655 w b1 a1 d1 fun i w b2 a2 d2 =>
  match zd.f BIG b2 a2 d2 w with
  | none => none
  | some y =>
   qbk (qt (ql bs 1 at0 bad).1 0) 65535 y.2.2.1 y.2.2.2.1 y.2.2.2.2.1 y.2.2.2.2.2 fun s w b3 a3 d3 =>
   qbk (qt (ql bs 1 at0 bad).1 1) 4095 w b3 a3 d3 fun t w b4 a4 d4 =>
   qbk (qt (ql bs 1 at0 bad).1 2) 281474976710655 w b4 a4 d4 fun l w b5 a5 d5 =>
   qbk (qt (ql bs 1 at0 bad).1 2) 65535 w b5 a5 d5 fun e w b6 a6 d6 =>
   qbk (qt (ql bs 1 at0 bad).1 3) 65535 w b6 a6 d6 fun b w b7 a7 d7 =>
   qma (ql bs 1 at0 bad).1 f i y.1 y.2.1 s t l e b w b7 a7 d7
 else none
theorem qnI (bs : List Int) (at0 : Int) (bad qP : Bool) : zB.f BIG bs at0 bad qP = qj5 bs at0 bad qP := by
 unfold zB.f zB.b qj5 qbk qma
 simp only [veil_eq]
 generalize qt (ql bs 1 at0 bad).1 0 = h0
 generalize qt (ql bs 1 at0 bad).1 1 = h1
 generalize qt (ql bs 1 at0 bad).1 2 = h2
 generalize qt (ql bs 1 at0 bad).1 3 = h3
 cases h0 <;> cases h1 <;> cases h2 <;> cases h3 <;> rfl
theorem qoH.pure (bs : List Int) (hb : inB bs = true) :
  match hdS bs with
  | some (k, f, i, lo, hi, s, t, l, e, b, a) => zB.f BIG bs 0 false false = some (k, f, i, lo, hi, s, t, l, e, b, false, bs, (a : Int), false) ∧ a ≤ bs.length ∧ qR k f i lo hi s t l e b [] = true
  | none => ∃ k f i lo hi s t l e b a bad, zB.f BIG bs 0 false false = some (k, f, i, lo, hi, s, t, l, e, b, true, bs, a, bad) := by
 rw [qnI]
 unfold qj5
 rw [if_pos ((zA _ _).2 ⟨hb, by omega, by omega⟩)]
 have h0 : (ql bs 1 0 false).1 = hdK bs ∧ Rel bs (ZD bs) false (ql bs 1 0 false).2.1 (ql bs 1 0 false).2.2 := by
  unfold hdK ZD
  by_cases h : 0 < bs.length
  ·rw [if_pos h, show (0 : Int) = ((0 : Nat) : Int) from rfl, qbO bs 0 h]
   refine ⟨?_, ⟨1, rfl, h⟩, rfl, rfl, rfl⟩
   simp [List.getD, List.getElem?_eq_getElem h]
  ·rw [if_neg h, show (0 : Int) = ((0 : Nat) : Int) from rfl, qbP bs 0 (by omega)]
   refine ⟨?_, ⟨0, rfl, by omega⟩, Or.inr rfl⟩
   simp [List.getD, List.getElem?_eq_none (show bs.length ≤ 0 by omega)]
 obtain ⟨e0, r0⟩ := h0
 rw [e0]
 obtain ⟨w1, a1, d1, e1, r1⟩ := ZJ hb r0 true 4095 (by decide) (by decide) _
 rw [e1]
 obtain ⟨w2, a2, d2, e2, r2⟩ := ZJ hb r1 true 281474976710655 (by decide) (by decide) _
 rw [e2]
 obtain ⟨lo, hi, w3, a3, d3, e3, r3, q3⟩ := qg4 hb r2
 rw [e3]
 dsimp only
 obtain ⟨w4, a4, d4, e4, r4⟩ := ZJ hb r3 (qt (hdK bs) 0) 65535 (by decide) (by decide) _
 rw [e4]
 obtain ⟨w5, a5, d5, e5, r5⟩ := ZJ hb r4 (qt (hdK bs) 1) 4095 (by decide) (by decide) _
 rw [e5]
 obtain ⟨w6, a6, d6, e6, r6⟩ := ZJ hb r5 (qt (hdK bs) 2) 281474976710655 (by decide) (by decide) _
 rw [e6]
 obtain ⟨w7, a7, d7, e7, r7⟩ := ZJ hb r6 (qt (hdK bs) 2) 65535 (by decide) (by decide) _
 rw [e7]
 obtain ⟨w8, a8, d8, e8, r8⟩ := ZJ hb r7 (qt (hdK bs) 3) 65535 (by decide) (by decide) _
 rw [e8]
 have hs : (zj bs (qt (hdK bs) 3) (zj bs (qt (hdK bs) 2) (zj bs (qt (hdK bs) 2) (zj bs (qt (hdK bs) 1) (zj bs (qt (hdK bs) 0) (spS bs (zj bs true (zj bs true (ZD bs) 4095).2 281474976710655).2).2.2 65535).2 4095).2 281474976710655).2 65535).2 65535).2 ≠ none → lo = (spS bs (zj bs true (zj bs true (ZD bs) 4095).2 281474976710655).2).1 ∧ hi = (spS bs (zj bs true (zj bs true (ZD bs) 4095).2 281474976710655).2).2.1 :=
  fun h => q3 (qan (qan (qan (qan (qan h)))))
 unfold hdS qma
 dsimp only
 generalize zj bs (qt (hdK bs) 3) _ 65535 = B at r8 hs ⊢
 obtain ⟨b, st⟩ := B
 dsimp only at r8 hs ⊢
 obtain ⟨⟨n, rfl, hn⟩, r8⟩ := r8
 cases st with
 | none =>
  dsimp only at r8 ⊢
  cases d8 with
  | true => exact ⟨_, _, _, _, _, _, _, _, _, _, _, _, rfl⟩
  | false =>
   obtain rfl : w8 = true := by rcases r8 with h | h; exact h; cases h
   rw [if_neg (by simp)]
   split <;> exact ⟨_, _, _, _, _, _, _, _, _, _, _, _, rfl⟩
 | some m =>
  obtain ⟨rfl, rfl, e⟩ := r8
  obtain ⟨rfl, rfl⟩ := hs (by simp)
  obtain rfl : n = m := by omega
  dsimp only
  rw [if_neg (c := false = true) (by simp)]
  by_cases hv : qR (hdK bs) (zj bs true (ZD bs) 4095).1 (zj bs true (zj bs true (ZD bs) 4095).2 281474976710655).1 (spS bs (zj bs true (zj bs true (ZD bs) 4095).2 281474976710655).2).1 (spS bs (zj bs true (zj bs true (ZD bs) 4095).2 281474976710655).2).2.1 (zj bs (qt (hdK bs) 0) (spS bs (zj bs true (zj bs true (ZD bs) 4095).2 281474976710655).2).2.2 65535).1 (zj bs (qt (hdK bs) 1) (zj bs (qt (hdK bs) 0) (spS bs (zj bs true (zj bs true (ZD bs) 4095).2 281474976710655).2).2.2 65535).2 4095).1 (zj bs (qt (hdK bs) 2) (zj bs (qt (hdK bs) 1) (zj bs (qt (hdK bs) 0) (spS bs (zj bs true (zj bs true (ZD bs) 4095).2 281474976710655).2).2.2 65535).2 4095).2 281474976710655).1 (zj bs (qt (hdK bs) 2) (zj bs (qt (hdK bs) 2) (zj bs (qt (hdK bs) 1) (zj bs (qt (hdK bs) 0) (spS bs (zj bs true (zj bs true (ZD bs) 4095).2 281474976710655).2).2.2 65535).2 4095).2 281474976710655).2 65535).1 b [] = true
  ·rw [if_pos hv, if_neg (by rw [Bool.not_eq_true, Bool.not_eq_false']; exact hv)]
   exact ⟨rfl, hn, hv⟩
  ·rw [if_neg hv, if_pos (by simpa using hv)]
   exact ⟨_, _, _, _, _, _, _, _, _, _, _, _, rfl⟩
def qhm (b : List Int) (k f i lo hi s t l e bb : Int) (qg : LR) (a : Nat) : M12 :=
 if a = b.length ∧ b.length ≤ 65499 ∧ qR k f i lo hi s t l e bb qg = true then (k, f, i, lo, hi, s, t, l, e, bb, qg, 0) else z12 4
theorem qk0 (qa : Nat) (b : List Int) (qc : LR) (hb : inB b = true) (k : Nat) (bs2 : LR) (n qe i : Int) (a : Nat) (ha : a ≤ b.length) (hi : ¬ i < n) (kk f ii lo hi' s t l e bb : Int) (qg : LR) (hr : za qg = true) :
  q0.l11 qa b qc (k + 1) bs2 n qe i false b (a : Int) false kk f ii lo hi' s t l e bb qg = some (qhm b kk f ii lo hi' s t l e bb qg a) := by
 rw [q0.l11]
 unfold q0.b11 qhm
 rw [if_neg (c := decide (i < n) = true) (by simpa using hi), if_neg (c := false = true) (by simp), if_pos (c := zk b (a : Int) = true) ((zA _ _).2 ⟨hb, by omega, by omega⟩)]
 unfold Zm
 rw [if_neg (c := false = true) (by simp), hr, if_pos (c := true = true) rfl]
 by_cases h1 : a = b.length
 ·rw [if_neg (c := (!(!false && ((b.length : Int) - (a : Int) == 0))) = true) (by simp; omega)]
  by_cases h2 : b.length ≤ 65499
  ·rw [if_neg (c := decide ((b.length : Int) > 65499) = true) (by simp; omega)]
   cases hv : qR kk f ii lo hi' s t l e bb qg with
   | true => rw [if_neg (c := (!true) = true) (by simp), if_pos ⟨h1, h2, rfl⟩]
   | false => rw [if_pos (c := (!false) = true) rfl, if_neg (by simp)]; all_goals rfl
  ·rw [if_pos (c := decide ((b.length : Int) > 65499) = true) (by simp; omega), if_neg (by omega)]; all_goals rfl
 ·rw [if_pos (c := (!(!false && ((b.length : Int) - (a : Int) == 0))) = true) (by simp; omega), if_neg (fun h => h1 h.1)]; all_goals rfl
theorem qgi (qa : Nat) (b : List Int) (qc : LR) (k : Nat) (bs2 : LR) (n qe i : Int) (bs : List Int) (a : Int) (bad : Bool) (kk f ii lo hi' s t l e bb : Int) (qg : LR) :
  q0.l11 qa b qc (k + 1) bs2 n qe i true bs a bad kk f ii lo hi' s t l e bb qg = some (z12 4) := by
 rw [q0.l11]
 unfold q0.b11
 by_cases h : i < n
 ·rw [if_pos (c := decide (i < n) = true) (by simpa using h)]; all_goals rfl
 ·rw [if_neg (c := decide (i < n) = true) (by simpa using h)]; all_goals rfl
theorem qnQ (qa : Nat) (b : List Int) (qc : LR) (hb : inB b = true) (bs2 : LR) (Qo : ∀ x ∈ bs2, zu x = true) (hbn : bs2.length < 1000000000) (n : Nat) (hn : n ≤ 255) (kk f ii lo hi s t l e bb : Int) : ∀ (m k i : Nat) (qe : Int) (a : Nat) (out : LR), i + m = n → m < k → -1 ≤ qe → qe ≤ 4096 * (i : Int) → a ≤ b.length → out.length ≤ i → (∀ r ∈ out, zn r.2.2.2.2.2 = true) →
  q0.l11 qa b qc k bs2 (n : Int) qe (i : Int) false b (a : Int) false kk f ii lo hi s t l e bb out = some (match qb3 b bs2 m qe a with
   | none => z12 4
   | some (rs, a2) => qhm b kk f ii lo hi s t l e bb (out ++ rs) a2) := by
 obtain ⟨hl, hc⟩ := (Qy b).1 hb
 intro m
 induction m with
 | zero =>
  intro k i qe a out hi' hk h1 h2 ha ho hs
  obtain ⟨k, rfl⟩ : ∃ k', k = k' + 1 := ⟨k - 1, by omega⟩
  rw [qk0 qa b qc hb k bs2 _ _ _ a ha (by omega) _ _ _ _ _ _ _ _ _ _ out ((Zk _).2 ⟨by omega, hs⟩), qb3]
  dsimp only
  rw [List.append_nil]
 | succ m ih =>
  intro k i qe a out hi' hk h1 h2 ha ho hs
  obtain ⟨k, rfl⟩ : ∃ k', k = k' + 2 := ⟨k - 2, by omega⟩
  have h3 := qny b hb qe h1 (by omega) bs2 Qo hbn a ha
  rw [show k + 2 = (k + 1) + 1 from rfl, q0.l11, qb3]
  unfold q0.b11
  simp only [veil_eq]
  rw [if_pos (c := decide ((i : Int) < (n : Int)) = true) (by simp; omega), if_pos (c := (!false) = true) rfl]
  have hw : IntKind.wrap .i64 ((i : Int) + 1) = ((i + 1 : Nat) : Int) := by rw [qK _ (by omega) (by omega)]; omega
  have hlim : ∀ x : REC, (out.length + ([x] : LR).length) * 72 ≤ lim := fun x => by simp [lim]; omega
  cases hr : qea b bs2 qe a with
  | none =>
   rw [hr] at h3
   obtain ⟨id, inc, st, l1, l2, cut, bag, a', bad', h3, h4⟩ := h3
   rw [h3]
   dsimp only
   rw [if_pos (hlim _)]
   exact qgi qa b qc k bs2 _ _ _ _ _ _ _ _ _ _ _ _ _ _ _ _ _
  | some p =>
   obtain ⟨r, a2⟩ := p
   rw [hr] at h3
   dsimp only at h3 ⊢
   obtain ⟨_, l2, g1, g2⟩ := qh0 hc hr
   have hsm := qlQ hc Qo hr
   rw [h3]
   dsimp only
   rw [if_pos (hlim _), hw, ih (k + 1) (i + 1) r.1 a2 (out ++ [r]) (by omega) (by omega) (by omega) (by omega) l2 (by simp; omega) (fun x hx => by
    rcases List.mem_append.1 hx with h | h
    ·exact hs x h
    ·rw [List.mem_singleton.1 h]; exact hsm)]
   cases qb3 b bs2 m r.1 a2 with
   | none => rfl
   | some q =>
    obtain ⟨rs, a3⟩ := q
    dsimp only
    rw [List.append_assoc]
    all_goals rfl
theorem qi7 : ∀ (l : LR) (qe : Int), (∀ r ∈ l, r.1 ≤ 4095) → qek qe l → -1 ≤ qe → qe ≤ 4095 → (l.length : Int) ≤ 4095 - qe
 | [], qe, _, _, _, h => by simp; omega
 | r :: l, qe, h, h1, h2, h3 => by
  have := qi7 l r.1 (fun x hx => h x (List.mem_cons_of_mem _ hx)) h1.2 (by have := h1.1; omega) (h r (List.mem_cons_self ..))
  have := h1.1
  simp
  omega
theorem qlq {l : LR} (h : QC l = true) : l.length < 1000000000 := by
 obtain ⟨h1, h2⟩ := qa4 h
 have := qi7 l (-1) (fun r hr => (zy (h1 r hr)).2.1) h2 (by omega) (by omega)
 omega
theorem qo0.pure (b : List Int) (qc : LR) (hb : inB b = true) (hs : za qc = true) : q0.f BIG b qc = some (qa2 b qc) := by
 obtain ⟨hl, hc⟩ := (Qy b).1 hb
 unfold q0.f q0.b qa2
 simp only [veil_eq]
 rw [hs, hb]
 cases hso : QC qc with
 | false => rfl
 | true =>
  obtain ⟨Qo, hris⟩ := qa4 hso
  have hbn := qlq hso
  have hh := qoH.pure b hb
  rw [if_pos (c := true = true) rfl, if_neg (c := (!true) = true) (by simp), if_pos (c := true = true) rfl]
  unfold qho
  cases hd : hdS b with
  | none =>
   rw [hd] at hh
   obtain ⟨k, f, i, lo, hi, s, t, l, e, bb, a, bad, hh⟩ := hh
   rw [hh]
   dsimp only
   have hfw : ∀ m, qu.f BIG b a bad true m = some (0, true, b, a, bad) := fun m => qfs b a bad m
   have hdw : ∀ (bs2 : LR) (n qe i1 : Int) (bs : List Int) (a1 : Int) (bad1 : Bool) (kk f1 i2 lo1 hi1 s1 t1 l1 e1 b1 : Int) (qg : LR), q0.l11 BIG b qc BIG bs2 n qe i1 true bs a1 bad1 kk f1 i2 lo1 hi1 s1 t1 l1 e1 b1 qg = some (z12 4) := by
    intro bs2 n qe i1 bs a1 bad1 kk f1 i2 lo1 hi1 s1 t1 l1 e1 b1 qg
    have := qgi BIG b qc (BIG - 1) bs2 n qe i1 bs a1 bad1 kk f1 i2 lo1 hi1 s1 t1 l1 e1 b1 qg
    rw [← ZK] at this
    exact this
   simp only [hfw, hdw]
   cases (bb == 0) <;> cases qt k 4 <;> rfl
  | some p =>
   obtain ⟨k, f, i, lo, hi, s, t, l, e, bb, a⟩ := p
   rw [hd] at hh
   dsimp only at hh ⊢
   obtain ⟨hh, l1, hv⟩ := hh
   rw [hh]
   dsimp only
   have key : (if qt k 4 = true then (match qu.f BIG b (a : Int) false false 255 with
      | none => none
      | some y1 => q0.l11 BIG b qc BIG (qaT bb qc) y1.1 (-1) 0 y1.2.1 y1.2.2.1 y1.2.2.2.1 y1.2.2.2.2 k f i lo hi s t l e bb []) else some (qhm b k f i lo hi s t l e bb [] a)) =
     some (match (match qel b (qaT bb qc) k a with
      | none => none
      | some (rs, a2) => if a2 = b.length ∧ b.length ≤ 65499 ∧ qR k f i lo hi s t l e bb rs = true then some (k, f, i, lo, hi, s, t, l, e, bb, rs) else none) with
      | none => z12 4
      | some m => okM m) := by
    unfold qel
    cases h4 : qt k 4 with
    | false =>
     rw [if_neg (by simp), if_neg (by simp)]
     dsimp only
     unfold qhm
     split <;> rfl
    | true =>
     rw [if_pos rfl, if_pos rfl]
     have hg := qcD b a 255 hb (by decide) (by decide) l1
     cases ht : tk b a 255 with
     | none =>
      rw [ht] at hg
      obtain ⟨a', bad, hg, h2⟩ := hg
      rw [hg]
      dsimp only
      rw [ZK]
      exact qgi _ b qc _ _ _ _ _ _ _ _ _ _ _ _ _ _ _ _ _ _ _
     | some w =>
      obtain ⟨n, a1⟩ := w
      rw [ht] at hg
      dsimp only at hg ⊢
      obtain ⟨_, n0, n1, _, _, l2⟩ := qab hc ht
      rw [hg]
      dsimp only
      have hbl : (qaT bb qc).length < 1000000000 := by
       unfold qaT
       split
       ·simp
       ·exact hbn
      have := qnQ BIG b qc hb (qaT bb qc) (qgk Qo bb) hbl n.toNat (by omega) k f i lo hi s t l e bb n.toNat BIG 0 (-1) a1 [] (by omega) (by rw [Z4]; omega) (by omega) (by omega) l2 (by simp) (by simp)
      rw [show ((n.toNat : Nat) : Int) = n from by omega] at this
      rw [show ((0 : Nat) : Int) = 0 from rfl] at this
      rw [this]
      cases qb3 b (qaT bb qc) n.toNat (-1) a1 with
      | none => rfl
      | some q =>
       obtain ⟨rs, a3⟩ := q
       dsimp only
       rw [List.nil_append]
       unfold qhm
       split <;> rfl
   have hend : (if zk b (a : Int) = true then (if (!(!false && (Zm b (a : Int) false == 0))) = true then some (z12 4) else if decide (((b.length : Nat) : Int) > 65499) = true then some (z12 4) else if (!qR k f i lo hi s t l e bb []) = true then some (z12 4) else some (k, f, i, lo, hi, s, t, l, e, bb, [], 0)) else none) = some (qhm b k f i lo hi s t l e bb [] a) := by
    have := qk0 0 b qc hb 0 [] 0 0 0 a l1 (by omega) k f i lo hi s t l e bb [] rfl
    rw [← this, q0.l11]
    unfold q0.b11
    rfl
   refine Eq.trans ?_ key
   unfold qaT
   cases (bb == 0) <;> cases qt k 4 <;> first | exact hend | rfl
theorem qoN.pure {bs : List Int} (hb : inB bs = true) : Zj.f BIG bs = some (qgb bs) := qoO.pure hb
theorem qoW.pure (gen k f i lo hi s t l e b : Int) (qg qc : LR) (hr : za qg = true) (hl : za qc = true) (hln : qc.length < 1000000000) :
  zE.f BIG gen k f i lo hi s t l e b qg qc = some (zV gen k f i lo hi s t l e b qg qc) := by
 refine qdx (gen := gen) (fun gen => zE.f BIG gen k f i lo hi s t l e b qg qc = some (zV gen k f i lo hi s t l e b qg qc)) ?_ ?_ ?_ ?_
 ·rw [qgr]
  unfold zE.f zE.b
  simp only [veil_eq]
  rw [if_pos (c := ((1 : Int) == 1) = true) rfl]
  unfold Q3.f Q3.b
  rw [hr]
  all_goals rfl
 ·rw [qgq]
  unfold zE.f zE.b
  simp only [veil_eq]
  rw [if_neg (c := ((2 : Int) == 1) = true) (by decide), if_pos (c := ((2 : Int) == 2) = true) rfl]
  unfold Q1.f Q1.b
  rw [hr]
  all_goals rfl
 ·rw [qeM]
  unfold zE.f zE.b
  simp only [veil_eq]
  rw [if_neg (c := ((3 : Int) == 1) = true) (by decide), if_neg (c := ((3 : Int) == 2) = true) (by decide), if_pos (c := ((3 : Int) == 3) = true) rfl, qoZ.pure k f i lo hi s t l e b qg qc hr hl hln]
 ·intro h1 h2 h3
  rw [qgs h1 h2 h3]
  unfold zE.f zE.b
  simp only [veil_eq]
  rw [if_neg (c := (gen == 1) = true) (by simpa using h1), if_neg (c := (gen == 2) = true) (by simpa using h2), if_neg (c := (gen == 3) = true) (by simpa using h3)]
theorem qoX.pure (gen : Int) (b : List Int) (qc : LR) (hb : isB b) (hl : b.length < 1000000000) (hs : za qc = true) :
  zT.f BIG gen b qc = some (qb4 gen b qc) := by
 have hin : inB b = true := (Qy b).2 ⟨by omega, hb⟩
 have his : inS b = true := qj4 hb hl
 refine qdx (gen := gen) (fun gen => zT.f BIG gen b qc = some (qb4 gen b qc)) ?_ ?_ ?_ ?_
 ·rw [qmQ]
  unfold zT.f zT.b
  simp only [veil_eq]
  rw [if_pos (c := ((1 : Int) == 1) = true) rfl]
  unfold Q2.f Q2.b
  simp only [veil_eq]
  rw [hin]
  all_goals rfl
 ·rw [qmP]
  unfold zT.f zT.b
  simp only [veil_eq]
  rw [if_neg (c := ((2 : Int) == 1) = true) (by decide), if_pos (c := ((2 : Int) == 2) = true) rfl]
  unfold Q0.f Q0.b
  simp only [veil_eq]
  rw [his]
  all_goals rfl
 ·rw [qmO]
  unfold zT.f zT.b
  simp only [veil_eq]
  rw [if_neg (c := ((3 : Int) == 1) = true) (by decide), if_neg (c := ((3 : Int) == 2) = true) (by decide), if_pos (c := ((3 : Int) == 3) = true) rfl, qo0.pure b qc hin hs]
 ·intro h1 h2 h3
  unfold zT.f zT.b
  simp only [veil_eq]
  unfold qb4
  simp only [show (gen == 1) = false from by simpa using h1, show (gen == 2) = false from by simpa using h2, show (gen == 3) = false from by simpa using h3, Bool.false_eq_true, if_false]
  all_goals rfl
theorem qoM.pure (gen : Int) (b : List Int) (hb : isB b) (hl : b.length < 1000000000) : Q7.f BIG gen b = some (Zb gen b) := by
 have hin : inB b = true := (Qy b).2 ⟨by omega, hb⟩
 unfold Q7.f Q7.b Zb
 simp only [veil_eq]
 cases h3 : gen == 3
 ·simp only [Bool.false_eq_true, if_false]
  rw [qoX.pure gen b [] hb hl rfl]
  all_goals rfl
 ·simp only [if_true]
  rw [qoN.pure hin]
def qjz (gen k f i lo hi s t l e b : Int) (qg qc : LR) : List Int × Int :=
 if (1 ≤ k ∧ k ≤ 3) ∧ gen ≠ 1 then ([], 10) else if (zV gen k f i lo hi s t l e b qg qc).2 ≠ 0 then ([], (zV gen k f i lo hi s t l e b qg qc).2) else qjy gen (zV gen k f i lo hi s t l e b qg qc).1
theorem qmh {gen k f i lo hi s t l e b : Int} {qg qc : LR} (hb : qcv qg) (h0 : (zV gen k f i lo hi s t l e b qg qc).2 = 0) : isB (zV gen k f i lo hi s t l e b qg qc).1 := by
 by_cases h3 : gen = 3 ∧ QC qc = false
 ·obtain ⟨rfl, hs⟩ := h3
  rw [qeM] at h0
  unfold qcU at h0
  rw [hs] at h0
  simp at h0
 ·refine (qdm (fun h => ?_) hb).1
  cases hs : QC qc with
  | true => rfl
  | false => exact absurd ⟨h, hs⟩ h3
theorem Qf.pure (k : Int) : Qf.f BIG k = some (decide (1 ≤ k ∧ k ≤ 3)) := by
 unfold Qf.f Qf.b
 by_cases h : k ≥ 1
 ·rw [if_pos (by simpa using h)]
  by_cases h2 : k ≤ 3
  ·simp [h2]; omega
  ·simp [h2]
 ·rw [if_neg (by simpa using h)]
  simp; omega
theorem Qh.pure (gen k f i lo hi s t l e b : Int) (qg qc : LR) (hr : za qg = true) (hl : za qc = true) (hln : qc.length < 1000000000) (hb : qcv qg) :
  Qh.f BIG gen k f i lo hi s t l e b qg qc = some (qjz gen k f i lo hi s t l e b qg qc) := by
 unfold Qh.f Qh.b qjz
 rw [Qf.pure, qoW.pure gen k f i lo hi s t l e b qg qc hr hl hln]
 simp only [veil_eq]
 by_cases h0 : (zV gen k f i lo hi s t l e b qg qc).2 = 0
 ·rw [QB.pure gen _ (qmh hb h0)]
  simp only [veil_eq]
  by_cases hg : 1 ≤ k ∧ k ≤ 3
  ·rw [if_pos (by simpa using hg)]
   by_cases g1 : gen = 1
   ·rw [if_neg (by simp [g1]), if_neg (by simp [h0]), if_neg (by simp [g1]), if_neg (by simp [h0])]
   ·rw [if_pos (by simp [g1]), if_pos ⟨hg, g1⟩]
  ·rw [if_neg (by simpa using hg), if_neg (by simp [h0]), if_neg (by intro h; exact hg h.1), if_neg (by simp [h0])]
 ·by_cases hg : 1 ≤ k ∧ k ≤ 3
  ·rw [if_pos (by simpa using hg)]
   by_cases g1 : gen = 1
   ·rw [if_neg (by simp [g1]), if_pos (by simpa using h0), if_neg (by simp [g1]), if_pos h0]
   ·rw [if_pos (by simp [g1]), if_pos ⟨hg, g1⟩]
  ·rw [if_neg (by simpa using hg), if_pos (by simpa using h0), if_neg (by intro h; exact hg h.1), if_pos h0]
def w4 : List Int := (zV 1 4 0 0 2 3 0 0 0 0 0 [] []).1
def w1 : List Int := (zV 1 1 0 0 2 3 7 0 0 0 0 [] []).1
theorem qjA : qcv [] := by
 intro r hr
 simp at hr
def Qe (b : List Int) : Int × List Int × Int :=
 if b.length > 65507 then (0, [], 3)
 else if b.length < 8 then (0, [], 2)
 else if QL ((b.take 1).drop 0) ≠ 156 ∨ QL ((b.take 2).drop 1) < 1 ∨ QL ((b.take 2).drop 1) > 3 ∨ QL ((b.take 4).drop 2) ≠ ((b.length - 8 : Nat) : Int) then (0, [], 4)
 else if IntKind.wrap .u32 (QL (b.drop (b.length - 4))) ≠ (qeE (b.take (b.length - 4)) : Int) then (0, [], 8)
 else (QL ((b.take 2).drop 1), (b.take (b.length - 4)).drop 4, 0)
theorem qj2 {l : List Int} (h : isB l) (n : Nat) : isB (l.take n) := fun c hc => h c (List.mem_of_mem_take hc)
theorem qnF {l : List Int} (h : isB l) (n : Nat) : isB (l.drop n) := fun c hc => h c (List.mem_of_mem_drop hc)
theorem Qg.pure (L : List Int) (hb : isB L) (hl : L.length ≤ 1000000) : Qg.f BIG L = some (Qe L) := by
 have hin := qmX hb hl
 unfold Qg.f Qg.b Qe
 by_cases h1 : L.length > 65507
 ·rw [if_pos (by simp; omega), if_pos h1]
 rw [if_neg (by simp; omega), if_neg h1]
 by_cases h2 : L.length < 8
 ·rw [if_pos (by simp; omega), if_pos h2]
 rw [if_neg (by simp; omega), if_neg h2]
 have hat : ∀ a : Nat, a ≤ L.length → zk L (a : Int) = true := by
  intro a h1
  unfold zk
  rw [hin]
  simp
  omega
 have r0 := qcB L 1 0 (by omega) (by omega) (by omega)
 have r1 := qcB L 1 1 (by omega) (by omega) (by omega)
 have r2 := qcB L 2 2 (by omega) (by omega) (by omega)
 simp only [show ((0 : Nat) : Int) = 0 from rfl, show ((1 : Nat) : Int) = 1 from rfl, show ((2 : Nat) : Int) = 2 from rfl, show ((0 + 1 : Nat) : Int) = 1 from rfl, show ((1 + 1 : Nat) : Int) = 2 from rfl, show ((2 + 2 : Nat) : Int) = 4 from rfl, show 0 + 1 = 1 from rfl, show 1 + 1 = 2 from rfl, show 2 + 2 = 4 from rfl] at r0 r1 r2
 have a0 := hat 0 (by omega)
 have a1 := hat 1 (by omega)
 have a2 := hat 2 (by omega)
 have a4 := hat 4 (by omega)
 simp only [show ((0 : Nat) : Int) = 0 from rfl, show ((1 : Nat) : Int) = 1 from rfl, show ((2 : Nat) : Int) = 2 from rfl, show ((4 : Nat) : Int) = 4 from rfl] at a0 a1 a2 a4
 rw [if_pos hin, if_pos a0]
 simp only [veil_eq, r0]
 rw [if_pos a1]
 simp only [veil_eq, r1]
 rw [if_pos a2]
 simp only [veil_eq, r2]
 have w8 : IntKind.wrap .i64 (((L.length : Nat) : Int) - 8) = ((L.length - 8 : Nat) : Int) := by rw [qK _ (by omega) (by omega)]; omega
 have w4 : IntKind.wrap .i64 (((L.length : Nat) : Int) - 4) = ((L.length - 4 : Nat) : Int) := by rw [qK _ (by omega) (by omega)]; omega
 rw [w8]
 by_cases c0' : QL ((L.take 1).drop 0) ≠ 156
 ·rw [if_pos (bne_iff_ne.2 c0'), if_pos (.inl c0')]
 have c0 : QL ((L.take 1).drop 0) = 156 := Decidable.not_not.1 c0'
 rw [if_neg (by rw [bne_iff_ne]; exact c0')]
 by_cases c1 : QL ((L.take 2).drop 1) < 1
 ·rw [if_pos (decide_eq_true c1), if_pos (.inr (.inl c1))]
 rw [if_neg (by rw [decide_eq_true_eq]; exact c1)]
 by_cases c3 : QL ((L.take 2).drop 1) > 3
 ·rw [if_pos (decide_eq_true c3), if_pos (.inr (.inr (.inl c3)))]
 rw [if_neg (by rw [decide_eq_true_eq]; exact c3)]
 by_cases cn' : QL ((L.take 4).drop 2) ≠ ((L.length - 8 : Nat) : Int)
 ·rw [if_pos (bne_iff_ne.2 cn'), if_pos (.inr (.inr (.inr cn')))]
 have cn : QL ((L.take 4).drop 2) = ((L.length - 8 : Nat) : Int) := Decidable.not_not.1 cn'
 have hno : ¬ (QL ((L.take 1).drop 0) ≠ 156 ∨ QL ((L.take 2).drop 1) < 1 ∨ QL ((L.take 2).drop 1) > 3 ∨ QL ((L.take 4).drop 2) ≠ ((L.length - 8 : Nat) : Int)) := by
  rintro (h | h | h | h)
  ·exact h c0
  ·exact c1 h
  ·exact c3 h
  ·exact h cn
 rw [if_neg (by rw [bne_iff_ne]; exact cn'), if_neg hno, if_pos a4, cn]
 have r3 := qit L (L.length - 8) 4 (by omega)
 have r4 := qcB L 4 (4 + (L.length - 8)) (by omega) (by omega) (by omega)
 have a5 := hat (4 + (L.length - 8)) (by omega)
 have e4 : 4 + (L.length - 8) = L.length - 4 := by omega
 rw [e4] at r3 r4 a5
 rw [List.take_of_length_le (show L.length ≤ L.length - 4 + 4 by omega)] at r4
 simp only [show ((4 : Nat) : Int) = 4 from rfl] at r3 r4
 simp only [veil_eq, r3]
 rw [if_pos a5]
 simp only [veil_eq, r4]
 rw [w4, if_pos (by omega), Int.toNat_natCast, List.drop_zero, zG.pure _ (qj2 hb _) (by simp; omega)]
 simp only [veil_eq]
 by_cases cs : IntKind.wrap .u32 (QL (L.drop (L.length - 4))) = (qeE (L.take (L.length - 4)) : Int)
 ·rw [if_neg (by rw [bne_iff_ne]; exact fun h => h cs), if_neg (fun h => h cs)]
 ·rw [if_pos (bne_iff_ne.2 cs), if_pos cs]
theorem qh3 {b : List Int} (hb : isB b) : isB (Qe b).2.1 ∧ (Qe b).2.1.length ≤ b.length := by
 unfold Qe
 split
 ·exact ⟨Z6, by simp⟩
 ·split
  ·exact ⟨Z6, by simp⟩
  ·split
   ·exact ⟨Z6, by simp⟩
   ·split
    ·exact ⟨Z6, by simp⟩
    ·exact ⟨qnF (qj2 hb _) _, by simp; omega⟩
def qiK (lo hi gen : Int) : Bool := okS lo hi && (decide (lo ≤ gen) && decide (gen ≤ hi))
theorem Zg.pure (lo hi gen : Int) : Zg.f BIG lo hi gen = some (qiK lo hi gen) := by
 unfold Zg.f Zg.b qiK
 cases okS lo hi with
 | false => rw [if_neg (by simp)]; rfl
 | true =>
  rw [if_pos rfl]
  by_cases h : lo ≤ gen
  ·rw [if_pos (decide_eq_true h), decide_eq_true h]; rfl
  ·rw [if_neg (by rw [decide_eq_true_eq]; exact h), decide_eq_false h]; rfl
abbrev P14 := Int × Int × Int × Int × Int × Int × Int × Int × Int × Int × LR × Int × List Int × Int
def zP (g e : Int) : P14 := (0, 0, 0, 0, 0, 0, 0, 0, 0, 0, [], g, [], e)
def qgy (g : Int) (qT : List Int) (h : M12) : P14 := (h.1, h.2.1, h.2.2.1, h.2.2.2.1, h.2.2.2.2.1, h.2.2.2.2.2.1, h.2.2.2.2.2.2.1, h.2.2.2.2.2.2.2.1, h.2.2.2.2.2.2.2.2.1, h.2.2.2.2.2.2.2.2.2.1, h.2.2.2.2.2.2.2.2.2.2.1, g, qT, 0)
def qgc (k : Int) : Bool := decide (1 ≤ k ∧ k ≤ 3)
def qdr (b : List Int) (lo hi : Int) : P14 :=
 if (Qe b).2.2 ≠ 0 then zP 0 (Qe b).2.2
 else if qiK lo hi (Qe b).1 = false ∧ ((Qe b).1 ≠ 1 ∨ ¬ (qcd (Zb (Qe b).1 (Qe b).2.1) = 0 ∧ qgc (Zb (Qe b).1 (Qe b).2.1).1 = true)) then zP (Qe b).1 9
 else if qcd (Zb (Qe b).1 (Qe b).2.1) ≠ 0 then zP 0 (qcd (Zb (Qe b).1 (Qe b).2.1))
 else if qgc (Zb (Qe b).1 (Qe b).2.1).1 = true ∧ (Qe b).1 ≠ 1 then zP 0 10
 else qgy (Qe b).1 (Qe b).2.1 (Zb (Qe b).1 (Qe b).2.1)
theorem Qi.pure (b : List Int) (lo hi : Int) (hb : isB b) (hl : b.length ≤ 1000000) : Qi.f BIG b lo hi = some (qdr b lo hi) := by
 obtain ⟨h1, h2⟩ := qh3 hb
 unfold Qi.f Qi.b qdr
 rw [Qg.pure b hb hl]
 simp only [veil_eq]
 rw [qoM.pure _ _ h1 (by omega), Zg.pure]
 simp only [veil_eq]
 rw [Qf.pure]
 simp only [veil_eq]
 rw [show (decide (1 ≤ (Zb (Qe b).1 (Qe b).2.1).1 ∧ (Zb (Qe b).1 (Qe b).2.1).1 ≤ 3)) = qgc (Zb (Qe b).1 (Qe b).2.1).1 from rfl]
 rw [show (Zb (Qe b).1 (Qe b).2.1).2.2.2.2.2.2.2.2.2.2.2 = qcd (Zb (Qe b).1 (Qe b).2.1) from rfl]
 generalize Qe b = O
 generalize hH : Zb O.1 O.2.1 = H
 generalize qiK lo hi O.1 = has
 generalize qgc H.1 = gr
 by_cases e0 : O.2.2 = 0
 ·by_cases eh : qcd H = 0
  ·by_cases g1 : O.1 = 1
   ·cases has <;> cases gr <;> simp [e0, eh, g1, zP, qgy]
   ·cases has <;> cases gr <;> simp [e0, eh, g1, zP, qgy]
  ·by_cases g1 : O.1 = 1
   ·cases has <;> cases gr <;> simp [e0, eh, g1, zP, qgy]
   ·cases has <;> cases gr <;> simp [e0, eh, g1, zP, qgy]
 ·simp [e0, zP]
def qcF : Env := ⟨th, gam [(7, qbt), (13, Zh)], fun i => if i = 3 then ⟨[1, 5, 6, 10, 11, 12], [], []⟩ else ⟨[], [], []⟩⟩
def qX.k (rs : List AV) (os : List Den.Obj) : Option Int :=
 match rs, os with
 | [.d (.int .i64) r0], [] => some r0
 | _, _ => none
def qX.s3 (l : List
 ((Int × Int × List Int × LR) ×
  Int × Int × Int × Bool)) (gen : Int) (x0 : Int) (x1 : Int) (x2 : Int) (x3 : Int) (x4 : (List ((Int × Int) × (Int × Int)))) : St := ⟨[.dead, .d tQi (gen), dD, dD, dD, .d tQi x0, .d tQi x1, dD, dD, dD, .row 64, .d tQi x2, .d tQi x3, dD, dD, dD, dD, dD, dD, dD, dD, dD, dD, dD, dD, dD, dD, dD, dD, dD, dD, dD, dD, dD, dD, dD, dD, dD, dD, dD, dD, dD, dD, dD, dD, .dead], ofL [(64, .row 37 (.pair (.pair tQi tQi) (.pair tQi tQi)) x4 false)], 0⟩
def qX.p3 (qa : Nat) (l : List
 ((Int × Int × List Int × LR) ×
  Int × Int × Int × Bool)) (gen : Int) (k : Nat) := fun x0 x1 x2 x3 x4 => lp qcF qa Tryz.f8 [.raw] 0 qX.k 3 [] k (qX.s3 l gen x0 x1 x2 x3 x4)
def qX.b3 (l : List
 ((Int × Int × List Int × LR) ×
  Int × Int × Int × Bool)) (gen : Int) (A3 : Int → Int → Int → Int → (List ((Int × Int) × (Int × Int))) → Option Int) (x0 : Int) (x1 : Int) (x2 : Int) (x3 : Int) (x4 : (List ((Int × Int) × (Int × Int)))) : Option Int :=
 (if (decide (x3 < x2)) then (match (idx x4 x3) with | none => none | some y5 => (match (idx x4 x3) with | none => none | some y6 => (if (y6.1.2 == (0 : Int)) then A3 x0 x1 x2 (IntKind.wrap .i64 (x3 + (1 : Int))) x4 else (match (veil (Qf.f BIG y6.1.2)) with | none => none | some y7 => (if y7 then A3 x0 x1 x2 (IntKind.wrap .i64 (x3 + (1 : Int))) x4 else (if (y6.1.1 == gen) then A3 (IntKind.wrap .i64 (x0 + y6.2.1)) (IntKind.wrap .i64 (x1 + y6.2.1)) x2 (IntKind.wrap .i64 (x3 + (1 : Int))) x4 else A3 (IntKind.wrap .i64 (x0 + y6.2.1)) x1 x2 (IntKind.wrap .i64 (x3 + (1 : Int))) x4)))))) else (if (x0 == (0 : Int)) then some ((0 : Int)) else (if (x0 = (0 : Int)) then none else some ((IntKind.wrap .i64 (Int.tdiv (IntKind.wrap .i64 (x1 * (1000 : Int))) x0))))))
def qX.l3 (qa : Nat) (l : List
 ((Int × Int × List Int × LR) ×
  Int × Int × Int × Bool)) (gen : Int) : Nat → Int → Int → Int → Int → (List ((Int × Int) × (Int × Int))) → Option Int
 | 0, _, _, _, _, _ => none
 | k + 1, x0, x1, x2, x3, x4 => qX.b3 l gen (qX.l3 qa l gen k) x0 x1 x2 x3 x4
def qX.b (l : List
 ((Int × Int × List Int × LR) ×
  Int × Int × Int × Bool)) (gen : Int) (E3 : Int → Int → Int → Int → (List ((Int × Int) × (Int × Int))) → Option Int) : Option Int :=
 (if (okL l) then E3 (0 : Int) (0 : Int) ((((List.length (Qa l))) : Nat) : Int) (0 : Int) (Qa l) else none)
def qX.f (qa : Nat) (l : List
 ((Int × Int × List Int × LR) ×
  Int × Int × Int × Bool)) (gen : Int) : Option Int := qX.b l gen (qX.l3 qa l gen qa)
theorem qX.l3_eq (qa : Nat) (l : List
 ((Int × Int × List Int × LR) ×
  Int × Int × Int × Bool)) (gen : Int) : ∀ k : Nat, qX.p3 qa l gen k = qX.l3 qa l gen k
 | 0 => by kernel_rfl
 | k + 1 => by
  refine Eq.trans (b := qX.b3 l gen (qX.p3 qa l gen k)) (by kernel_rfl) ?_
  rw [qX.l3_eq qa l gen k]
  kernel_rfl
theorem qX.eq (qa : Nat) (l : List
 ((Int × Int × List Int × LR) ×
  Int × Int × Int × Bool)) (gen : Int) : (denF qcF loopN qa Tryz.f8 [.raw] [.d (.sl (.pair (.pair tQi (.pair tQi (.pair (.sl (.int .u8)) (.sl tQr)))) (.pair tQi (.pair tQi (.pair tQi .bool))))) l, .d tQi gen] [] qX.k) = qX.f qa l gen := by
 refine Eq.trans (b := qX.b l gen (qX.p3 qa l gen qa)) (by kernel_rfl) ?_
 rw [qX.l3_eq qa l gen qa]
 kernel_rfl
def Za : Den.Sum := ⟨[.dat (.sl (.pair (.pair tQi (.pair tQi (.pair (.sl (.int .u8)) (.sl tQr)))) (.pair tQi (.pair tQi (.pair tQi .bool))))) false, .raw], fun qA qj κ => match qA, qj with
 | [.d (.sl (.pair (.pair (.int .i64) (.pair (.int .i64) (.pair (.sl (.int .u8)) (.sl (.pair (.int .i64) (.pair (.int .i64) (.pair (.int .i64) (.pair (.pair (.int .i64) (.int .i64)) (.pair .bool (.sl (.pair (.int .i64) (.sl (.int .u8))))))))))))) (.pair (.int .i64) (.pair (.int .i64) (.pair (.int .i64) .bool))))) l, .d (.int .i64) gen], [] => (match veil (qX.f BIG l gen) with | none => none | some y => κ [.d (.int .i64) y] [])
 | _, _ => none⟩
theorem qc6 : SumDet Za := zi fun _ _ _ _ => by
 unfold Za
 simp only [veil_eq]
 split
 ·split <;> rfl
 ·rfl
theorem qdt : SumOk Tryz.prog 8 Za := by
 have hE : EnvOk Tryz.prog qcF := env_ok (l := [(7, qbt), (13, Zh)]) th_ok qU ⟨⟨qfa, qet⟩, ⟨qcN, qcq⟩, trivial⟩ _
 refine sum_ok hE Tryz.func8 rfl (by kernel_rfl) Za [.raw] qX.k ?_
 intro R avs qj κ r h
 unfold Za at h
 simp only [veil_eq] at h
 split at h
 ·rename_i l gen
  split at h
  ·cases h
  ·rename_i y hy
   refine ⟨BIG, _, _, _, (qX.eq BIG l gen).trans hy, ?_, h⟩
   intro rs ros hk
   unfold qX.k at hk
   split at hk
   ·rw [← sj hk]; exact ⟨rfl, rfl⟩
   ·cases hk
 ·cases h
abbrev zW := (zeroI (Go.Den.Ty.pair (Go.Den.Ty.pair (Go.Den.Ty.int .i64) (Go.Den.Ty.pair (Go.Den.Ty.int .i64) (Go.Den.Ty.pair (Go.Den.Ty.sl (Go.Den.Ty.int .u8)) (Go.Den.Ty.sl (Go.Den.Ty.pair (Go.Den.Ty.int .i64) (Go.Den.Ty.pair (Go.Den.Ty.int .i64) (Go.Den.Ty.pair (Go.Den.Ty.int .i64) (Go.Den.Ty.pair (Go.Den.Ty.pair (Go.Den.Ty.int .i64) (Go.Den.Ty.int .i64)) (Go.Den.Ty.pair Go.Den.Ty.bool (Go.Den.Ty.sl (Go.Den.Ty.pair (Go.Den.Ty.int .i64) (Go.Den.Ty.sl (Go.Den.Ty.int .u8))))))))))))) (Go.Den.Ty.pair (Go.Den.Ty.int .i64) (Go.Den.Ty.pair (Go.Den.Ty.int .i64) (Go.Den.Ty.pair (Go.Den.Ty.int .i64) Go.Den.Ty.bool)))))
def qfK : Env := ⟨th, gam [(7, qbt), (8, Za), (9, qad)], fun i => ⟨[], [], []⟩⟩
def zZ.k (rs : List AV) (os : List Den.Obj) : Option Bool :=
 match rs, os with
 | [.d .bool r0], [] => some r0
 | _, _ => none
def zZ.b (u : Unit) : Option Bool :=
 (match (veil (Qh.f BIG (2 : Int) (4 : Int) 0 0 (1 : Int) (3 : Int) 0 0 0 0 0 ([] : LR) ([] : LR))) with | none => none | some y0 => (match (veil (Qh.f BIG (3 : Int) (7 : Int) 0 0 (1 : Int) (3 : Int) 0 0 0 0 0 ([] : LR) ([] : LR))) with | none => none | some y1 => (match (veil (Qh.f BIG (1 : Int) (1 : Int) 0 0 (1 : Int) (3 : Int) 0 0 0 0 0 ([] : LR) ([] : LR))) with | none => none | some y2 => (if (y0.2 != (0 : Int)) then some (false) else (if (y1.2 != (0 : Int)) then some (false) else (if (y2.2 != (0 : Int)) then some (false) else (match (veil (qX.f BIG (List.set (List.set (List.set (List.set (List.set (List.set (List.replicate (Int.toNat (3 : Int)) zW) (Int.toNat (0 : Int)) ((zW.1.1, ((2 : Int), (zW.1.2.2.1, zW.1.2.2.2))), (zW.2.1, (zW.2.2.1, (zW.2.2.2.1, zW.2.2.2.2))))) (Int.toNat (0 : Int)) ((zW.1.1, ((2 : Int), (y0.1, zW.1.2.2.2))), (zW.2.1, (zW.2.2.1, (zW.2.2.2.1, zW.2.2.2.2))))) (Int.toNat (1 : Int)) ((zW.1.1, ((3 : Int), (zW.1.2.2.1, zW.1.2.2.2))), (zW.2.1, (zW.2.2.1, (zW.2.2.2.1, zW.2.2.2.2))))) (Int.toNat (1 : Int)) ((zW.1.1, ((3 : Int), (y1.1, zW.1.2.2.2))), (zW.2.1, (zW.2.2.1, (zW.2.2.2.1, zW.2.2.2.2))))) (Int.toNat (2 : Int)) ((zW.1.1, ((1 : Int), (zW.1.2.2.1, zW.1.2.2.2))), (zW.2.1, (zW.2.2.1, (zW.2.2.2.1, zW.2.2.2.2))))) (Int.toNat (2 : Int)) ((zW.1.1, ((1 : Int), (y2.1, zW.1.2.2.2))), (zW.2.1, (zW.2.2.1, (zW.2.2.2.1, zW.2.2.2.2))))) (2 : Int))) with | none => none | some y3 => (if (y3 == (500 : Int)) then (if (okL (List.set (List.set (List.set (List.set (List.set (List.set (List.replicate (Int.toNat (3 : Int)) zW) (Int.toNat (0 : Int)) ((zW.1.1, ((2 : Int), (zW.1.2.2.1, zW.1.2.2.2))), (zW.2.1, (zW.2.2.1, (zW.2.2.2.1, zW.2.2.2.2))))) (Int.toNat (0 : Int)) ((zW.1.1, ((2 : Int), (y0.1, zW.1.2.2.2))), (zW.2.1, (zW.2.2.1, (zW.2.2.2.1, zW.2.2.2.2))))) (Int.toNat (1 : Int)) ((zW.1.1, ((3 : Int), (zW.1.2.2.1, zW.1.2.2.2))), (zW.2.1, (zW.2.2.1, (zW.2.2.2.1, zW.2.2.2.2))))) (Int.toNat (1 : Int)) ((zW.1.1, ((3 : Int), (y1.1, zW.1.2.2.2))), (zW.2.1, (zW.2.2.1, (zW.2.2.2.1, zW.2.2.2.2))))) (Int.toNat (2 : Int)) ((zW.1.1, ((1 : Int), (zW.1.2.2.1, zW.1.2.2.2))), (zW.2.1, (zW.2.2.1, (zW.2.2.2.1, zW.2.2.2.2))))) (Int.toNat (2 : Int)) ((zW.1.1, ((1 : Int), (y2.1, zW.1.2.2.2))), (zW.2.1, (zW.2.2.1, (zW.2.2.2.1, zW.2.2.2.2)))))) then some ((((((List.length (Qa (List.set (List.set (List.set (List.set (List.set (List.set (List.replicate (Int.toNat (3 : Int)) zW) (Int.toNat (0 : Int)) ((zW.1.1, ((2 : Int), (zW.1.2.2.1, zW.1.2.2.2))), (zW.2.1, (zW.2.2.1, (zW.2.2.2.1, zW.2.2.2.2))))) (Int.toNat (0 : Int)) ((zW.1.1, ((2 : Int), (y0.1, zW.1.2.2.2))), (zW.2.1, (zW.2.2.1, (zW.2.2.2.1, zW.2.2.2.2))))) (Int.toNat (1 : Int)) ((zW.1.1, ((3 : Int), (zW.1.2.2.1, zW.1.2.2.2))), (zW.2.1, (zW.2.2.1, (zW.2.2.2.1, zW.2.2.2.2))))) (Int.toNat (1 : Int)) ((zW.1.1, ((3 : Int), (y1.1, zW.1.2.2.2))), (zW.2.1, (zW.2.2.1, (zW.2.2.2.1, zW.2.2.2.2))))) (Int.toNat (2 : Int)) ((zW.1.1, ((1 : Int), (zW.1.2.2.1, zW.1.2.2.2))), (zW.2.1, (zW.2.2.1, (zW.2.2.2.1, zW.2.2.2.2))))) (Int.toNat (2 : Int)) ((zW.1.1, ((1 : Int), (y2.1, zW.1.2.2.2))), (zW.2.1, (zW.2.2.1, (zW.2.2.2.1, zW.2.2.2.2)))))))) : Nat) : Int) == (3 : Int))) else none) else some (false)))))))))
def zZ.f (qa : Nat) (u : Unit) : Option Bool := zZ.b u
theorem zZ.eq (qa : Nat) (u : Unit) : (denF qfK loopN qa Tryz.f4 [.raw] [] [] zZ.k) = zZ.f qa u := by
 kernel_rfl
def qae : Den.Sum := ⟨[], fun qA qj κ => match qA, qj with
 | [], [] => (match veil (zZ.f BIG ()) with | none => none | some y => κ [.d .bool y] [])
 | _, _ => none⟩
theorem qgF : SumDet qae := zi fun _ _ _ _ => by
 unfold qae
 simp only [veil_eq]
 split
 ·split <;> rfl
 ·rfl
theorem qhe : SumOk Tryz.prog 4 qae := by
 have hE : EnvOk Tryz.prog qfK := env_ok (l := [(7, qbt), (8, Za), (9, qad)]) th_ok qU ⟨⟨qfa, qet⟩, ⟨qdt, qc6⟩, ⟨qhc, qgE⟩, trivial⟩ _
 refine sum_ok hE Tryz.func4 rfl (by kernel_rfl) qae [.raw] zZ.k ?_
 intro R avs qj κ r h
 unfold qae at h
 simp only [veil_eq] at h
 split at h
 ·skip
  split at h
  ·cases h
  ·rename_i y hy
   refine ⟨BIG, _, _, _, (zZ.eq BIG ()).trans hy, ?_, h⟩
   intro rs ros hk
   unfold zZ.k at hk
   split at hk
   ·rw [← sj hk]; exact ⟨rfl, rfl⟩
   ·cases hk
 ·cases h
def zY : Env := ⟨th, gam [(4, qae), (5, Z0), (6, qay), (7, qbt), (8, Za)], fun i => if i = 6 then ⟨[0, 1, 5, 6, 7], [], []⟩ else if i = 20 then ⟨[0, 1, 5, 6, 9, 10, 11], [], []⟩ else if i = 27 then ⟨[0, 1, 5, 6, 9, 10, 11, 12, 13, 14], [], []⟩ else if i = 7 then ⟨[0, 1, 5, 6, 7], [], [777777]⟩ else if i = 13 then ⟨[0, 1, 5, 6, 7, 8], [], [777777]⟩ else if i = 21 then ⟨[0, 1, 5, 6, 9, 10, 11], [], [777777]⟩ else if i = 24 then ⟨[0, 1, 5, 6, 9, 10, 11], [], [777777]⟩ else if i = 28 then ⟨[0, 1, 5, 6, 9, 10, 11, 12, 13, 14], [], [777777]⟩ else if i = 34 then ⟨[0, 1, 5, 6, 9, 10, 11, 12], [], [777777]⟩ else ⟨[], [], []⟩⟩
def qb.k (rs : List AV) (os : List Den.Obj) : Option Bool :=
 match rs, os with
 | [.d .bool r0], [] => some r0
 | _, _ => none
def qb.s7 (l : List
 ((Int × Int × List Int × LR) ×
  Int × Int × Int × Bool)) (gen : Int) (x16 : Int) (x17 : Int) (x18 : Int) : St := ⟨[.d (.sl (.pair (.pair tQi (.pair tQi (.pair (.sl (.int .u8)) (.sl tQr)))) (.pair tQi (.pair tQi (.pair tQi .bool))))) (l), .d tQi (gen), dD, dD, dD, .d tQi x16, .d tQi x17, .d tQi x18, dD, dD, dD, dD, dD, dD, dD, dD, dD, dD, dD, dD, dD, dD, dD, dD, dD, dD, dD, dD, dD, dD, dD, dD, dD, dD, dD, dD, dD, dD, dD, dD, dD, dD, dD, dD, dD, dD, dD, dD, dD, dD, dD, dD, dD, dD, dD, dD, dD, dD, dD, dD, dD, dD, dD, dD, dD, dD, dD, dD, dD, dD, dD, dD, dD, dD, dD, dD, dD, dD, dD, dD, dD, dD, dD, dD, dD, dD, dD, dD, dD, dD, dD, dD, dD, dD, dD, dD, dD, dD, dD, dD, dD, dD, dD, dD, dD, dD, dD, dD, dD, dD, dD, dD, dD, dD, dD, dD, dD, dD, dD, dD, dD, dD, dD, dD, dD, dD, dD, dD, dD, dD, dD, dD, dD, dD, dD, dD, dD, dD, dD, dD, dD, dD, dD, dD, dD, dD, dD, dD, dD, dD, dD, dD, dD, dD, dD, dD, dD, dD, dD, dD, dD, dD, dD, dD, dD, dD, dD, dD, dD, dD, dD, dD, dD, dD, dD, dD, dD, dD, dD, dD, dD, dD, dD, dD, dD, dD, dD, dD, dD, dD, dD, dD, dD, dD, dD, dD, dD, dD, dD, dD, dD, dD, dD, dD, dD, dD, dD, dD, dD, dD, dD, dD, dD, dD, dD, dD, dD, .dead], ofL [], 0⟩
def qb.p7 (qa : Nat) (l : List
 ((Int × Int × List Int × LR) ×
  Int × Int × Int × Bool)) (gen : Int) (k6 : Nat) (k : Nat) := fun x16 x17 x18 => lp zY qa Tryz.f3 [.raw] 0 qb.k 7 [k6] k (qb.s7 l gen x16 x17 x18)
def qb.b7 (l : List
 ((Int × Int × List Int × LR) ×
  Int × Int × Int × Bool)) (gen : Int) (A6 : Int → Int → Int → Option Bool) (A7 : Int → Int → Int → Option Bool) (x16 : Int) (x17 : Int) (x18 : Int) : Option Bool :=
 A6 x16 x17 (IntKind.wrap .i64 (x18 + (1 : Int)))
def qb.l7 (qa : Nat) (l : List
 ((Int × Int × List Int × LR) ×
  Int × Int × Int × Bool)) (gen : Int) (A6 : Int → Int → Int → Option Bool) : Nat → Int → Int → Int → Option Bool
 | 0, _, _, _ => none
 | k + 1, x16, x17, x18 => qb.b7 l gen A6 (qb.l7 qa l gen A6 k) x16 x17 x18
def qb.s13 (l : List
 ((Int × Int × List Int × LR) ×
  Int × Int × Int × Bool)) (gen : Int) (x11 : Int) (x12 : Int) (x13 : Int) (x14 : Int) (x15 : Int) : St := ⟨[.d (.sl (.pair (.pair tQi (.pair tQi (.pair (.sl (.int .u8)) (.sl tQr)))) (.pair tQi (.pair tQi (.pair tQi .bool))))) (l), .d tQi (gen), dD, dD, dD, .d tQi x11, .d tQi x12, .d tQi x13, .ptr 64 0, dD, dD, dD, dD, dD, dD, dD, dD, dD, dD, dD, dD, dD, dD, dD, dD, dD, dD, dD, dD, dD, dD, dD, dD, dD, dD, dD, dD, dD, dD, dD, dD, dD, dD, dD, dD, dD, dD, dD, dD, dD, dD, dD, dD, dD, dD, dD, dD, dD, dD, dD, dD, dD, dD, dD, dD, dD, dD, dD, dD, dD, dD, dD, dD, dD, dD, dD, dD, dD, dD, dD, dD, dD, dD, dD, dD, dD, dD, dD, dD, dD, dD, dD, dD, dD, dD, dD, dD, dD, dD, dD, dD, dD, dD, dD, dD, dD, dD, dD, dD, dD, dD, dD, dD, dD, dD, dD, dD, dD, dD, dD, dD, dD, dD, dD, dD, dD, dD, dD, dD, dD, dD, dD, dD, dD, dD, dD, dD, dD, dD, dD, dD, dD, dD, dD, dD, dD, dD, dD, dD, dD, dD, dD, dD, dD, dD, dD, dD, dD, dD, dD, dD, dD, dD, dD, dD, dD, dD, dD, dD, dD, dD, dD, dD, dD, dD, dD, dD, dD, dD, dD, dD, dD, dD, dD, dD, dD, dD, dD, dD, dD, dD, dD, dD, dD, dD, dD, dD, dD, dD, dD, dD, dD, dD, dD, dD, dD, dD, dD, dD, dD, dD, dD, dD, dD, dD, dD, dD, .dead], ofL [(64, .box [.d tQi x14, .d tQi x15])], 0⟩
def qb.p13 (qa : Nat) (l : List
 ((Int × Int × List Int × LR) ×
  Int × Int × Int × Bool)) (gen : Int) (k6 : Nat) (k : Nat) := fun x11 x12 x13 x14 x15 => lp zY qa Tryz.f3 [.raw] 0 qb.k 13 [k6] k (qb.s13 l gen x11 x12 x13 x14 x15)
def qb.b13 (l : List
 ((Int × Int × List Int × LR) ×
  Int × Int × Int × Bool)) (gen : Int) (A6 : Int → Int → Int → Option Bool) (A13 : Int → Int → Int → Int → Int → Option Bool) (E7 : Int → Int → Int → Option Bool) (x11 : Int) (x12 : Int) (x13 : Int) (x14 : Int) (x15 : Int) : Option Bool :=
 (if (decide (x15 > (3 : Int))) then (if (x14 == gen) then E7 (IntKind.wrap .i64 (x11 + (1 : Int))) (IntKind.wrap .i64 (x12 + (1 : Int))) x13 else E7 (IntKind.wrap .i64 (x11 + (1 : Int))) x12 x13) else E7 x11 x12 x13)
def qb.l13 (qa : Nat) (l : List
 ((Int × Int × List Int × LR) ×
  Int × Int × Int × Bool)) (gen : Int) (A6 : Int → Int → Int → Option Bool) : Nat → Int → Int → Int → Int → Int → Option Bool
 | 0, _, _, _, _, _ => none
 | k + 1, x11, x12, x13, x14, x15 => qb.b13 l gen A6 (qb.l13 qa l gen A6 k) (qb.l7 qa l gen A6 qa) x11 x12 x13 x14 x15
def qb.s28 (l : List
 ((Int × Int × List Int × LR) ×
  Int × Int × Int × Bool)) (gen : Int) (x57 : Int) (x58 : Int) (x59 : Int) (x60 : Int) (x61 : Int) (x62 : Int) (x63 : Int) (x64 : (List ((Int × Int) × (Int × Int)))) : St := ⟨[.d (.sl (.pair (.pair tQi (.pair tQi (.pair (.sl (.int .u8)) (.sl tQr)))) (.pair tQi (.pair tQi (.pair tQi .bool))))) (l), .d tQi (gen), dD, dD, dD, .d tQi x57, .d tQi x58, .dead, .dead, .row 64, .d tQi x59, .d tQi x60, .d tQi x61, .d tQi x62, .d tQi x63, dD, dD, dD, dD, dD, dD, dD, dD, dD, dD, dD, dD, dD, dD, dD, dD, dD, dD, dD, dD, dD, dD, dD, dD, dD, dD, dD, dD, dD, dD, dD, dD, dD, dD, dD, dD, dD, dD, dD, dD, dD, dD, dD, dD, dD, dD, dD, dD, dD, dD, dD, dD, dD, dD, dD, dD, dD, dD, dD, dD, dD, dD, dD, dD, dD, dD, dD, dD, dD, dD, dD, dD, dD, dD, dD, dD, dD, dD, dD, dD, dD, dD, dD, dD, dD, dD, dD, dD, dD, dD, dD, dD, dD, dD, dD, dD, dD, dD, dD, dD, dD, dD, dD, dD, dD, dD, dD, dD, dD, dD, dD, dD, dD, dD, dD, dD, dD, dD, dD, dD, dD, dD, dD, dD, dD, dD, dD, dD, dD, dD, dD, dD, dD, dD, dD, dD, dD, dD, dD, dD, dD, dD, dD, dD, dD, dD, dD, dD, dD, dD, dD, dD, dD, dD, dD, dD, dD, dD, dD, dD, dD, dD, dD, dD, dD, dD, dD, dD, dD, dD, dD, dD, dD, dD, dD, dD, dD, dD, dD, dD, dD, dD, dD, dD, dD, dD, dD, dD, dD, dD, dD, dD, dD, dD, dD, dD, dD, dD, dD, dD, dD, dD, .dead], ofL [(64, .row 37 (.pair (.pair tQi tQi) (.pair tQi tQi)) x64 false)], 0⟩
def qb.p28 (qa : Nat) (l : List
 ((Int × Int × List Int × LR) ×
  Int × Int × Int × Bool)) (gen : Int) (k20 k27 : Nat) (k : Nat) := fun x57 x58 x59 x60 x61 x62 x63 x64 => lp zY qa Tryz.f3 [.raw] 0 qb.k 28 [k20, k27] k (qb.s28 l gen x57 x58 x59 x60 x61 x62 x63 x64)
def qb.b28 (l : List
 ((Int × Int × List Int × LR) ×
  Int × Int × Int × Bool)) (gen : Int) (A20 : Int → Int → Int → Int → (List ((Int × Int) × (Int × Int))) → Option Bool) (A27 : Int → Int → Int → Int → Int → Int → Int → (List ((Int × Int) × (Int × Int))) → Option Bool) (A28 : Int → Int → Int → Int → Int → Int → Int → (List ((Int × Int) × (Int × Int))) → Option Bool) (x57 : Int) (x58 : Int) (x59 : Int) (x60 : Int) (x61 : Int) (x62 : Int) (x63 : Int) (x64 : (List ((Int × Int) × (Int × Int)))) : Option Bool :=
 A27 x57 x58 x59 x60 x61 x62 (IntKind.wrap .i64 (x63 + (1 : Int))) x64
def qb.l28 (qa : Nat) (l : List
 ((Int × Int × List Int × LR) ×
  Int × Int × Int × Bool)) (gen : Int) (A20 : Int → Int → Int → Int → (List ((Int × Int) × (Int × Int))) → Option Bool) (A27 : Int → Int → Int → Int → Int → Int → Int → (List ((Int × Int) × (Int × Int))) → Option Bool) : Nat → Int → Int → Int → Int → Int → Int → Int → (List ((Int × Int) × (Int × Int))) → Option Bool
 | 0, _, _, _, _, _, _, _, _ => none
 | k + 1, x57, x58, x59, x60, x61, x62, x63, x64 => qb.b28 l gen A20 A27 (qb.l28 qa l gen A20 A27 k) x57 x58 x59 x60 x61 x62 x63 x64
def qb.s21 (l : List
 ((Int × Int × List Int × LR) ×
  Int × Int × Int × Bool)) (gen : Int) (x75 : Int) (x76 : Int) (x77 : Int) (x78 : Int) (x79 : (List ((Int × Int) × (Int × Int)))) : St := ⟨[.d (.sl (.pair (.pair tQi (.pair tQi (.pair (.sl (.int .u8)) (.sl tQr)))) (.pair tQi (.pair tQi (.pair tQi .bool))))) (l), .d tQi (gen), dD, dD, dD, .d tQi x75, .d tQi x76, .dead, .dead, .row 64, .d tQi x77, .d tQi x78, dD, dD, dD, dD, dD, dD, dD, dD, dD, dD, dD, dD, dD, dD, dD, dD, dD, dD, dD, dD, dD, dD, dD, dD, dD, dD, dD, dD, dD, dD, dD, dD, dD, dD, dD, dD, dD, dD, dD, dD, dD, dD, dD, dD, dD, dD, dD, dD, dD, dD, dD, dD, dD, dD, dD, dD, dD, dD, dD, dD, dD, dD, dD, dD, dD, dD, dD, dD, dD, dD, dD, dD, dD, dD, dD, dD, dD, dD, dD, dD, dD, dD, dD, dD, dD, dD, dD, dD, dD, dD, dD, dD, dD, dD, dD, dD, dD, dD, dD, dD, dD, dD, dD, dD, dD, dD, dD, dD, dD, dD, dD, dD, dD, dD, dD, dD, dD, dD, dD, dD, dD, dD, dD, dD, dD, dD, dD, dD, dD, dD, dD, dD, dD, dD, dD, dD, dD, dD, dD, dD, dD, dD, dD, dD, dD, dD, dD, dD, dD, dD, dD, dD, dD, dD, dD, dD, dD, dD, dD, dD, dD, dD, dD, dD, dD, dD, dD, dD, dD, dD, dD, dD, dD, dD, dD, dD, dD, dD, dD, dD, dD, dD, dD, dD, dD, dD, dD, dD, dD, dD, dD, dD, dD, dD, dD, dD, dD, dD, dD, dD, dD, dD, dD, dD, dD, .dead], ofL [(64, .row 37 (.pair (.pair tQi tQi) (.pair tQi tQi)) x79 false)], 0⟩
def qb.p21 (qa : Nat) (l : List
 ((Int × Int × List Int × LR) ×
  Int × Int × Int × Bool)) (gen : Int) (k20 : Nat) (k : Nat) := fun x75 x76 x77 x78 x79 => lp zY qa Tryz.f3 [.raw] 0 qb.k 21 [k20] k (qb.s21 l gen x75 x76 x77 x78 x79)
def qb.b21 (l : List
 ((Int × Int × List Int × LR) ×
  Int × Int × Int × Bool)) (gen : Int) (A20 : Int → Int → Int → Int → (List ((Int × Int) × (Int × Int))) → Option Bool) (A21 : Int → Int → Int → Int → (List ((Int × Int) × (Int × Int))) → Option Bool) (x75 : Int) (x76 : Int) (x77 : Int) (x78 : Int) (x79 : (List ((Int × Int) × (Int × Int)))) : Option Bool :=
 A20 x75 x76 x77 (IntKind.wrap .i64 (x78 + (1 : Int))) x79
def qb.l21 (qa : Nat) (l : List
 ((Int × Int × List Int × LR) ×
  Int × Int × Int × Bool)) (gen : Int) (A20 : Int → Int → Int → Int → (List ((Int × Int) × (Int × Int))) → Option Bool) : Nat → Int → Int → Int → Int → (List ((Int × Int) × (Int × Int))) → Option Bool
 | 0, _, _, _, _, _ => none
 | k + 1, x75, x76, x77, x78, x79 => qb.b21 l gen A20 (qb.l21 qa l gen A20 k) x75 x76 x77 x78 x79
def qb.s34 (l : List
 ((Int × Int × List Int × LR) ×
  Int × Int × Int × Bool)) (gen : Int) (x69 : Int) (x70 : Int) (x71 : Int) (x72 : Int) (x73 : Int) (x74 : (List ((Int × Int) × (Int × Int)))) : St := ⟨[.d (.sl (.pair (.pair tQi (.pair tQi (.pair (.sl (.int .u8)) (.sl tQr)))) (.pair tQi (.pair tQi (.pair tQi .bool))))) (l), .d tQi (gen), dD, dD, dD, .d tQi x69, .d tQi x70, .dead, .dead, .row 64, .d tQi x71, .d tQi x72, .d tQi x73, dD, dD, dD, dD, dD, dD, dD, dD, dD, dD, dD, dD, dD, dD, dD, dD, dD, dD, dD, dD, dD, dD, dD, dD, dD, dD, dD, dD, dD, dD, dD, dD, dD, dD, dD, dD, dD, dD, dD, dD, dD, dD, dD, dD, dD, dD, dD, dD, dD, dD, dD, dD, dD, dD, dD, dD, dD, dD, dD, dD, dD, dD, dD, dD, dD, dD, dD, dD, dD, dD, dD, dD, dD, dD, dD, dD, dD, dD, dD, dD, dD, dD, dD, dD, dD, dD, dD, dD, dD, dD, dD, dD, dD, dD, dD, dD, dD, dD, dD, dD, dD, dD, dD, dD, dD, dD, dD, dD, dD, dD, dD, dD, dD, dD, dD, dD, dD, dD, dD, dD, dD, dD, dD, dD, dD, dD, dD, dD, dD, dD, dD, dD, dD, dD, dD, dD, dD, dD, dD, dD, dD, dD, dD, dD, dD, dD, dD, dD, dD, dD, dD, dD, dD, dD, dD, dD, dD, dD, dD, dD, dD, dD, dD, dD, dD, dD, dD, dD, dD, dD, dD, dD, dD, dD, dD, dD, dD, dD, dD, dD, dD, dD, dD, dD, dD, dD, dD, dD, dD, dD, dD, dD, dD, dD, dD, dD, dD, dD, dD, dD, dD, dD, dD, dD, .dead], ofL [(64, .row 37 (.pair (.pair tQi tQi) (.pair tQi tQi)) x74 false)], 0⟩
def qb.p34 (qa : Nat) (l : List
 ((Int × Int × List Int × LR) ×
  Int × Int × Int × Bool)) (gen : Int) (k20 : Nat) (k : Nat) := fun x69 x70 x71 x72 x73 x74 => lp zY qa Tryz.f3 [.raw] 0 qb.k 34 [k20] k (qb.s34 l gen x69 x70 x71 x72 x73 x74)
def qb.b34 (l : List
 ((Int × Int × List Int × LR) ×
  Int × Int × Int × Bool)) (gen : Int) (A20 : Int → Int → Int → Int → (List ((Int × Int) × (Int × Int))) → Option Bool) (A34 : Int → Int → Int → Int → Int → (List ((Int × Int) × (Int × Int))) → Option Bool) (E21 : Int → Int → Int → Int → (List ((Int × Int) × (Int × Int))) → Option Bool) (x69 : Int) (x70 : Int) (x71 : Int) (x72 : Int) (x73 : Int) (x74 : (List ((Int × Int) × (Int × Int)))) : Option Bool :=
 E21 x69 x70 (IntKind.wrap .i64 (x71 + x73)) x72 x74
def qb.l34 (qa : Nat) (l : List
 ((Int × Int × List Int × LR) ×
  Int × Int × Int × Bool)) (gen : Int) (A20 : Int → Int → Int → Int → (List ((Int × Int) × (Int × Int))) → Option Bool) : Nat → Int → Int → Int → Int → Int → (List ((Int × Int) × (Int × Int))) → Option Bool
 | 0, _, _, _, _, _, _ => none
 | k + 1, x69, x70, x71, x72, x73, x74 => qb.b34 l gen A20 (qb.l34 qa l gen A20 k) (qb.l21 qa l gen A20 qa) x69 x70 x71 x72 x73 x74
def qb.s27 (l : List
 ((Int × Int × List Int × LR) ×
  Int × Int × Int × Bool)) (gen : Int) (x41 : Int) (x42 : Int) (x43 : Int) (x44 : Int) (x45 : Int) (x46 : Int) (x47 : Int) (x48 : (List ((Int × Int) × (Int × Int)))) : St := ⟨[.d (.sl (.pair (.pair tQi (.pair tQi (.pair (.sl (.int .u8)) (.sl tQr)))) (.pair tQi (.pair tQi (.pair tQi .bool))))) (l), .d tQi (gen), dD, dD, dD, .d tQi x41, .d tQi x42, .dead, .dead, .row 64, .d tQi x43, .d tQi x44, .d tQi x45, .d tQi x46, .d tQi x47, dD, dD, dD, dD, dD, dD, dD, dD, dD, dD, dD, dD, dD, dD, dD, dD, dD, dD, dD, dD, dD, dD, dD, dD, dD, dD, dD, dD, dD, dD, dD, dD, dD, dD, dD, dD, dD, dD, dD, dD, dD, dD, dD, dD, dD, dD, dD, dD, dD, dD, dD, dD, dD, dD, dD, dD, dD, dD, dD, dD, dD, dD, dD, dD, dD, dD, dD, dD, dD, dD, dD, dD, dD, dD, dD, dD, dD, dD, dD, dD, dD, dD, dD, dD, dD, dD, dD, dD, dD, dD, dD, dD, dD, dD, dD, dD, dD, dD, dD, dD, dD, dD, dD, dD, dD, dD, dD, dD, dD, dD, dD, dD, dD, dD, dD, dD, dD, dD, dD, dD, dD, dD, dD, dD, dD, dD, dD, dD, dD, dD, dD, dD, dD, dD, dD, dD, dD, dD, dD, dD, dD, dD, dD, dD, dD, dD, dD, dD, dD, dD, dD, dD, dD, dD, dD, dD, dD, dD, dD, dD, dD, dD, dD, dD, dD, dD, dD, dD, dD, dD, dD, dD, dD, dD, dD, dD, dD, dD, dD, dD, dD, dD, dD, dD, dD, dD, dD, dD, dD, dD, dD, dD, dD, dD, dD, dD, dD, dD, dD, dD, dD, dD, .dead], ofL [(64, .row 37 (.pair (.pair tQi tQi) (.pair tQi tQi)) x48 false)], 0⟩
def qb.p27 (qa : Nat) (l : List
 ((Int × Int × List Int × LR) ×
  Int × Int × Int × Bool)) (gen : Int) (k20 : Nat) (k : Nat) := fun x41 x42 x43 x44 x45 x46 x47 x48 => lp zY qa Tryz.f3 [.raw] 0 qb.k 27 [k20] k (qb.s27 l gen x41 x42 x43 x44 x45 x46 x47 x48)
def qb.b27 (l : List
 ((Int × Int × List Int × LR) ×
  Int × Int × Int × Bool)) (gen : Int) (A20 : Int → Int → Int → Int → (List ((Int × Int) × (Int × Int))) → Option Bool) (A27 : Int → Int → Int → Int → Int → Int → Int → (List ((Int × Int) × (Int × Int))) → Option Bool) (E28 : Int → Int → Int → Int → Int → Int → Int → (List ((Int × Int) × (Int × Int))) → Option Bool) (E34 : Int → Int → Int → Int → Int → (List ((Int × Int) × (Int × Int))) → Option Bool) (x41 : Int) (x42 : Int) (x43 : Int) (x44 : Int) (x45 : Int) (x46 : Int) (x47 : Int) (x48 : (List ((Int × Int) × (Int × Int)))) : Option Bool :=
 (if (decide (x47 < ((((List.length l)) : Nat) : Int))) then (match (idx l x47) with | none => none | some y49 => (match (idx x48 x44) with | none => none | some y50 => (match (idx x48 x44) with | none => none | some y51 => (if (y49.1.2.1 == y51.1.1) then (match (idx l x47) with | none => none | some y52 => (match (veil (QR.f BIG y52.1.1 y52.1.2.1 y52.1.2.2.1 y52.1.2.2.2 y52.2.1 y52.2.2.1 y52.2.2.2.1 y52.2.2.2.2)) with | none => none | some y53 => (match (idx x48 x44) with | none => none | some y54 => (match (idx x48 x44) with | none => none | some y55 => (if (y53 == y55.1.2) then (match (idx l x47) with | none => none | some y56 => E28 x41 x42 x43 x44 (IntKind.wrap .i64 (x45 + (1 : Int))) (IntKind.wrap .i64 (x46 + ((((List.length y56.1.2.2.1)) : Nat) : Int))) x47 x48) else E28 x41 x42 x43 x44 x45 x46 x47 x48))))) else E28 x41 x42 x43 x44 x45 x46 x47 x48)))) else (if (x45 == (0 : Int)) then some (false) else (match (idx x48 x44) with | none => none | some y65 => (match (idx x48 x44) with | none => none | some y66 => (if (y66.2.1 != x45) then some (false) else (match (idx x48 x44) with | none => none | some y67 => (match (idx x48 x44) with | none => none | some y68 => (if (y68.2.2 != x46) then some (false) else E34 x41 x42 x43 x44 x45 x48))))))))
def qb.l27 (qa : Nat) (l : List
 ((Int × Int × List Int × LR) ×
  Int × Int × Int × Bool)) (gen : Int) (A20 : Int → Int → Int → Int → (List ((Int × Int) × (Int × Int))) → Option Bool) : Nat → Int → Int → Int → Int → Int → Int → Int → (List ((Int × Int) × (Int × Int))) → Option Bool
 | 0, _, _, _, _, _, _, _, _ => none
 | k + 1, x41, x42, x43, x44, x45, x46, x47, x48 => qb.b27 l gen A20 (qb.l27 qa l gen A20 k) (qb.l28 qa l gen A20 (qb.l27 qa l gen A20 k) qa) (qb.l34 qa l gen A20 qa) x41 x42 x43 x44 x45 x46 x47 x48
def qb.s24 (l : List
 ((Int × Int × List Int × LR) ×
  Int × Int × Int × Bool)) (gen : Int) (x36 : Int) (x37 : Int) (x38 : Int) (x39 : Int) (x40 : (List ((Int × Int) × (Int × Int)))) : St := ⟨[.d (.sl (.pair (.pair tQi (.pair tQi (.pair (.sl (.int .u8)) (.sl tQr)))) (.pair tQi (.pair tQi (.pair tQi .bool))))) (l), .d tQi (gen), dD, dD, dD, .d tQi x36, .d tQi x37, .dead, .dead, .row 64, .d tQi x38, .d tQi x39, dD, dD, dD, dD, dD, dD, dD, dD, dD, dD, dD, dD, dD, dD, dD, dD, dD, dD, dD, dD, dD, dD, dD, dD, dD, dD, dD, dD, dD, dD, dD, dD, dD, dD, dD, dD, dD, dD, dD, dD, dD, dD, dD, dD, dD, dD, dD, dD, dD, dD, dD, dD, dD, dD, dD, dD, dD, dD, dD, dD, dD, dD, dD, dD, dD, dD, dD, dD, dD, dD, dD, dD, dD, dD, dD, dD, dD, dD, dD, dD, dD, dD, dD, dD, dD, dD, dD, dD, dD, dD, dD, dD, dD, dD, dD, dD, dD, dD, dD, dD, dD, dD, dD, dD, dD, dD, dD, dD, dD, dD, dD, dD, dD, dD, dD, dD, dD, dD, dD, dD, dD, dD, dD, dD, dD, dD, dD, dD, dD, dD, dD, dD, dD, dD, dD, dD, dD, dD, dD, dD, dD, dD, dD, dD, dD, dD, dD, dD, dD, dD, dD, dD, dD, dD, dD, dD, dD, dD, dD, dD, dD, dD, dD, dD, dD, dD, dD, dD, dD, dD, dD, dD, dD, dD, dD, dD, dD, dD, dD, dD, dD, dD, dD, dD, dD, dD, dD, dD, dD, dD, dD, dD, dD, dD, dD, dD, dD, dD, dD, dD, dD, dD, dD, dD, dD, .dead], ofL [(64, .row 37 (.pair (.pair tQi tQi) (.pair tQi tQi)) x40 false)], 0⟩
def qb.p24 (qa : Nat) (l : List
 ((Int × Int × List Int × LR) ×
  Int × Int × Int × Bool)) (gen : Int) (k20 : Nat) (k : Nat) := fun x36 x37 x38 x39 x40 => lp zY qa Tryz.f3 [.raw] 0 qb.k 24 [k20] k (qb.s24 l gen x36 x37 x38 x39 x40)
def qb.b24 (l : List
 ((Int × Int × List Int × LR) ×
  Int × Int × Int × Bool)) (gen : Int) (A20 : Int → Int → Int → Int → (List ((Int × Int) × (Int × Int))) → Option Bool) (A24 : Int → Int → Int → Int → (List ((Int × Int) × (Int × Int))) → Option Bool) (E27 : Int → Int → Int → Int → Int → Int → Int → (List ((Int × Int) × (Int × Int))) → Option Bool) (x36 : Int) (x37 : Int) (x38 : Int) (x39 : Int) (x40 : (List ((Int × Int) × (Int × Int)))) : Option Bool :=
 E27 x36 x37 x38 x39 (0 : Int) (0 : Int) (0 : Int) x40
def qb.l24 (qa : Nat) (l : List
 ((Int × Int × List Int × LR) ×
  Int × Int × Int × Bool)) (gen : Int) (A20 : Int → Int → Int → Int → (List ((Int × Int) × (Int × Int))) → Option Bool) : Nat → Int → Int → Int → Int → (List ((Int × Int) × (Int × Int))) → Option Bool
 | 0, _, _, _, _, _ => none
 | k + 1, x36, x37, x38, x39, x40 => qb.b24 l gen A20 (qb.l24 qa l gen A20 k) (qb.l27 qa l gen A20 qa) x36 x37 x38 x39 x40
def qb.s20 (l : List
 ((Int × Int × List Int × LR) ×
  Int × Int × Int × Bool)) (gen : Int) (x19 : Int) (x20 : Int) (x21 : Int) (x22 : Int) (x23 : (List ((Int × Int) × (Int × Int)))) : St := ⟨[.d (.sl (.pair (.pair tQi (.pair tQi (.pair (.sl (.int .u8)) (.sl tQr)))) (.pair tQi (.pair tQi (.pair tQi .bool))))) (l), .d tQi (gen), dD, dD, dD, .d tQi x19, .d tQi x20, .dead, .dead, .row 64, .d tQi x21, .d tQi x22, dD, dD, dD, dD, dD, dD, dD, dD, dD, dD, dD, dD, dD, dD, dD, dD, dD, dD, dD, dD, dD, dD, dD, dD, dD, dD, dD, dD, dD, dD, dD, dD, dD, dD, dD, dD, dD, dD, dD, dD, dD, dD, dD, dD, dD, dD, dD, dD, dD, dD, dD, dD, dD, dD, dD, dD, dD, dD, dD, dD, dD, dD, dD, dD, dD, dD, dD, dD, dD, dD, dD, dD, dD, dD, dD, dD, dD, dD, dD, dD, dD, dD, dD, dD, dD, dD, dD, dD, dD, dD, dD, dD, dD, dD, dD, dD, dD, dD, dD, dD, dD, dD, dD, dD, dD, dD, dD, dD, dD, dD, dD, dD, dD, dD, dD, dD, dD, dD, dD, dD, dD, dD, dD, dD, dD, dD, dD, dD, dD, dD, dD, dD, dD, dD, dD, dD, dD, dD, dD, dD, dD, dD, dD, dD, dD, dD, dD, dD, dD, dD, dD, dD, dD, dD, dD, dD, dD, dD, dD, dD, dD, dD, dD, dD, dD, dD, dD, dD, dD, dD, dD, dD, dD, dD, dD, dD, dD, dD, dD, dD, dD, dD, dD, dD, dD, dD, dD, dD, dD, dD, dD, dD, dD, dD, dD, dD, dD, dD, dD, dD, dD, dD, dD, dD, dD, .dead], ofL [(64, .row 37 (.pair (.pair tQi tQi) (.pair tQi tQi)) x23 false)], 0⟩
def qb.p20 (qa : Nat) (l : List
 ((Int × Int × List Int × LR) ×
  Int × Int × Int × Bool)) (gen : Int) (k : Nat) := fun x19 x20 x21 x22 x23 => lp zY qa Tryz.f3 [.raw] 0 qb.k 20 [] k (qb.s20 l gen x19 x20 x21 x22 x23)
def qb.b20 (l : List
 ((Int × Int × List Int × LR) ×
  Int × Int × Int × Bool)) (gen : Int) (A20 : Int → Int → Int → Int → (List ((Int × Int) × (Int × Int))) → Option Bool) (E24 : Int → Int → Int → Int → (List ((Int × Int) × (Int × Int))) → Option Bool) (x19 : Int) (x20 : Int) (x21 : Int) (x22 : Int) (x23 : (List ((Int × Int) × (Int × Int)))) : Option Bool :=
 (if (decide (x22 < ((((List.length x23)) : Nat) : Int))) then (if (decide (x22 > (0 : Int))) then (match (idx x23 x22) with | none => none | some y24 => (match (idx x23 x22) with | none => none | some y25 => (match (idx x23 (IntKind.wrap .i64 (x22 - (1 : Int)))) with | none => none | some y26 => (match (idx x23 (IntKind.wrap .i64 (x22 - (1 : Int)))) with | none => none | some y27 => (if (decide (y25.1.1 < y27.1.1)) then some (false) else (match (idx x23 x22) with | none => none | some y28 => (match (idx x23 x22) with | none => none | some y29 => (match (idx x23 (IntKind.wrap .i64 (x22 - (1 : Int)))) with | none => none | some y30 => (match (idx x23 (IntKind.wrap .i64 (x22 - (1 : Int)))) with | none => none | some y31 => (if (y29.1.1 == y31.1.1) then (match (idx x23 x22) with | none => none | some y32 => (match (idx x23 x22) with | none => none | some y33 => (match (idx x23 (IntKind.wrap .i64 (x22 - (1 : Int)))) with | none => none | some y34 => (match (idx x23 (IntKind.wrap .i64 (x22 - (1 : Int)))) with | none => none | some y35 => (if (decide (y33.1.2 ≤ y35.1.2)) then some (false) else E24 x19 x20 x21 x22 x23))))) else E24 x19 x20 x21 x22 x23)))))))))) else E24 x19 x20 x21 x22 x23) else (if (x21 != ((((List.length l)) : Nat) : Int)) then some (false) else (if (x19 == (0 : Int)) then (match (veil (qX.f BIG l gen)) with | none => none | some y80 => (if (y80 == (0 : Int)) then (match (veil (zZ.f BIG ())) with | none => none | some y81 => some (y81)) else some (false))) else (match (veil (qX.f BIG l gen)) with | none => none | some y82 => (if (x19 = (0 : Int)) then none else (if (y82 == (IntKind.wrap .i64 (Int.tdiv (IntKind.wrap .i64 ((1000 : Int) * x20)) x19))) then (match (veil (zZ.f BIG ())) with | none => none | some y83 => some (y83)) else some (false)))))))
def qb.l20 (qa : Nat) (l : List
 ((Int × Int × List Int × LR) ×
  Int × Int × Int × Bool)) (gen : Int) : Nat → Int → Int → Int → Int → (List ((Int × Int) × (Int × Int))) → Option Bool
 | 0, _, _, _, _, _ => none
 | k + 1, x19, x20, x21, x22, x23 => qb.b20 l gen (qb.l20 qa l gen k) (qb.l24 qa l gen (qb.l20 qa l gen k) qa) x19 x20 x21 x22 x23
def qb.s6 (l : List
 ((Int × Int × List Int × LR) ×
  Int × Int × Int × Bool)) (gen : Int) (x1 : Int) (x2 : Int) (x3 : Int) : St := ⟨[.d (.sl (.pair (.pair tQi (.pair tQi (.pair (.sl (.int .u8)) (.sl tQr)))) (.pair tQi (.pair tQi (.pair tQi .bool))))) (l), .d tQi (gen), dD, dD, dD, .d tQi x1, .d tQi x2, .d tQi x3, dD, dD, dD, dD, dD, dD, dD, dD, dD, dD, dD, dD, dD, dD, dD, dD, dD, dD, dD, dD, dD, dD, dD, dD, dD, dD, dD, dD, dD, dD, dD, dD, dD, dD, dD, dD, dD, dD, dD, dD, dD, dD, dD, dD, dD, dD, dD, dD, dD, dD, dD, dD, dD, dD, dD, dD, dD, dD, dD, dD, dD, dD, dD, dD, dD, dD, dD, dD, dD, dD, dD, dD, dD, dD, dD, dD, dD, dD, dD, dD, dD, dD, dD, dD, dD, dD, dD, dD, dD, dD, dD, dD, dD, dD, dD, dD, dD, dD, dD, dD, dD, dD, dD, dD, dD, dD, dD, dD, dD, dD, dD, dD, dD, dD, dD, dD, dD, dD, dD, dD, dD, dD, dD, dD, dD, dD, dD, dD, dD, dD, dD, dD, dD, dD, dD, dD, dD, dD, dD, dD, dD, dD, dD, dD, dD, dD, dD, dD, dD, dD, dD, dD, dD, dD, dD, dD, dD, dD, dD, dD, dD, dD, dD, dD, dD, dD, dD, dD, dD, dD, dD, dD, dD, dD, dD, dD, dD, dD, dD, dD, dD, dD, dD, dD, dD, dD, dD, dD, dD, dD, dD, dD, dD, dD, dD, dD, dD, dD, dD, dD, dD, dD, dD, dD, dD, dD, dD, dD, dD, .dead], ofL [], 0⟩
def qb.p6 (qa : Nat) (l : List
 ((Int × Int × List Int × LR) ×
  Int × Int × Int × Bool)) (gen : Int) (k : Nat) := fun x1 x2 x3 => lp zY qa Tryz.f3 [.raw] 0 qb.k 6 [] k (qb.s6 l gen x1 x2 x3)
def qb.b6 (l : List
 ((Int × Int × List Int × LR) ×
  Int × Int × Int × Bool)) (gen : Int) (A6 : Int → Int → Int → Option Bool) (E13 : Int → Int → Int → Int → Int → Option Bool) (E20 : Int → Int → Int → Int → (List ((Int × Int) × (Int × Int))) → Option Bool) (x1 : Int) (x2 : Int) (x3 : Int) : Option Bool :=
 (if (decide (x3 < ((((List.length l)) : Nat) : Int))) then (match (idx l x3) with | none => none | some y4 => (if (decide (((((List.length y4.1.2.2.1)) : Nat) : Int) > (2000 : Int))) then (match (veil (zZ.f BIG ())) with | none => none | some y5 => some (y5)) else (match (idx l x3) with | none => none | some y6 => (match (veil (Q9.f BIG y6.1.1 y6.1.2.1 y6.1.2.2.1 y6.1.2.2.2 y6.2.1 y6.2.2.1 y6.2.2.2.1 y6.2.2.2.2)) with | none => none | some y7 => (match (idx l x3) with | none => none | some y8 => (if (y7.1 != y8.1.2.1) then some (false) else (match (idx l x3) with | none => none | some y9 => (match (veil (QR.f BIG y9.1.1 y9.1.2.1 y9.1.2.2.1 y9.1.2.2.2 y9.2.1 y9.2.2.1 y9.2.2.2.1 y9.2.2.2.2)) with | none => none | some y10 => (if (y7.2 != y10) then some (false) else E13 x1 x2 x3 y7.1 y7.2))))))))) else (if (okL l) then E20 x1 x2 (0 : Int) (0 : Int) (Qa l) else none))
def qb.l6 (qa : Nat) (l : List
 ((Int × Int × List Int × LR) ×
  Int × Int × Int × Bool)) (gen : Int) : Nat → Int → Int → Int → Option Bool
 | 0, _, _, _ => none
 | k + 1, x1, x2, x3 => qb.b6 l gen (qb.l6 qa l gen k) (qb.l13 qa l gen (qb.l6 qa l gen k) qa) (qb.l20 qa l gen qa) x1 x2 x3
def qb.b (l : List
 ((Int × Int × List Int × LR) ×
  Int × Int × Int × Bool)) (gen : Int) (E6 : Int → Int → Int → Option Bool) : Option Bool :=
 (if (decide (((((List.length l)) : Nat) : Int) > (30 : Int))) then (match (veil (zZ.f BIG ())) with | none => none | some y0 => some (y0)) else E6 (0 : Int) (0 : Int) (0 : Int))
def qb.f (qa : Nat) (l : List
 ((Int × Int × List Int × LR) ×
  Int × Int × Int × Bool)) (gen : Int) : Option Bool := qb.b l gen (qb.l6 qa l gen qa)
theorem qb.l7_eq (qa : Nat) (l : List
 ((Int × Int × List Int × LR) ×
  Int × Int × Int × Bool)) (gen : Int) (k6 : Nat) : ∀ k : Nat, qb.p7 qa l gen k6 k = qb.l7 qa l gen (qb.p6 qa l gen k6) k
 | 0 => by kernel_rfl
 | k + 1 => by
  refine Eq.trans (b := qb.b7 l gen (qb.p6 qa l gen k6) (qb.p7 qa l gen k6 k)) (by kernel_rfl) ?_
  rw [qb.l7_eq qa l gen k6 k]
  kernel_rfl
theorem qb.l13_eq (qa : Nat) (l : List
 ((Int × Int × List Int × LR) ×
  Int × Int × Int × Bool)) (gen : Int) (k6 : Nat) : ∀ k : Nat, qb.p13 qa l gen k6 k = qb.l13 qa l gen (qb.p6 qa l gen k6) k
 | 0 => by kernel_rfl
 | k + 1 => by
  refine Eq.trans (b := qb.b13 l gen (qb.p6 qa l gen k6) (qb.p13 qa l gen k6 k) (qb.p7 qa l gen k6 qa)) (by kernel_rfl) ?_
  rw [qb.l13_eq qa l gen k6 k, qb.l7_eq qa l gen k6 qa]
  kernel_rfl
theorem qb.l28_eq (qa : Nat) (l : List
 ((Int × Int × List Int × LR) ×
  Int × Int × Int × Bool)) (gen : Int) (k20 k27 : Nat) : ∀ k : Nat, qb.p28 qa l gen k20 k27 k = qb.l28 qa l gen (qb.p20 qa l gen k20) (qb.p27 qa l gen k20 k27) k
 | 0 => by kernel_rfl
 | k + 1 => by
  refine Eq.trans (b := qb.b28 l gen (qb.p20 qa l gen k20) (qb.p27 qa l gen k20 k27) (qb.p28 qa l gen k20 k27 k)) (by kernel_rfl) ?_
  rw [qb.l28_eq qa l gen k20 k27 k]
  kernel_rfl
theorem qb.l21_eq (qa : Nat) (l : List
 ((Int × Int × List Int × LR) ×
  Int × Int × Int × Bool)) (gen : Int) (k20 : Nat) : ∀ k : Nat, qb.p21 qa l gen k20 k = qb.l21 qa l gen (qb.p20 qa l gen k20) k
 | 0 => by kernel_rfl
 | k + 1 => by
  refine Eq.trans (b := qb.b21 l gen (qb.p20 qa l gen k20) (qb.p21 qa l gen k20 k)) (by kernel_rfl) ?_
  rw [qb.l21_eq qa l gen k20 k]
  kernel_rfl
theorem qb.l34_eq (qa : Nat) (l : List
 ((Int × Int × List Int × LR) ×
  Int × Int × Int × Bool)) (gen : Int) (k20 : Nat) : ∀ k : Nat, qb.p34 qa l gen k20 k = qb.l34 qa l gen (qb.p20 qa l gen k20) k
 | 0 => by kernel_rfl
 | k + 1 => by
  refine Eq.trans (b := qb.b34 l gen (qb.p20 qa l gen k20) (qb.p34 qa l gen k20 k) (qb.p21 qa l gen k20 qa)) (by kernel_rfl) ?_
  rw [qb.l34_eq qa l gen k20 k, qb.l21_eq qa l gen k20 qa]
  kernel_rfl
theorem qb.l27_eq (qa : Nat) (l : List
 ((Int × Int × List Int × LR) ×
  Int × Int × Int × Bool)) (gen : Int) (k20 : Nat) : ∀ k : Nat, qb.p27 qa l gen k20 k = qb.l27 qa l gen (qb.p20 qa l gen k20) k
 | 0 => by kernel_rfl
 | k + 1 => by
  refine Eq.trans (b := qb.b27 l gen (qb.p20 qa l gen k20) (qb.p27 qa l gen k20 k) (qb.p28 qa l gen k20 k qa) (qb.p34 qa l gen k20 qa)) (by kernel_rfl) ?_
  rw [qb.l27_eq qa l gen k20 k, qb.l28_eq qa l gen k20 k qa, qb.l27_eq qa l gen k20 k, qb.l34_eq qa l gen k20 qa]
  kernel_rfl
theorem qb.l24_eq (qa : Nat) (l : List
 ((Int × Int × List Int × LR) ×
  Int × Int × Int × Bool)) (gen : Int) (k20 : Nat) : ∀ k : Nat, qb.p24 qa l gen k20 k = qb.l24 qa l gen (qb.p20 qa l gen k20) k
 | 0 => by kernel_rfl
 | k + 1 => by
  refine Eq.trans (b := qb.b24 l gen (qb.p20 qa l gen k20) (qb.p24 qa l gen k20 k) (qb.p27 qa l gen k20 qa)) (by kernel_rfl) ?_
  rw [qb.l24_eq qa l gen k20 k, qb.l27_eq qa l gen k20 qa]
  kernel_rfl
theorem qb.l20_eq (qa : Nat) (l : List
 ((Int × Int × List Int × LR) ×
  Int × Int × Int × Bool)) (gen : Int) : ∀ k : Nat, qb.p20 qa l gen k = qb.l20 qa l gen k
 | 0 => by kernel_rfl
 | k + 1 => by
  refine Eq.trans (b := qb.b20 l gen (qb.p20 qa l gen k) (qb.p24 qa l gen k qa)) (by kernel_rfl) ?_
  rw [qb.l20_eq qa l gen k, qb.l24_eq qa l gen k qa, qb.l20_eq qa l gen k]
  kernel_rfl
theorem qb.l6_eq (qa : Nat) (l : List
 ((Int × Int × List Int × LR) ×
  Int × Int × Int × Bool)) (gen : Int) : ∀ k : Nat, qb.p6 qa l gen k = qb.l6 qa l gen k
 | 0 => by kernel_rfl
 | k + 1 => by
  refine Eq.trans (b := qb.b6 l gen (qb.p6 qa l gen k) (qb.p13 qa l gen k qa) (qb.p20 qa l gen qa)) (by kernel_rfl) ?_
  rw [qb.l6_eq qa l gen k, qb.l13_eq qa l gen k qa, qb.l6_eq qa l gen k, qb.l20_eq qa l gen qa]
  kernel_rfl
theorem qb.eq (qa : Nat) (l : List
 ((Int × Int × List Int × LR) ×
  Int × Int × Int × Bool)) (gen : Int) : (denF zY loopN qa Tryz.f3 [.raw] [.d (.sl (.pair (.pair tQi (.pair tQi (.pair (.sl (.int .u8)) (.sl tQr)))) (.pair tQi (.pair tQi (.pair tQi .bool))))) l, .d tQi gen] [] qb.k) = qb.f qa l gen := by
 refine Eq.trans (b := qb.b l gen (qb.p6 qa l gen qa)) (by kernel_rfl) ?_
 rw [qb.l6_eq qa l gen qa]
 kernel_rfl
def qaR (b : List Int) : Int := if (qdr b 1 3).2.2.2.2.2.2.2.2.2.2.2.2.2 ≠ 0 then 0 else (qdr b 1 3).1
theorem TOf.pure (x : Zt) (hb : isB x.1.2.2.1) (hl : x.1.2.2.1.length ≤ 1000000) : qbl x = some (x.1.2.1, qaR x.1.2.2.1) := by
 unfold qbl Q9.f Q9.b qaR
 rw [Qi.pure _ _ _ hb hl]
 simp only [veil_eq]
 by_cases h : (qdr x.1.2.2.1 1 3).2.2.2.2.2.2.2.2.2.2.2.2.2 = 0
 ·rw [if_neg (by simpa using h), if_neg (by simpa using h)]
 ·rw [if_pos (by simpa using h), if_pos h]
theorem qoC.pure (x : Zt) (hb : isB x.1.2.2.1) (hl : x.1.2.2.1.length ≤ 1000000) : QR.f BIG x.1.1 x.1.2.1 x.1.2.2.1 x.1.2.2.2 x.2.1 x.2.2.1 x.2.2.2.1 x.2.2.2.2 = some (qaR x.1.2.2.1) := by
 unfold QR.f QR.b qaR
 rw [Qi.pure _ _ _ hb hl]
 simp only [veil_eq]
 by_cases h : (qdr x.1.2.2.1 1 3).2.2.2.2.2.2.2.2.2.2.2.2.2 = 0
 ·rw [if_neg (by simpa using h), if_neg (by simpa using h)]
 ·rw [if_pos (by simpa using h), if_pos h]
theorem qmR (gen : Int) (b : List Int) (hb : isB b) (hl : b.length < 1000000000) (h0 : qcd (Zb gen b) = 0) : 1 ≤ (Zb gen b).1 := by
 unfold Zb at h0 ⊢
 by_cases h3 : gen = 3
 ·rw [if_pos (by simp [h3])] at h0 ⊢
  unfold qgb at h0 ⊢
  cases hh : hdS b with
  | none => rw [hh] at h0; exact absurd h0 (by simp [qcd, z12])
  | some m =>
   obtain ⟨k, f, i, lo, hi, s, t, l, e, bb, a⟩ := m
   show 1 ≤ k
   unfold hdS at hh
   dsimp only at hh
   split at hh
   ·cases hh
   ·split at hh
    ·rename_i hv
     cases hh
     exact (Ql hv).1
    ·cases hh
 ·rw [if_neg (by simp [h3])] at h0 ⊢
  obtain ⟨hv, _⟩ := qnv (gen := gen) (b := b) (qc := []) hb hl h0
  exact (Ql hv).1
theorem qnD (b : List Int) (hb : isB b) (hl : b.length ≤ 1000000) : 0 ≤ qaR b := by
 obtain ⟨h1, h2⟩ := qh3 hb
 have key : 0 ≤ (qdr b 1 3).1 := by
  unfold qdr
  split
  ·exact Int.le_refl _
  ·split
   ·exact Int.le_refl _
   ·split
    ·exact Int.le_refl _
    ·split
     ·exact Int.le_refl _
     ·rename_i h _
      have := qmR (Qe b).1 (Qe b).2.1 h1 (by omega) (by simpa using h)
      show 0 ≤ (Zb (Qe b).1 (Qe b).2.1).1
      omega
 unfold qaR
 split
 ·exact Int.le_refl _
 ·exact key
theorem qjD (p : Int → Int → Bool) : ∀ a b : List qeI, QH p (a ++ b) = QH p a + QH p b
 | [], b => by simp [QH]
 | e :: a, b => by rw [List.cons_append, QH, QH, qjD p a b]; omega
theorem qfS (p : Int → Int → Bool) (L : List qeI) (i : Nat) (h : i < L.length) : QH p (L.take (i + 1)) = QH p (L.take i) + (if p L[i].1.1 L[i].1.2 = true then L[i].2.1 else 0) := by
 rw [List.take_succ_eq_append_getElem h, qjD]
 simp [QH]
theorem qe3 (p : Int → Int → Bool) (M : Int) : ∀ L : List qeI, (∀ r ∈ L, 0 ≤ r.2.1 ∧ r.2.1 ≤ M) → 0 ≤ QH p L ∧ QH p L ≤ M * L.length
 | [], _ => by simp [QH]
 | r :: L, h => by
  have ih := qe3 p M L fun x hx => h x (List.mem_cons_of_mem _ hx)
  have h1 := h r List.mem_cons_self
  have e : M * ((r :: L).length : Int) = M * (L.length : Int) + M := by rw [List.length_cons, Int.natCast_add, Int.mul_add]; simp
  rw [QH, e]
  split <;> omega
def p3 (g k : Int) : Bool := decide (3 < k)
def pin (gen g k : Int) : Bool := decide (3 < k) && g == gen
def qdW (all inn : Int) : Int := if all = 0 then 0 else Int.tdiv (inn * 1000) all
theorem qlr (qa : Nat) (l : List Zt) (gen : Int) (L : List qeI) (hL : L.length ≤ 1000) (hr : ∀ r ∈ L, (0 ≤ r.2.1 ∧ r.2.1 ≤ 1000) ∧ 0 ≤ r.1.2) : ∀ (n i k : Nat), i + n = L.length → n < k →
  qX.l3 qa l gen k (QH p3 (L.take i)) (QH (pin gen) (L.take i)) (L.length : Int) (i : Int) L = some (qdW (QH p3 L) (QH (pin gen) L)) := by
 intro n
 have hb := fun (p : Int → Int → Bool) (i : Nat) => qe3 p 1000 (L.take i) fun r h => (hr r (List.mem_of_mem_take h)).1
 have hb' : ∀ (p : Int → Int → Bool) (i : Nat), 0 ≤ QH p (L.take i) ∧ QH p (L.take i) ≤ 1000000 := fun p i => by
  have h1 := hb p i
  have h2 : (L.take i).length ≤ 1000 := by rw [List.length_take]; omega
  have h3 : (1000 : Int) * ((L.take i).length : Int) ≤ 1000000 := by omega
  omega
 induction n with
 | zero =>
  intro i k hi hk
  obtain ⟨k, rfl⟩ : ∃ k', k = k' + 1 := ⟨k - 1, by omega⟩
  rw [qX.l3]
  unfold qX.b3
  rw [if_neg (by rw [decide_eq_true_eq]; omega)]
  have ht : L.take i = L := List.take_of_length_le (by omega)
  have h1 := hb' p3 i
  have h2 := hb' (pin gen) i
  rw [ht] at h1 h2 ⊢
  unfold qdW
  by_cases h : QH p3 L = 0
  ·rw [if_pos (by simpa using h), if_pos h]
  ·rw [if_neg (by simpa using h), if_neg h, if_neg h, qK (QH (pin gen) L * 1000) (by omega) (by omega), qK]
   ·have := Int.tdiv_nonneg (a := QH (pin gen) L * 1000) (b := QH p3 L) (by omega) (by omega)
    omega
   ·have := Int.tdiv_le_self (a := QH (pin gen) L * 1000) (QH p3 L) (by omega)
    omega
 | succ n ih =>
  intro i k hi hk
  obtain ⟨k, rfl⟩ : ∃ k', k = k' + 1 := ⟨k - 1, by omega⟩
  rw [qX.l3]
  unfold qX.b3
  have hil : i < L.length := by omega
  have hri := hr _ (List.getElem_mem hil)
  have h1 := hb' p3 i
  have h2 := hb' (pin gen) i
  have next := ih (i + 1) k (by omega) (by omega)
  rw [qfS p3 L i hil, qfS (pin gen) L i hil] at next
  rw [if_pos (by rw [decide_eq_true_eq]; omega), Qn, List.getElem?_eq_getElem hil]
  simp only [veil_eq]
  rw [Qf.pure, qK ((i : Int) + 1) (by omega) (by omega), show ((i : Int) + 1) = ((i + 1 : Nat) : Int) by omega]
  simp only
  by_cases h0 : L[i].1.2 = 0
  ·rw [if_pos (by simpa using h0)]
   rw [if_neg (by unfold p3; rw [decide_eq_true_eq]; omega), if_neg (by unfold pin; rw [Bool.and_eq_true, decide_eq_true_eq]; omega), Int.add_zero, Int.add_zero] at next
   exact next
  rw [if_neg (by simpa using h0)]
  by_cases hg : 1 ≤ L[i].1.2 ∧ L[i].1.2 ≤ 3
  ·rw [if_pos (decide_eq_true hg)]
   rw [if_neg (by unfold p3; rw [decide_eq_true_eq]; omega), if_neg (by unfold pin; rw [Bool.and_eq_true, decide_eq_true_eq]; omega), Int.add_zero, Int.add_zero] at next
   exact next
  rw [if_neg (by rw [decide_eq_true_eq]; exact hg), qK (QH p3 (L.take i) + _) (by omega) (by omega)]
  rw [if_pos (by unfold p3; rw [decide_eq_true_eq]; omega)] at next
  by_cases hG : L[i].1.1 = gen
  ·rw [if_pos (by simpa using hG), qK (QH (pin gen) (L.take i) + _) (by omega) (by omega)]
   rw [if_pos (by unfold pin; rw [Bool.and_eq_true, decide_eq_true_eq]; exact ⟨by omega, by simpa using hG⟩)] at next
   exact next
  ·rw [if_neg (by simpa using hG)]
   rw [if_neg (by unfold pin; rw [Bool.and_eq_true]; exact fun h => hG (by simpa using h.2)), Int.add_zero] at next
   exact next
theorem qn1.pure (l : List Zt) (gen : Int) (hok : okL l) (hn : l.length ≤ 1000) (hk : ∀ i, i < l.length → 0 ≤ (QZ l i).2) : qX.f BIG l gen = some (qdW (Qq p3 (fun _ => 1) (fun i => (QZ l i).1) (fun i => (QZ l i).2) l.length) (Qq (pin gen) (fun _ => 1) (fun i => (QZ l i).1) (fun i => (QZ l i).2) l.length)) := by
 have hl : ∀ i, i < l.length → qaG l i ≤ 1000000 := fun i hi => by
  unfold qaG
  rw [List.getElem?_eq_getElem hi]
  exact (hok.2 _ (List.getElem_mem hi)).2
 have R := qiE l hl
 unfold qX.f qX.b
 rw [if_pos hok]
 have := qlr BIG l gen (Qa l) (by have := R.len; omega) (fun r hr => by
  obtain ⟨h1, _, h2⟩ := R.row r hr
  obtain ⟨i, hi, _, h4⟩ := R.key r hr
  have h3 := qam (isK r.1.1 r.1.2) (fun _ => 1) (fun i => (QZ l i).1) (fun i => (QZ l i).2) 1 l.length (fun _ _ => by omega)
  have := hk i hi
  omega) (Qa l).length 0 BIG (by omega) (by have := R.len; rw [Z4]; omega)
 rw [List.take_zero, R.sum p3, R.sum (pin gen)] at this
 exact this
theorem qb.l7_at (qa nN kK : Nat) (hN : nN = kK + 1) (l : List ((Int × Int × List Int × LR) × Int × Int × Int × Bool)) (gen : Int) (A6 : Int → Int → Int → Option Bool) (x16 : Int) (x17 : Int) (x18 : Int) : qb.l7 qa l gen A6 nN x16 x17 x18 = qb.b7 l gen A6 (qb.l7 qa l gen A6 kK) x16 x17 x18 := by
 subst hN
 rfl
theorem qb.l13_at (qa nN kK : Nat) (hN : nN = kK + 1) (l : List ((Int × Int × List Int × LR) × Int × Int × Int × Bool)) (gen : Int) (A6 : Int → Int → Int → Option Bool) (x11 : Int) (x12 : Int) (x13 : Int) (x14 : Int) (x15 : Int) : qb.l13 qa l gen A6 nN x11 x12 x13 x14 x15 = qb.b13 l gen A6 (qb.l13 qa l gen A6 kK) (qb.l7 qa l gen A6 qa) x11 x12 x13 x14 x15 := by
 subst hN
 rfl
theorem qb.l28_at (qa nN kK : Nat) (hN : nN = kK + 1) (l : List ((Int × Int × List Int × LR) × Int × Int × Int × Bool)) (gen : Int) (A20 : Int → Int → Int → Int → (List ((Int × Int) × (Int × Int))) → Option Bool) (A27 : Int → Int → Int → Int → Int → Int → Int → (List ((Int × Int) × (Int × Int))) → Option Bool) (x57 : Int) (x58 : Int) (x59 : Int) (x60 : Int) (x61 : Int) (x62 : Int) (x63 : Int) (x64 : (List ((Int × Int) × (Int × Int)))) : qb.l28 qa l gen A20 A27 nN x57 x58 x59 x60 x61 x62 x63 x64 = qb.b28 l gen A20 A27 (qb.l28 qa l gen A20 A27 kK) x57 x58 x59 x60 x61 x62 x63 x64 := by
 subst hN
 rfl
theorem qb.l21_at (qa nN kK : Nat) (hN : nN = kK + 1) (l : List ((Int × Int × List Int × LR) × Int × Int × Int × Bool)) (gen : Int) (A20 : Int → Int → Int → Int → (List ((Int × Int) × (Int × Int))) → Option Bool) (x75 : Int) (x76 : Int) (x77 : Int) (x78 : Int) (x79 : (List ((Int × Int) × (Int × Int)))) : qb.l21 qa l gen A20 nN x75 x76 x77 x78 x79 = qb.b21 l gen A20 (qb.l21 qa l gen A20 kK) x75 x76 x77 x78 x79 := by
 subst hN
 rfl
theorem qb.l34_at (qa nN kK : Nat) (hN : nN = kK + 1) (l : List ((Int × Int × List Int × LR) × Int × Int × Int × Bool)) (gen : Int) (A20 : Int → Int → Int → Int → (List ((Int × Int) × (Int × Int))) → Option Bool) (x69 : Int) (x70 : Int) (x71 : Int) (x72 : Int) (x73 : Int) (x74 : (List ((Int × Int) × (Int × Int)))) : qb.l34 qa l gen A20 nN x69 x70 x71 x72 x73 x74 = qb.b34 l gen A20 (qb.l34 qa l gen A20 kK) (qb.l21 qa l gen A20 qa) x69 x70 x71 x72 x73 x74 := by
 subst hN
 rfl
theorem qb.l27_at (qa nN kK : Nat) (hN : nN = kK + 1) (l : List ((Int × Int × List Int × LR) × Int × Int × Int × Bool)) (gen : Int) (A20 : Int → Int → Int → Int → (List ((Int × Int) × (Int × Int))) → Option Bool) (x41 : Int) (x42 : Int) (x43 : Int) (x44 : Int) (x45 : Int) (x46 : Int) (x47 : Int) (x48 : (List ((Int × Int) × (Int × Int)))) : qb.l27 qa l gen A20 nN x41 x42 x43 x44 x45 x46 x47 x48 = qb.b27 l gen A20 (qb.l27 qa l gen A20 kK) (qb.l28 qa l gen A20 (qb.l27 qa l gen A20 kK) qa) (qb.l34 qa l gen A20 qa) x41 x42 x43 x44 x45 x46 x47 x48 := by
 subst hN
 rfl
theorem qb.l24_at (qa nN kK : Nat) (hN : nN = kK + 1) (l : List ((Int × Int × List Int × LR) × Int × Int × Int × Bool)) (gen : Int) (A20 : Int → Int → Int → Int → (List ((Int × Int) × (Int × Int))) → Option Bool) (x36 : Int) (x37 : Int) (x38 : Int) (x39 : Int) (x40 : (List ((Int × Int) × (Int × Int)))) : qb.l24 qa l gen A20 nN x36 x37 x38 x39 x40 = qb.b24 l gen A20 (qb.l24 qa l gen A20 kK) (qb.l27 qa l gen A20 qa) x36 x37 x38 x39 x40 := by
 subst hN
 rfl
theorem qb.l20_at (qa nN kK : Nat) (hN : nN = kK + 1) (l : List ((Int × Int × List Int × LR) × Int × Int × Int × Bool)) (gen : Int) (x19 : Int) (x20 : Int) (x21 : Int) (x22 : Int) (x23 : (List ((Int × Int) × (Int × Int)))) : qb.l20 qa l gen nN x19 x20 x21 x22 x23 = qb.b20 l gen (qb.l20 qa l gen kK) (qb.l24 qa l gen (qb.l20 qa l gen kK) qa) x19 x20 x21 x22 x23 := by
 subst hN
 rfl
theorem qb.l6_at (qa nN kK : Nat) (hN : nN = kK + 1) (l : List ((Int × Int × List Int × LR) × Int × Int × Int × Bool)) (gen : Int) (x1 : Int) (x2 : Int) (x3 : Int) : qb.l6 qa l gen nN x1 x2 x3 = qb.b6 l gen (qb.l6 qa l gen kK) (qb.l13 qa l gen (qb.l6 qa l gen kK) qa) (qb.l20 qa l gen qa) x1 x2 x3 := by
 subst hN
 rfl
abbrev gOf (l : List Zt) (i : Nat) : Int := (QZ l i).1
abbrev kOf (l : List Zt) (i : Nat) : Int := (QZ l i).2
abbrev Zq : Nat → Int := fun _ => 1
abbrev qj0 (l : List Zt) : Nat → Int := fun i => (qaG l i : Int)
theorem qeW {k : Nat} : ∀ i, i < k → 0 ≤ Zq i ∧ Zq i ≤ 1 := fun _ _ => ⟨Int.zero_le_ofNat 1, Int.le_refl 1⟩
structure qmg (l : List Zt) : Prop where
 len : l.length ≤ 30
 byte : ∀ x ∈ l, isB x.1.2.2.1
theorem qj1 {l : List Zt} (hb : ∀ x ∈ l, isB x.1.2.2.1) (i : Nat) (hi : i < l.length) (h : l[i].1.2.2.1.length ≤ 1000000) : QZ l i = (l[i].1.2.1, qaR l[i].1.2.2.1) := by
 unfold QZ
 rw [List.getElem?_eq_getElem hi]
 show (qbl l[i]).getD _ = _
 rw [TOf.pure l[i] (hb _ (List.getElem_mem hi)) h]
 rfl
theorem qh7 {l : List Zt} (i : Nat) (hi : i < l.length) : qaG l i = l[i].1.2.2.1.length := by
 unfold qaG
 rw [List.getElem?_eq_getElem hi]
 rfl
theorem qlY (l : List Zt) (gen : Int) (F : qmg l) (hd : ∀ i, (h : i < l.length) → l[i].1.2.2.1.length ≤ 2000) (A20 : Int → Int → Int → Int → List qeI → Option Bool) (x41 x42 x43 : Int) (hx : 0 ≤ x43 ∧ x43 ≤ 1000000) (L : List qeI) (j : Nat) (hj : j < L.length) (hL : L.length ≤ 1000)
  (hrow : L[j].2.1 = Qq (isK L[j].1.1 L[j].1.2) Zq (gOf l) (kOf l) l.length ∧ L[j].2.2 = Qq (isK L[j].1.1 L[j].1.2) (qj0 l) (gOf l) (kOf l) l.length ∧ 1 ≤ L[j].2.1) : ∀ (n m k : Nat), m + n = l.length → n < k →
  qb.l27 BIG l gen A20 k x41 x42 x43 (j : Int) (Qq (isK L[j].1.1 L[j].1.2) Zq (gOf l) (kOf l) m) (Qq (isK L[j].1.1 L[j].1.2) (qj0 l) (gOf l) (kOf l) m) (m : Int) L = A20 x41 x42 (x43 + L[j].2.1) ((j + 1 : Nat) : Int) L := by
 intro n
 have hb1 := fun m (hm : m ≤ l.length) => qam (isK L[j].1.1 L[j].1.2) Zq (gOf l) (kOf l) 1 m qeW
 have hb2 := fun m (hm : m ≤ l.length) => qam (isK L[j].1.1 L[j].1.2) (qj0 l) (gOf l) (kOf l) 2000 m (fun i hi => by
  have h1 := hd i (by omega)
  have h2 := qh7 (l := l) i (by omega)
  show 0 ≤ (qaG l i : Int) ∧ (qaG l i : Int) ≤ 2000
  omega)
 have hl := F.len
 induction n with
 | zero =>
  intro m k hm hk
  have hm' : m = l.length := by omega
  subst hm'
  rw [qb.l27_at BIG k (k - 1) (by omega)]
  unfold qb.b27
  obtain ⟨r1, r2, r3⟩ := hrow
  rw [if_neg (by rw [decide_eq_true_eq]; omega), if_neg (by rw [← r1]; simp only [beq_iff_eq]; omega), Qn, List.getElem?_eq_getElem hj]
  simp only
  rw [if_neg (by rw [← r1]; simp), if_neg (by rw [← r2]; simp), ← r1]
  have hb := hb1 l.length (Nat.le_refl _)
  rw [qb.l34_at BIG BIG (BIG - 1) ZK]
  unfold qb.b34
  rw [qb.l21_at BIG BIG (BIG - 1) ZK]
  unfold qb.b21
  rw [qK (x43 + L[j].2.1) (by omega) (by omega), qK ((j : Int) + 1) (by omega) (by omega)]
  rfl
 | succ n ih =>
  intro m k hm hk
  have hml : m < l.length := by omega
  rw [qb.l27_at BIG k (k - 1) (by omega)]
  unfold qb.b27
  have e28 : ∀ a b : Int, qb.l28 BIG l gen A20 (qb.l27 BIG l gen A20 (k - 1)) BIG x41 x42 x43 (j : Int) a b (m : Int) L = qb.l27 BIG l gen A20 (k - 1) x41 x42 x43 (j : Int) a b ((m + 1 : Nat) : Int) L := fun a b => by
   rw [qb.l28_at BIG BIG (BIG - 1) ZK]
   unfold qb.b28
   rw [qK ((m : Int) + 1) (by omega) (by omega)]
   rfl
  have hdm := hd m hml
  have ek := qj1 F.byte m hml (by omega)
  have el := qh7 (l := l) m hml
  have next := ih (m + 1) (k - 1) (by omega) (by omega)
  rw [Qq, Qq] at next
  have h1 := hb1 m (by omega)
  have h2 := hb2 m (by omega)
  rw [if_pos (by rw [decide_eq_true_eq]; omega), Qn, List.getElem?_eq_getElem hml, Qn, List.getElem?_eq_getElem hj]
  simp only [veil_eq, e28]
  rw [qoC.pure _ (F.byte _ (List.getElem_mem hml)) (by omega)]
  simp only
  have hiff : isK L[j].1.1 L[j].1.2 (gOf l m) (kOf l m) = true ↔ l[m].1.2.1 = L[j].1.1 ∧ qaR l[m].1.2.2.1 = L[j].1.2 := by
   rw [qgx]
   unfold gOf kOf
   rw [ek]
  by_cases hG : l[m].1.2.1 = L[j].1.1
  ·rw [if_pos (by simpa using hG)]
   by_cases hK : qaR l[m].1.2.2.1 = L[j].1.2
   ·rw [if_pos (by simpa using hK)]
    have hp := hiff.2 ⟨hG, hK⟩
    rw [if_pos hp, if_pos hp] at next
    rw [qK (Qq _ Zq _ _ m + 1) (by omega) (by omega), qK (Qq _ (qj0 l) _ _ m + _) (by omega) (by omega)]
    have e : qj0 l m = (l[m].1.2.2.1.length : Int) := by show (qaG l m : Int) = _; rw [el]
    rw [e] at next
    exact next
   ·rw [if_neg (by simpa using hK)]
    have hp : ¬ isK L[j].1.1 L[j].1.2 (gOf l m) (kOf l m) = true := fun h => hK (hiff.1 h).2
    rw [if_neg hp, if_neg hp, Int.add_zero, Int.add_zero] at next
    exact next
  ·rw [if_neg (by simpa using hG)]
   have hp : ¬ isK L[j].1.1 L[j].1.2 (gOf l m) (kOf l m) = true := fun h => hG (hiff.1 h).1
   rw [if_neg hp, if_neg hp, Int.add_zero, Int.add_zero] at next
   exact next
def pT (g k : Int) : Bool := true
theorem qk2 (kg kk : Nat → Int) : ∀ k, Qq pT Zq kg kk k = k
 | 0 => rfl
 | k + 1 => by rw [Qq, qk2 kg kk k]; simp [pT]
theorem qlU (hA : zZ.f BIG () = some true) (l : List Zt) (gen : Int) (F : qmg l) (hd : ∀ i, (h : i < l.length) → l[i].1.2.2.1.length ≤ 2000) (hok : okL l) : ∀ (n i k : Nat), i + n = (Qa l).length → n < k →
  qb.l20 BIG l gen k (Qq p3 Zq (gOf l) (kOf l) l.length) (Qq (pin gen) Zq (gOf l) (kOf l) l.length) (QH pT ((Qa l).take i)) (i : Int) (Qa l) = some true := by
 intro n
 have hl := F.len
 have hln : ∀ i, i < l.length → qaG l i ≤ 1000000 := fun i hi => by rw [qh7 i hi]; have := hd i hi; omega
 have R := qiE l hln
 have hRl := R.len
 have hS := qjT l
 have c1 := qam p3 Zq (gOf l) (kOf l) 1 l.length qeW
 have c2 := qam (pin gen) Zq (gOf l) (kOf l) 1 l.length qeW
 have hbs : ∀ i, 0 ≤ QH pT ((Qa l).take i) ∧ QH pT ((Qa l).take i) ≤ 1000 := fun i => by
  have := qe3 pT 30 ((Qa l).take i) (fun r hr => by
   obtain ⟨r1, _, r3⟩ := R.row r (List.mem_of_mem_take hr)
   have := qam (isK r.1.1 r.1.2) Zq (gOf l) (kOf l) 1 l.length qeW
   have e : r.2.1 = Qq (isK r.1.1 r.1.2) Zq (gOf l) (kOf l) l.length := r1
   omega)
  have h2 : ((Qa l).take i).length ≤ 30 := by rw [List.length_take]; omega
  omega
 induction n with
 | zero =>
  intro i k hi hk
  have ht : (Qa l).take i = Qa l := List.take_of_length_le (by omega)
  rw [ht, R.sum pT, qb.l20_at BIG k (k - 1) (by omega)]
  unfold qb.b20
  have ec : Qq pT (fun x => 1) (fun i => (QZ l i).1) (fun i => (QZ l i).2) l.length = l.length := qk2 _ _ _
  rw [ec, if_neg (by rw [decide_eq_true_eq]; omega), if_neg (by simp)]
  have hk : ∀ i, i < l.length → 0 ≤ (QZ l i).2 := fun i hi => by
   have := hd i hi
   rw [qj1 F.byte i hi (by omega)]
   exact qnD _ (F.byte _ (List.getElem_mem hi)) (by omega)
  have hs := qn1.pure l gen hok (by omega) hk
  simp only [veil_eq, hs, hA]
  show (if (Qq p3 Zq (gOf l) (kOf l) l.length == 0) = true then _ else _) = _
  change (if _ then (if (qdW (Qq p3 Zq (gOf l) (kOf l) l.length) (Qq (pin gen) Zq (gOf l) (kOf l) l.length) == 0) = true then _ else _) else (if _ then none else (if (qdW (Qq p3 Zq (gOf l) (kOf l) l.length) (Qq (pin gen) Zq (gOf l) (kOf l) l.length) == _) = true then _ else _))) = _
  generalize Qq p3 Zq (gOf l) (kOf l) l.length = a at *
  generalize Qq (pin gen) Zq (gOf l) (kOf l) l.length = b at *
  unfold qdW
  by_cases h0 : a = 0
  ·rw [if_pos (by simpa using h0), if_pos (by simp [h0])]
  ·rw [if_neg (by simpa using h0), if_neg h0, if_neg h0, qK (1000 * b) (by omega) (by omega), Int.mul_comm 1000 b, qK, if_pos (by simp)]
   ·have := Int.tdiv_nonneg (a := b * 1000) (b := a) (by omega) (by omega)
    omega
   ·have := Int.tdiv_le_self (a := b * 1000) a (by omega)
    omega
 | succ n ih =>
  intro i k hi hk
  have hil : i < (Qa l).length := by omega
  rw [qb.l20_at BIG k (k - 1) (by omega)]
  unfold qb.b20
  have hrow := R.row _ (List.getElem_mem hil)
  have next := ih (i + 1) (k - 1) (by omega) (by omega)
  rw [qfS pT (Qa l) i hil, if_pos (by rfl)] at next
  have E24 : qb.l24 BIG l gen (qb.l20 BIG l gen (k - 1)) BIG (Qq p3 Zq (gOf l) (kOf l) l.length) (Qq (pin gen) Zq (gOf l) (kOf l) l.length) (QH pT ((Qa l).take i)) (i : Int) (Qa l) = some true := by
   rw [qb.l24_at BIG BIG (BIG - 1) ZK]
   unfold qb.b24
   have := qlY l gen F hd (qb.l20 BIG l gen (k - 1)) (Qq p3 Zq (gOf l) (kOf l) l.length) (Qq (pin gen) Zq (gOf l) (kOf l) l.length) (QH pT ((Qa l).take i)) (by have := hbs i; omega) (Qa l) i hil (by omega) hrow l.length 0 BIG (by omega) (by rw [Z4]; omega)
   exact this.trans next
  rw [if_pos (by rw [decide_eq_true_eq]; omega)]
  by_cases h0 : i = 0
  ·rw [if_neg (by rw [decide_eq_true_eq]; omega)]
   exact E24
  ·obtain ⟨i', rfl⟩ : ∃ i', i = i' + 1 := ⟨i - 1, by omega⟩
   have hil' : i' < (Qa l).length := by omega
   have hlt := List.pairwise_iff_getElem.1 hS i' (i' + 1) hil' hil (by omega)
   unfold ltK at hlt
   rw [if_pos (by rw [decide_eq_true_eq]; omega), qK (((i' + 1 : Nat) : Int) - 1) (by omega) (by omega), show (((i' + 1 : Nat) : Int) - 1) = ((i' : Nat) : Int) by omega, Qn, List.getElem?_eq_getElem hil, Qn, List.getElem?_eq_getElem hil']
   simp only
   rw [if_neg (by rw [decide_eq_true_eq]; omega)]
   by_cases hG : (Qa l)[i' + 1].1.1 = (Qa l)[i'].1.1
   ·rw [if_pos (by simpa using hG), if_neg (by rw [decide_eq_true_eq]; omega)]
    exact E24
   ·rw [if_neg (by simpa using hG)]
    exact E24
theorem ql9 (hA : zZ.f BIG () = some true) (l : List Zt) (gen : Int) (F : qmg l) : ∀ (n i k : Nat), i + n = l.length → n < k → (∀ j, (h : j < l.length) → j < i → l[j].1.2.2.1.length ≤ 2000) →
  qb.l6 BIG l gen k (Qq p3 Zq (gOf l) (kOf l) i) (Qq (pin gen) Zq (gOf l) (kOf l) i) (i : Int) = some true := by
 intro n
 have hl := F.len
 induction n with
 | zero =>
  intro i k hi hk hd
  have hi' : i = l.length := by omega
  subst hi'
  have hd' : ∀ j, (h : j < l.length) → l[j].1.2.2.1.length ≤ 2000 := fun j h => hd j h h
  have hok : okL l := ⟨by omega, fun x hx => by
   obtain ⟨j, hj, rfl⟩ := List.getElem_of_mem hx
   have := hd' j hj
   rw [TOf.pure _ (F.byte _ hx) (by omega)]
   exact ⟨rfl, by omega⟩⟩
  have hln : ∀ i, i < l.length → qaG l i ≤ 1000000 := fun i hi => by rw [qh7 i hi]; have := hd' i hi; omega
  have R := qiE l hln
  rw [qb.l6_at BIG k (k - 1) (by omega)]
  unfold qb.b6
  rw [if_neg (by rw [decide_eq_true_eq]; omega), if_pos hok]
  exact qlU hA l gen F hd' hok (Qa l).length 0 BIG (by omega) (by have := R.len; rw [Z4]; omega)
 | succ n ih =>
  intro i k hi hk hd
  have hil : i < l.length := by omega
  rw [qb.l6_at BIG k (k - 1) (by omega)]
  unfold qb.b6
  rw [if_pos (by rw [decide_eq_true_eq]; omega), Qn, List.getElem?_eq_getElem hil]
  simp only [veil_eq]
  by_cases hbig : l[i].1.2.2.1.length > 2000
  ·rw [if_pos (by rw [decide_eq_true_eq]; omega), hA]
  rw [if_neg (by rw [decide_eq_true_eq]; omega)]
  have hby := F.byte _ (List.getElem_mem hil)
  have eo := TOf.pure l[i] hby (by omega)
  unfold qbl at eo
  rw [eo]
  simp only
  rw [if_neg (by simp), qoC.pure _ hby (by omega)]
  simp only
  rw [if_neg (by simp), qb.l13_at BIG BIG (BIG - 1) ZK]
  unfold qb.b13
  have e7 : ∀ a b : Int, qb.l7 BIG l gen (qb.l6 BIG l gen (k - 1)) BIG a b (i : Int) = qb.l6 BIG l gen (k - 1) a b ((i + 1 : Nat) : Int) := fun a b => by
   rw [qb.l7_at BIG BIG (BIG - 1) ZK]
   unfold qb.b7
   rw [qK ((i : Int) + 1) (by omega) (by omega)]
   rfl
  simp only [e7]
  have ek := qj1 F.byte i hil (by omega)
  have next := ih (i + 1) (k - 1) (by omega) (by omega) (fun j h hj => by
   by_cases hji : j = i
   ·subst hji; omega
   ·exact hd j h (by omega))
  rw [Qq, Qq] at next
  have c1 := qam p3 Zq (gOf l) (kOf l) 1 i qeW
  have c2 := qam (pin gen) Zq (gOf l) (kOf l) 1 i qeW
  have h3 : p3 (gOf l i) (kOf l i) = true ↔ 3 < qaR l[i].1.2.2.1 := by
   show decide (3 < (QZ l i).2) = true ↔ _
   rw [ek, decide_eq_true_eq]
  have h4 : pin gen (gOf l i) (kOf l i) = true ↔ 3 < qaR l[i].1.2.2.1 ∧ l[i].1.2.1 = gen := by
   show (decide (3 < (QZ l i).2) && (QZ l i).1 == gen) = true ↔ _
   rw [ek, Bool.and_eq_true, decide_eq_true_eq, beq_iff_eq]
  by_cases hk3 : qaR l[i].1.2.2.1 > 3
  ·rw [if_pos (decide_eq_true hk3), qK (Qq p3 Zq _ _ i + 1) (by omega) (by omega)]
   rw [if_pos (h3.2 hk3)] at next
   by_cases hG : l[i].1.2.1 = gen
   ·rw [if_pos (by simpa using hG), qK (Qq (pin gen) Zq _ _ i + 1) (by omega) (by omega)]
    rw [if_pos (h4.2 ⟨hk3, hG⟩)] at next
    exact next
   ·rw [if_neg (by simpa using hG)]
    rw [if_neg (fun h => hG (h4.1 h).2), Int.add_zero] at next
    exact next
  ·rw [if_neg (by rw [decide_eq_true_eq]; exact hk3)]
   rw [if_neg (fun h => hk3 (h3.1 h)), if_neg (fun h => hk3 (h4.1 h).1), Int.add_zero, Int.add_zero] at next
   exact next
theorem qeH.pure0 (hA : zZ.f BIG () = some true) (l : List Zt) (gen : Int) (hb : ∀ x ∈ l, isB x.1.2.2.1) : qb.f BIG l gen = some true := by
 unfold qb.f qb.b
 by_cases h : l.length > 30
 ·rw [if_pos (by rw [decide_eq_true_eq]; omega)]
  simp only [veil_eq, hA]
 rw [if_neg (by rw [decide_eq_true_eq]; omega)]
 exact ql9 hA l gen ⟨by omega, hb⟩ l.length 0 BIG (by omega) (by rw [Z4]; omega) (fun j h hj => absurd hj (Nat.not_lt_zero _))
theorem qmZ (gen : Int) (qT : List Int) : (ZG gen qT).length = qT.length + 4 := by simp [ZG]
theorem qcl (gen : Int) (qT : List Int) : (QD gen qT).length = qT.length + 8 := by simp [QD, qmZ, qe2]
theorem qlV (gen : Int) (qT : List Int) (h1 : 1 ≤ gen) (h3 : gen ≤ 3) (hb : isB qT) (hl : qT.length ≤ 65499) : Qe (QD gen qT) = (gen, qT, 0) := by
 have h := Qg.pure (QD gen qT) (qcJ h1 h3 hb hl) (by rw [qcl]; omega)
 rw [qmT gen qT h1 h3 hb hl] at h
 exact (Option.some.inj h).symm
theorem qoI (gen : Int) (h1 : 1 ≤ gen) (h3 : gen ≤ 3) : qiK 1 3 gen = true := by
 unfold qiK
 rw [show okS 1 3 = true by kernel_rfl, decide_eq_true h1, decide_eq_true h3]
 rfl
theorem qf9 (gen : Int) (w : List Int) (h1 : 1 ≤ gen) (h3 : gen ≤ 3) (hb : isB w) (hl : w.length ≤ 65499) (hz : qcd (Zb gen w) = 0) (hg : qgc (Zb gen w).1 = true → gen = 1) : qaR (QD gen w) = (Zb gen w).1 := by
 have e : qdr (QD gen w) 1 3 = qgy gen w (Zb gen w) := by
  unfold qdr
  rw [qlV gen w h1 h3 hb hl]
  dsimp only
  rw [if_neg (by simp), qoI gen h1 h3, if_neg (by simp), hz, if_neg (by simp), if_neg (by rintro ⟨a, c⟩; exact c (hg a))]
 unfold qaR
 rw [e]
 show (if (0 : Int) ≠ 0 then (0 : Int) else (Zb gen w).1) = _
 rw [if_neg (by decide)]
def m24 : List Int := (zV 2 4 0 0 1 3 0 0 0 0 0 [] []).1
def m37 : List Int := (zV 3 7 0 0 1 3 0 0 0 0 0 [] []).1
def m11 : List Int := (zV 1 1 0 0 1 3 0 0 0 0 0 [] []).1
theorem h24 : zV 2 4 0 0 1 3 0 0 0 0 0 [] [] = (m24, 0) := Prod.ext rfl (by kernel_rfl)
theorem h37 : zV 3 7 0 0 1 3 0 0 0 0 0 [] [] = (m37, 0) := Prod.ext rfl (by kernel_rfl)
theorem h11 : zV 1 1 0 0 1 3 0 0 0 0 0 [] [] = (m11, 0) := Prod.ext rfl (by kernel_rfl)
theorem b24 : isB m24 ∧ m24.length ≤ 65499 := qdm (gen := 2) (qc := []) (fun h => by cases h) qjA
theorem b37 : isB m37 ∧ m37.length ≤ 65499 := qdm (gen := 3) (qc := []) (fun _ => by kernel_rfl) qjA
theorem b11 : isB m11 ∧ m11.length ≤ 65499 := qdm (gen := 1) (qc := []) (fun h => by cases h) qjA
theorem k24 : (Zb 2 m24).1 = 4 ∧ qcd (Zb 2 m24) = 0 := ⟨by kernel_rfl, by kernel_rfl⟩
theorem k37 : (Zb 3 m37).1 = 7 ∧ qcd (Zb 3 m37) = 0 := ⟨by kernel_rfl, by kernel_rfl⟩
theorem k11 : (Zb 1 m11).1 = 1 ∧ qcd (Zb 1 m11) = 0 := ⟨by kernel_rfl, by kernel_rfl⟩
theorem qg5 {gen k : Int} {w : List Int} (h1 : 1 ≤ gen) (h3 : gen ≤ 3) (hg : (1 ≤ k ∧ k ≤ 3) → gen = 1) (h : zV gen k 0 0 1 3 0 0 0 0 0 [] [] = (w, 0)) (hl : w.length ≤ 65499) : qjz gen k 0 0 1 3 0 0 0 0 0 [] [] = (QD gen w, 0) := by
 unfold qjz
 rw [h, if_neg (fun k => k.2 (hg k.1)), if_neg (by simp)]
 unfold qjy
 rw [if_neg (by omega), if_neg (by show ¬ w.length > 65499; omega)]
def wy (g : Int) (d : List Int) : Zt := ((0, g, d, []), 0, 0, 0, false)
def qaF : List Zt := [wy 2 (QD 2 m24), wy 3 (QD 3 m37), wy 1 (QD 1 m11)]
theorem qov : qbl (wy 2 (QD 2 m24)) = some (2, 4) := by
 rw [TOf.pure _ (qcJ (by decide) (by decide) b24.1 b24.2) (by have := b24.2; show (QD 2 m24).length ≤ _; rw [qcl]; omega)]
 show some (2, qaR (QD 2 m24)) = _
 rw [qf9 2 m24 (by decide) (by decide) b24.1 b24.2 k24.2 (by rw [k24.1]; intro h; revert h; decide), k24.1]
theorem qou : qbl (wy 3 (QD 3 m37)) = some (3, 7) := by
 rw [TOf.pure _ (qcJ (by decide) (by decide) b37.1 b37.2) (by have := b37.2; show (QD 3 m37).length ≤ _; rw [qcl]; omega)]
 show some (3, qaR (QD 3 m37)) = _
 rw [qf9 3 m37 (by decide) (by decide) b37.1 b37.2 k37.2 (by rw [k37.1]; intro h; revert h; decide), k37.1]
theorem qot : qbl (wy 1 (QD 1 m11)) = some (1, 1) := by
 rw [TOf.pure _ (qcJ (by decide) (by decide) b11.1 b11.2) (by have := b11.2; show (QD 1 m11).length ≤ _; rw [qcl]; omega)]
 show some (1, qaR (QD 1 m11)) = _
 rw [qf9 1 m11 (by decide) (by decide) b11.1 b11.2 k11.2 (fun _ => rfl), k11.1]
theorem at0 : QZ qaF 0 = (2, 4) := by show (qbl (wy 2 (QD 2 m24))).getD _ = _; rw [qov]; rfl
theorem at1 : QZ qaF 1 = (3, 7) := by show (qbl (wy 3 (QD 3 m37))).getD _ = _; rw [qou]; rfl
theorem at2 : QZ qaF 2 = (1, 1) := by show (qbl (wy 1 (QD 1 m11))).getD _ = _; rw [qot]; rfl
theorem ok3 : okL qaF := by
 refine ⟨by show 3 ≤ 1000000; decide, fun x hx => ?_⟩
 unfold qaF at hx
 rcases List.mem_cons.1 hx with rfl | hx
 ·exact ⟨by rw [qov]; rfl, by have := b24.2; show (QD 2 m24).length ≤ _; rw [qcl]; omega⟩
 rcases List.mem_cons.1 hx with rfl | hx
 ·exact ⟨by rw [qou]; rfl, by have := b37.2; show (QD 3 m37).length ≤ _; rw [qcl]; omega⟩
 ·rw [List.mem_singleton.1 hx]
  exact ⟨by rw [qot]; rfl, by have := b11.2; show (QD 1 m11).length ≤ _; rw [qcl]; omega⟩
theorem qox (p : Int → Int → Bool) : Qq p Zq (gOf qaF) (kOf qaF) 3 = (if p 2 4 = true then 1 else 0) + (if p 3 7 = true then 1 else 0) + (if p 1 1 = true then 1 else 0) := by
 simp only [Qq, gOf, kOf, at0, at1, at2, Int.zero_add]
theorem qoE : (Qa qaF).length = 3 := by
 rw [(qhW qaF).length_eq, List.length_map]
 unfold qfp
 show (accE _ _ _ 3).length = 3
 simp [accE, stepE, findE, at0, at1, at2]
theorem qom : qX.f BIG qaF 2 = some 500 := by
 rw [qn1.pure qaF 2 ok3 (by show 3 ≤ 1000; decide) (fun i hi => by
  have hi : i < 3 := hi
  have : i = 0 ∨ i = 1 ∨ i = 2 := by omega
  rcases this with rfl | rfl | rfl
  ·rw [at0]; decide
  ·rw [at1]; decide
  ·rw [at2]; decide)]
 show some (qdW (Qq p3 Zq (gOf qaF) (kOf qaF) 3) (Qq (pin 2) Zq (gOf qaF) (kOf qaF) 3)) = _
 rw [qox, qox]
 decide
theorem qok.pure : zZ.f BIG () = some true := by
 have n0 : za ([] : LR) = true := rfl
 have p := fun gen k => Qh.pure gen k 0 0 1 3 0 0 0 0 0 [] [] n0 n0 (by simp) qjA
 have s0 := (p 2 4).trans (congrArg some (qg5 (by decide) (by decide) (fun h => absurd h.2 (by decide)) h24 b24.2))
 have s1 := (p 3 7).trans (congrArg some (qg5 (by decide) (by decide) (fun h => absurd h.2 (by decide)) h37 b37.2))
 have s2 := (p 1 1).trans (congrArg some (qg5 (by decide) (by decide) (fun _ => rfl) h11 b11.2))
 unfold zZ.f zZ.b
 simp only [veil_eq, s0, s1, s2]
 change (match qX.f BIG qaF 2 with | none => none | some y3 => if (y3 == (500 : Int)) = true then (if okL qaF then some (((Qa qaF).length : Int) == 3) else none) else some false) = some true
 rw [qom]
 simp only
 rw [if_pos (by decide), if_pos ok3, qoE]
 rfl
theorem qeH.pure (l : List Zt) (gen : Int) (hb : ∀ x ∈ l, isB x.1.2.2.1) : qb.f BIG l gen = some true := qeH.pure0 qok.pure l gen hb
theorem qdG : EnvOk Tryz.prog zY := env_ok (l := [(4, qae), (5, Z0), (6, qay), (7, qbt), (8, Za)]) th_ok qU ⟨⟨qhe, qgF⟩, ⟨qeh, qhb⟩, ⟨qhO, qhd⟩, ⟨qfa, qet⟩, ⟨qdt, qc6⟩, trivial⟩ _
theorem qgA (l : List ((Int × Int × List Int × LR) × Int × Int × Int × Bool)) (gen : Int) (hl : ∀ x ∈ l, isB x.1.2.2.1) : denF zY loopN BIG Tryz.f3 [.raw] [.d (.sl (.pair (.pair tQi (.pair tQi (.pair (.sl (.int .u8)) (.sl tQr)))) (.pair tQi (.pair tQi (.pair tQi .bool))))) l, .d tQi gen] [] isTrue = some () := by
 rw [denF_any qdG.D ((qb.eq BIG l gen).trans (qeH.pure l gen hl)) (out := [.d .bool true]) (os := []) (fun rs ros hk => by
  unfold qb.k at hk
  split at hk
  ·first | (cases hk; exact ⟨rfl, rfl⟩) | (have e := Option.some.inj hk; rw [← e]; exact ⟨rfl, rfl⟩)
  ·cases hk)]
 rfl
set_option maxRecDepth 100000 in
theorem qfR (os : Os) (started : os.Started) (H : Type) (enc : TypeId × Value → H) :
  ReturnsInHanded {} Tryz.checked os 3 .any (fun w qA => (Rows.trafficRowsSpec.pre enc Tryz.prog Tryz.f3 [] false w qA ∧ laidMetH Tryz.prog qh8 w) ∧ sizedMet enc Tryz.prog Tryz.f3 (OpenSpec.ofChange Rows.trafficRowsSpec) false w qA)
   (Rows.trafficRowsSpec.post enc Tryz.prog Tryz.f3 false true false false) := by
 refine returnsInHanded_of_change_and (C := Tryz.checked) (X := fun w _ => laidMetH Tryz.prog qh8 w) (fun _ _ _ hh h => h.of_heap hh) Tryz.own started (by kernel_rfl) Tryz.func3
  (ChangeSpec.witness_shaped (enc := enc) (C := Tryz.checked) (os := os) (X := fun w _ => laidMetH Tryz.prog qh8 w) false (World.doorLaid Tryz.prog 400 os) #[.slice none 0 0, .int .i64 0] 8 rfl (World.shaped_of_RefB (by kernel_rfl) (by kernel_rfl)) (by kernel_rfl) (by kernel_rfl) (by kernel_rfl) (qnP os _)) ?_
 intro W qc qA ds gs before hval hW _ hwt hL _
 exact law_contract qdG Tryz.func3 rfl [(.sl (.pair (.pair tQi (.pair tQi (.pair (.sl (.int .u8)) (.sl tQr)))) (.pair tQi (.pair tQi (.pair tQi .bool)))), false), (.int .i64, false)] (tb := 4) (by kernel_rfl) (by kernel_rfl) (by kernel_rfl) rfl
  (fun ds h => by match ds, h with | [_, _], _ => rfl) Tryz.laidOut Tryz.mapsRow Tryz.slicesSize (fun y hg => ⟨BIG, qgA y.1 y.2.1 (fun x hx => ql3 (hg.1.2 x hx).1.2.2.1)⟩) W qc qA ds gs before hval hW hwt (qmV hL)
theorem qhz : Rows.TrafficRowsSaid :=
 OpenClaim.holds_of_wide 3 Tryz.f3 rfl rfl rfl rfl rfl rfl rfl ⟨rfl, rfl, rfl, rfl, rfl⟩ rfl rfl rfl rfl rfl (by kernel_rfl) Tryz.func3 (by kernel_rfl)
  (of_decide_eq_true (by kernel_rfl)) (by unfold Func.isWrapper; first | (rw [if_pos (by decide +kernel)]; kernel_rfl) | (rw [if_neg (by decide +kernel)]; exact ⟨rfl, rfl⟩))
  (fun os started H enc _ => qfR os started H enc)
theorem trafficRows_holds : Rows.TrafficRowsCardSaid :=
 Claim7.holds_tied_plain_at .later [] [.data] true (true, "90511865b6128f7b219185ec73b5a452d86b8ec55f3ff3b0426a2ede2e8e04ca") false
  qhz (fun _ h => by cases h) (by kernel_rfl) (fun _ h => by cases h) trafficRows_row_tie rfl ⟨rfl, rfl⟩ (by kernel_rfl) rfl
  (fun f fn hf hfn => by
   obtain rfl : f = 3 := Option.some.inj ((show Tryz.prog.funcNamed "polyglot/polyglotlaw43.TrafficRows" = some 3 by kernel_rfl).symm.trans hf) |>.symm
   obtain rfl : fn = Tryz.f3 := (Option.some.inj (Tryz.func3.symm.trans hfn)).symm
   exact ⟨by kernel_rfl, fun j t ht => by
    have hm : t ∈ Tryz.f3.params.toList := by simpa using Array.mem_of_getElem? ht
    have hall : (Tryz.f3.params.toList.all fun u => !Tryz.prog.wantsStandIn u) = true := by kernel_rfl
    exact (show Tryz.prog.wantsStandIn t = false by simpa using List.all_eq_true.1 hall t hm)⟩)
  (by kernel_rfl)
end
end Go.Proofs.YtgaakgeemnkeeaaGreatDoor
