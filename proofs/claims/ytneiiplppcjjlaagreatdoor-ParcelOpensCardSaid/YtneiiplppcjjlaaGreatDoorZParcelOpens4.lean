/- ParcelOpens, part 4: what the row leans on. -/
import Derived.Test.YtneiiplppcjjlaaGreatDoorZParcelOpens3
set_option linter.unusedVariables false
set_option linter.unusedSimpArgs false
set_option maxRecDepth 100000
namespace Go.Proofs.YtneiiplppcjjlaaGreatDoor
open Go.Den
noncomputable section
theorem varint_Zag.eq (fuel : Nat) (v : Int) : (denF varint_Zag_E loopN fuel Tryz.f123 [.raw] [.d (.int .u64) v] [] varint_Zag.k) = varint_Zag.f fuel v := by
 kernel_rfl
def s_varint_Zag : Den.Sum := ⟨[.raw], fun args objs κ => match args, objs with
 | [.d (.int .u64) v], [] => (match veil (varint_Zag.f BIG v) with | none => none | some y => κ [.d (.int .i64) y] [])
 | _, _ => none⟩
theorem s_varint_Zag_det : SumDet s_varint_Zag := fun avs objs R κ => by
 show s_varint_Zag.run avs objs (two κ) = (s_varint_Zag.run avs objs (two some)).bind κ
 unfold s_varint_Zag
 simp only [veil_eq]
 split
 ·split <;> rfl
 ·rfl
theorem s_varint_Zag_ok : SumOk Tryz.prog 123 s_varint_Zag := by
 have hE : EnvOk Tryz.prog varint_Zag_E := env_ok (l := []) th_ok any_ok trivial _
 refine sum_ok hE Tryz.func123 rfl (by kernel_rfl) s_varint_Zag [.raw] varint_Zag.k ?_
 intro R avs objs κ r h
 unfold s_varint_Zag at h
 simp only [veil_eq] at h
 split at h
 ·rename_i v
  split at h
  ·cases h
  ·rename_i y hy
   refine ⟨BIG, _, _, _, (varint_Zag.eq BIG v).trans hy, ?_, h⟩
   intro rs ros hk
   unfold varint_Zag.k at hk
   split at hk
   ·first | (cases hk; exact ⟨rfl, rfl⟩) | (have e := Option.some.inj hk; rw [← e]; exact ⟨rfl, rfl⟩)
   ·cases hk
 ·cases h
def gen3_Head_E : Env := ⟨th, gam [(51, s_read), (74, s_gen3_reader_head)], fun i => ⟨[], [], []⟩⟩
def gen3_Head.k (rs : List AV) (os : List Den.Obj) : Option (Int × Int × Int × Int × Int × Int × Int × Int × Int × Int × LR × Int) :=
 match rs, os with
 | [.agg [.d (.int .i64) r0, .d (.int .i64) r1, .d (.int .i64) r2, .d (.int .i64) r3, .d (.int .i64) r4, .d (.int .i64) r5, .d (.int .i64) r6, .d (.int .i64) r7, .d (.int .i64) r8, .d (.int .i64) r9, .d (.sl (.pair (.int .i64) (.pair (.int .i64) (.pair (.int .i64) (.pair (.pair (.int .i64) (.int .i64)) (.pair .bool (.sl (.pair (.int .i64) (.sl (.int .u8)))))))))) r10], .d (.int .i64) r11], [] => some (r0, r1, r2, r3, r4, r5, r6, r7, r8, r9, r10, r11)
 | _, _ => none
def gen3_Head.b (b : List Int) : Option (Int × Int × Int × Int × Int × Int × Int × Int × Int × Int × LR × Int) :=
 (if (inB b) then (match (veil (gen3_reader_head.f BIG b 0 false false)) with | none => none | some y0 => (if y0.2.2.2.2.2.2.2.2.2.2.2.1 then some (0, 0, 0, 0, 0, 0, 0, 0, 0, 0, ([] : LR), (4 : Int)) else some (y0.1, y0.2.1, y0.2.2.1, y0.2.2.2.1, y0.2.2.2.2.1, y0.2.2.2.2.2.1, y0.2.2.2.2.2.2.1, y0.2.2.2.2.2.2.2.1, y0.2.2.2.2.2.2.2.2.1, y0.2.2.2.2.2.2.2.2.2.1, y0.2.2.2.2.2.2.2.2.2.2.1, (0 : Int)))) else none)
def gen3_Head.f (fuel : Nat) (b : List Int) : Option (Int × Int × Int × Int × Int × Int × Int × Int × Int × Int × LR × Int) := gen3_Head.b b
theorem gen3_Head.eq (fuel : Nat) (b : List Int) : (denF gen3_Head_E loopN fuel Tryz.f54 [.dat (.pair (.int .i64) (.pair (.int .i64) (.pair (.int .i64) (.pair (.pair (.int .i64) (.int .i64)) (.pair (.int .i64) (.pair (.int .i64) (.pair (.int .i64) (.pair (.int .i64) (.pair (.int .i64) (.sl (.pair (.int .i64) (.pair (.int .i64) (.pair (.int .i64) (.pair (.pair (.int .i64) (.int .i64)) (.pair .bool (.sl (.pair (.int .i64) (.sl (.int .u8))))))))))))))))))) true, .raw] [.d (.sl (.int .u8)) b] [] gen3_Head.k) = gen3_Head.f fuel b := by
 kernel_rfl
def s_gen3_Head : Den.Sum := ⟨[.dat (.sl (.int .u8)) false], fun args objs κ => match args, objs with
 | [.d (.sl (.int .u8)) b], [] => (match veil (gen3_Head.f BIG b) with | none => none | some y => κ [.agg [.d (.int .i64) y.1, .d (.int .i64) y.2.1, .d (.int .i64) y.2.2.1, .d (.int .i64) y.2.2.2.1, .d (.int .i64) y.2.2.2.2.1, .d (.int .i64) y.2.2.2.2.2.1, .d (.int .i64) y.2.2.2.2.2.2.1, .d (.int .i64) y.2.2.2.2.2.2.2.1, .d (.int .i64) y.2.2.2.2.2.2.2.2.1, .d (.int .i64) y.2.2.2.2.2.2.2.2.2.1, .d (.sl (.pair (.int .i64) (.pair (.int .i64) (.pair (.int .i64) (.pair (.pair (.int .i64) (.int .i64)) (.pair .bool (.sl (.pair (.int .i64) (.sl (.int .u8)))))))))) y.2.2.2.2.2.2.2.2.2.2.1], .d (.int .i64) y.2.2.2.2.2.2.2.2.2.2.2] [])
 | _, _ => none⟩
theorem s_gen3_Head_det : SumDet s_gen3_Head := fun avs objs R κ => by
 show s_gen3_Head.run avs objs (two κ) = (s_gen3_Head.run avs objs (two some)).bind κ
 unfold s_gen3_Head
 simp only [veil_eq]
 split
 ·split <;> rfl
 ·rfl
theorem s_gen3_Head_ok : SumOk Tryz.prog 54 s_gen3_Head := by
 have hE : EnvOk Tryz.prog gen3_Head_E := env_ok (l := [(51, s_read), (74, s_gen3_reader_head)]) th_ok any_ok ⟨⟨s_read_ok, s_read_det⟩, ⟨s_gen3_reader_head_ok, s_gen3_reader_head_det⟩, trivial⟩ _
 refine sum_ok hE Tryz.func54 rfl (by kernel_rfl) s_gen3_Head [.dat (.pair (.int .i64) (.pair (.int .i64) (.pair (.int .i64) (.pair (.pair (.int .i64) (.int .i64)) (.pair (.int .i64) (.pair (.int .i64) (.pair (.int .i64) (.pair (.int .i64) (.pair (.int .i64) (.sl (.pair (.int .i64) (.pair (.int .i64) (.pair (.int .i64) (.pair (.pair (.int .i64) (.int .i64)) (.pair .bool (.sl (.pair (.int .i64) (.sl (.int .u8))))))))))))))))))) true, .raw] gen3_Head.k ?_
 intro R avs objs κ r h
 unfold s_gen3_Head at h
 simp only [veil_eq] at h
 split at h
 ·rename_i b
  split at h
  ·cases h
  ·rename_i y hy
   refine ⟨BIG, _, _, _, (gen3_Head.eq BIG b).trans hy, ?_, h⟩
   intro rs ros hk
   unfold gen3_Head.k at hk
   split at hk
   ·first | (cases hk; exact ⟨rfl, rfl⟩) | (have e := Option.some.inj hk; rw [← e]; exact ⟨rfl, rfl⟩)
   ·cases hk
 ·cases h
theorem Head3.pure {bs : List Int} (hb : inB bs = true) : gen3_Head.f BIG bs = some (match hdS bs with
  | none => (0, 0, 0, 0, 0, 0, 0, 0, 0, 0, [], 4)
  | some (k, f, i, lo, hi, s, t, l, e, b, _) => (k, f, i, lo, hi, s, t, l, e, b, [], 0)) := by
 unfold gen3_Head.f gen3_Head.b
 simp only [veil_eq]
 rw [if_pos hb]
 have h := head.pure bs hb
 cases hs : hdS bs with
 | none =>
  rw [hs] at h
  obtain ⟨k, f, i, lo, hi, s, t, l, e, b, a, bad, h⟩ := h
  rw [h]
  rfl
 | some x =>
  obtain ⟨k, f, i, lo, hi, s, t, l, e, b, a⟩ := x
  rw [hs] at h
  dsimp only at h
  rw [h.1]
  rfl
abbrev M12 := Int × Int × Int × Int × Int × Int × Int × Int × Int × Int × LR × Int
def z12 (e : Int) : M12 := (0, 0, 0, 0, 0, 0, 0, 0, 0, 0, [], e)
def bareX (m : M12) : M12 := (m.1, m.2.1, m.2.2.1, m.2.2.2.1, m.2.2.2.2.1, m.2.2.2.2.2.1, m.2.2.2.2.2.2.1, m.2.2.2.2.2.2.2.1, m.2.2.2.2.2.2.2.2.1, m.2.2.2.2.2.2.2.2.2.1, [], m.2.2.2.2.2.2.2.2.2.2.2)
def errX (m : M12) : Int := m.2.2.2.2.2.2.2.2.2.2.2
def baseX (m : M12) : Int := m.2.2.2.2.2.2.2.2.2.1
def recsX (m : M12) : LR := m.2.2.2.2.2.2.2.2.2.2.1
def validX (m : M12) : Prop := validF m.1 m.2.1 m.2.2.1 m.2.2.2.1 m.2.2.2.2.1 m.2.2.2.2.2.1 m.2.2.2.2.2.2.1 m.2.2.2.2.2.2.2.1 m.2.2.2.2.2.2.2.2.1 m.2.2.2.2.2.2.2.2.2.1 m.2.2.2.2.2.2.2.2.2.2.1 = true
def okM (m : MSG3) : M12 := (m.1, m.2.1, m.2.2.1, m.2.2.2.1, m.2.2.2.2.1, m.2.2.2.2.2.1, m.2.2.2.2.2.2.1, m.2.2.2.2.2.2.2.1, m.2.2.2.2.2.2.2.2.1, m.2.2.2.2.2.2.2.2.2.1, m.2.2.2.2.2.2.2.2.2.2, 0)
def dec3 (b : List Int) (base : LR) : M12 :=
 if sortedF base = true then (match decS b base with
  | none => z12 4
  | some m => okM m) else z12 1
def head3X (b : List Int) : M12 := match hdS b with
 | none => z12 4
 | some (k, f, i, lo, hi, s, t, l, e, b, _) => (k, f, i, lo, hi, s, t, l, e, b, [], 0)
theorem dec3_ok {b : List Int} {base : LR} (hb : ∀ c ∈ b, 0 ≤ c ∧ c ≤ 255) (h : errX (dec3 b base) = 0) :
  validX (dec3 b base) ∧ enc3 (dec3 b base).1 (dec3 b base).2.1 (dec3 b base).2.2.1 (dec3 b base).2.2.2.1 (dec3 b base).2.2.2.2.1 (dec3 b base).2.2.2.2.2.1 (dec3 b base).2.2.2.2.2.2.1 (dec3 b base).2.2.2.2.2.2.2.1 (dec3 b base).2.2.2.2.2.2.2.2.1 (dec3 b base).2.2.2.2.2.2.2.2.2.1 (dec3 b base).2.2.2.2.2.2.2.2.2.2.1 base = (b, 0) ∧ head3X b = bareX (dec3 b base) := by
 unfold dec3 at h ⊢
 by_cases hs : sortedF base = true
 ·rw [if_pos hs] at h ⊢
  cases hd : decS b base with
  | none => rw [hd] at h; exact absurd h (by unfold errX z12; decide)
  | some m =>
   obtain ⟨k, f, i, lo, hi, s, t, l, e, b', rs⟩ := m
   obtain ⟨e1, e2, e3, a, e4⟩ := decS_sound hb hd
   dsimp only [okM]
   refine ⟨e2, ?_, ?_⟩
   ·unfold enc3
    rw [e2, hs, e1]
    simp only [Bool.and_self, if_true]
    rw [if_neg (by omega)]
   ·unfold head3X
    rw [e4]
    all_goals rfl
 ·rw [if_neg hs] at h
  exact absurd h (by unfold errX z12; decide)
theorem dec3_no {b : List Int} {base : LR} (h : errX (dec3 b base) ≠ 0) : dec3 b base = z12 (errX (dec3 b base)) := by
 unfold dec3 at h ⊢
 by_cases hs : sortedF base = true
 ·rw [if_pos hs] at h ⊢
  cases hd : decS b base with
  | none => rfl
  | some m => rw [hd] at h; exact absurd rfl h
 ·rw [if_neg hs]; all_goals rfl
theorem enc3_back {k f i lo hi s t l e b : Int} {recs base : LR} (hs : sortedF base = true) (h : (enc3 k f i lo hi s t l e b recs base).2 = 0) :
  dec3 (enc3 k f i lo hi s t l e b recs base).1 base = (k, f, i, lo, hi, s, t, l, e, b, recs, 0) ∧ validF k f i lo hi s t l e b recs = true ∧ (enc3 k f i lo hi s t l e b recs base).1.length ≤ 65499 := by
 unfold enc3 at h ⊢
 cases hv : validF k f i lo hi s t l e b recs with
 | false => rw [hv] at h; exact absurd h (by simp)
 | true =>
  rw [hv, hs] at h
  rw [hs]
  simp only [Bool.and_self, if_true] at h ⊢
  by_cases hl : (body3 k f i lo hi s t l e b recs base).length > 65499
  ·rw [if_pos hl] at h; exact absurd h (by decide)
  ·rw [if_neg hl]
   dsimp only
   refine ⟨?_, trivial, by omega⟩
   unfold dec3
   rw [if_pos hs, decS_back (sorted_facts hs).1 hv (by omega)]
   all_goals rfl
def readX (gen : Int) (b : List Int) (base : LR) : M12 :=
 if gen == 1 then ((decF b).1, (decF b).2.1, (decF b).2.2.1, (decF b).2.2.2.1, (decF b).2.2.2.2.1, (decF b).2.2.2.2.2.1, (decF b).2.2.2.2.2.2.1, 0, 0, 0, (decF b).2.2.2.2.2.2.2.1, (decF b).2.2.2.2.2.2.2.2)
 else if gen == 2 then ((decF2 b).1, (decF2 b).2.1, (decF2 b).2.2.1, (decF2 b).2.2.2.1, (decF2 b).2.2.2.2.1, (decF2 b).2.2.2.2.2.1, (decF2 b).2.2.2.2.2.2.1, 0, 0, 0, (decF2 b).2.2.2.2.2.2.2.1, (decF2 b).2.2.2.2.2.2.2.2)
 else if gen == 3 then dec3 b base else z12 5
def writeX (gen : Int) (k f i lo hi s t l e b : Int) (recs base : LR) : List Int × Int :=
 if gen == 1 then encF k f i lo hi s t l e b recs else if gen == 2 then enc2 k f i lo hi s t l e b recs else if gen == 3 then enc3 k f i lo hi s t l e b recs base else ([], 5)
def peekX (gen : Int) (b : List Int) : M12 := if gen == 3 then head3X b else bareX (readX gen b [])
def putX (gen : Int) (m : M12) (base : LR) : List Int × Int :=
 writeX gen m.1 m.2.1 m.2.2.1 m.2.2.2.1 m.2.2.2.2.1 m.2.2.2.2.2.1 m.2.2.2.2.2.2.1 m.2.2.2.2.2.2.2.1 m.2.2.2.2.2.2.2.2.1 m.2.2.2.2.2.2.2.2.2.1 m.2.2.2.2.2.2.2.2.2.2.1 base
theorem smallR_of {recs : LR} (hr : ∀ r ∈ recs, recOkT r = true) (hn : recs.length < 1000000000) : smallRecs recs = true :=
 (smallRecs_iff _).2 ⟨by omega, fun r h => by
  have := (recOk_facts (hr r h)).2.2.2.2.2.2.2.1
  have h1 := bagOk_len this
  exact (smallBag_iff _).2 ⟨by omega, fun x hx => by have := bag_tags this x hx; omega⟩⟩
theorem valid_small {k f i lo hi s t l e b : Int} {recs : LR} (h : validF k f i lo hi s t l e b recs = true) : smallRecs recs = true := by
 have := valid_facts h
 exact smallR_of this.2.2.2.2.2.2.2.2.2.2.2.2.2 (by have := this.2.2.2.2.2.2.2.2.2.2.2.2.1; omega)
theorem readX_ok {gen : Int} {b : List Int} {base : LR} (hb : ∀ c ∈ b, 0 ≤ c ∧ c ≤ 255) (hl : b.length < 1000000000) (h : errX (readX gen b base) = 0) :
  validX (readX gen b base) ∧ putX gen (readX gen b base) base = (b, 0) ∧ 1 ≤ gen ∧ gen ≤ 3 := by
 unfold readX at h ⊢
 by_cases h1 : gen = 1
 ·subst h1
  rw [if_pos (by simp)] at h ⊢
  obtain ⟨i1, i2, i3⟩ := image b ((inB_iff b).2 ⟨by omega, hb⟩) h
  have hv := (fits_facts (by rw [← fits_same]; exact i1)).1
  refine ⟨hv, ?_, by omega, by omega⟩
  unfold putX writeX
  rw [if_pos (by simp)]
  dsimp only
  unfold encF
  rw [hv, i1, i2]
  all_goals rfl
 ·rw [if_neg (by simpa using h1)] at h ⊢
  by_cases h2 : gen = 2
  ·subst h2
   rw [if_pos (by simp)] at h ⊢
   obtain ⟨i1, i2, i3⟩ := image2 b (inS_of hb hl) h
   have hv := (fits2_facts i1).1
   refine ⟨hv, ?_, by omega, by omega⟩
   unfold putX writeX
   rw [if_neg (by simp), if_pos (by simp)]
   dsimp only
   unfold enc2
   rw [hv, i1, i2]
   all_goals rfl
  ·rw [if_neg (by simpa using h2)] at h ⊢
   by_cases h3 : gen = 3
   ·subst h3
    rw [if_pos (by simp)] at h ⊢
    obtain ⟨d1, d2, d3⟩ := dec3_ok hb h
    refine ⟨d1, ?_, by omega, by omega⟩
    unfold putX writeX
    rw [if_neg (by simp), if_neg (by simp), if_pos (by simp)]
    exact d2
   ·rw [if_neg (by simpa using h3)] at h
    exact absurd h (by unfold errX z12; decide)
theorem readX_no {gen : Int} {b : List Int} {base : LR} (h : errX (readX gen b base) ≠ 0) : readX gen b base = z12 (errX (readX gen b base)) := by
 unfold readX at h ⊢
 by_cases h1 : gen = 1
 ·subst h1
  rw [if_pos (by simp)] at h ⊢
  rw [dec_fail b h]; all_goals rfl
 ·rw [if_neg (by simpa using h1)] at h ⊢
  by_cases h2 : gen = 2
  ·subst h2
   rw [if_pos (by simp)] at h ⊢
   rw [dec2_fail b h]; all_goals rfl
  ·rw [if_neg (by simpa using h2)] at h ⊢
   by_cases h3 : gen = 3
   ·subst h3
    rw [if_pos (by simp)] at h ⊢
    exact dec3_no h
   ·rw [if_neg (by simpa using h3)]; all_goals rfl
theorem readX_small {gen : Int} {b : List Int} {base : LR} (hb : ∀ c ∈ b, 0 ≤ c ∧ c ≤ 255) (hl : b.length < 1000000000) : smallRecs (recsX (readX gen b base)) = true := by
 by_cases h : errX (readX gen b base) = 0
 ·exact valid_small (readX_ok hb hl h).1
 ·rw [readX_no h]; all_goals rfl
theorem gen_cases {gen : Int} (P : Int → Prop) (h1 : P 1) (h2 : P 2) (h3 : P 3) (h0 : gen ≠ 1 → gen ≠ 2 → gen ≠ 3 → P gen) : P gen := by
 by_cases e1 : gen = 1
 ·subst e1; exact h1
 ·by_cases e2 : gen = 2
  ·subst e2; exact h2
  ·by_cases e3 : gen = 3
   ·subst e3; exact h3
   ·exact h0 e1 e2 e3
theorem writeX1 (k f i lo hi s t l e b : Int) (recs base : LR) : writeX 1 k f i lo hi s t l e b recs base = encF k f i lo hi s t l e b recs := rfl
theorem writeX2 (k f i lo hi s t l e b : Int) (recs base : LR) : writeX 2 k f i lo hi s t l e b recs base = enc2 k f i lo hi s t l e b recs := rfl
theorem writeX3 (k f i lo hi s t l e b : Int) (recs base : LR) : writeX 3 k f i lo hi s t l e b recs base = enc3 k f i lo hi s t l e b recs base := rfl
theorem writeX0 {gen : Int} (h1 : gen ≠ 1) (h2 : gen ≠ 2) (h3 : gen ≠ 3) (k f i lo hi s t l e b : Int) (recs base : LR) : writeX gen k f i lo hi s t l e b recs base = ([], 5) := by
 unfold writeX
 rw [if_neg (by simpa using h1), if_neg (by simpa using h2), if_neg (by simpa using h3)]
theorem readX1 (b : List Int) (base : LR) : readX 1 b base = ((decF b).1, (decF b).2.1, (decF b).2.2.1, (decF b).2.2.2.1, (decF b).2.2.2.2.1, (decF b).2.2.2.2.2.1, (decF b).2.2.2.2.2.2.1, 0, 0, 0, (decF b).2.2.2.2.2.2.2.1, (decF b).2.2.2.2.2.2.2.2) := rfl
theorem readX2 (b : List Int) (base : LR) : readX 2 b base = ((decF2 b).1, (decF2 b).2.1, (decF2 b).2.2.1, (decF2 b).2.2.2.1, (decF2 b).2.2.2.2.1, (decF2 b).2.2.2.2.2.1, (decF2 b).2.2.2.2.2.2.1, 0, 0, 0, (decF2 b).2.2.2.2.2.2.2.1, (decF2 b).2.2.2.2.2.2.2.2) := rfl
theorem readX3 (b : List Int) (base : LR) : readX 3 b base = dec3 b base := rfl
theorem enc1_ok {k f i lo hi s t l e b : Int} {recs : LR} (h : (encF k f i lo hi s t l e b recs).2 = 0) : validF k f i lo hi s t l e b recs = true ∧ fits1 k f i lo hi s t l e b recs = true ∧ l = 0 ∧ e = 0 ∧ b = 0 ∧ encF k f i lo hi s t l e b recs = (bodyF k f i lo hi s t recs, 0) := by
 unfold encF at h ⊢
 cases hv : validF k f i lo hi s t l e b recs with
 | false => rw [hv] at h; exact absurd h (by simp)
 | true =>
  rw [hv] at h
  cases hf : fits1 k f i lo hi s t l e b recs with
  | false => rw [hf] at h; exact absurd h (by simp)
  | true =>
   have hf' := hf
   rw [fits_same] at hf'
   obtain ⟨h1, h2, h3⟩ := fitsL_zero hf'
   exact ⟨rfl, rfl, h1, h2, h3, rfl⟩
theorem enc2_ok {k f i lo hi s t l e b : Int} {recs : LR} (h : (enc2 k f i lo hi s t l e b recs).2 = 0) : validF k f i lo hi s t l e b recs = true ∧ k ≠ 9 ∧ l = 0 ∧ e = 0 ∧ b = 0 ∧ fit2Go recs = true ∧ (body2 k f i lo hi s t recs).length ≤ 65499 ∧ enc2 k f i lo hi s t l e b recs = (body2 k f i lo hi s t recs, 0) := by
 unfold enc2 at h ⊢
 cases hv : validF k f i lo hi s t l e b recs with
 | false => rw [hv] at h; exact absurd h (by simp)
 | true =>
  rw [hv] at h
  cases hf : fits2 k f i lo hi s t l e b recs with
  | false => rw [hf] at h; exact absurd h (by simp)
  | true =>
   have hf' := hf
   rw [fits2_same] at hf'
   obtain ⟨_, h9, h1, h2, h3, h2', hlen⟩ := fits13_facts hf'
   exact ⟨rfl, h9, h1, h2, h3, h2', hlen, rfl⟩
theorem write_back {gen : Int} {k f i lo hi s t l e b : Int} {recs base : LR} (hbase : gen = 3 → sortedF base = true) (h : (writeX gen k f i lo hi s t l e b recs base).2 = 0) :
  readX gen (writeX gen k f i lo hi s t l e b recs base).1 base = (k, f, i, lo, hi, s, t, l, e, b, recs, 0) ∧ validF k f i lo hi s t l e b recs = true ∧ (writeX gen k f i lo hi s t l e b recs base).1.length ≤ 65499 ∧ 1 ≤ gen ∧ gen ≤ 3 := by
 revert hbase h
 refine gen_cases (gen := gen) (fun gen => (gen = 3 → sortedF base = true) → (writeX gen k f i lo hi s t l e b recs base).2 = 0 → readX gen (writeX gen k f i lo hi s t l e b recs base).1 base = (k, f, i, lo, hi, s, t, l, e, b, recs, 0) ∧ validF k f i lo hi s t l e b recs = true ∧ (writeX gen k f i lo hi s t l e b recs base).1.length ≤ 65499 ∧ 1 ≤ gen ∧ gen ≤ 3) ?_ ?_ ?_ ?_
 ·intro _ h
  rw [writeX1] at h ⊢
  obtain ⟨hv, hf, rfl, rfl, rfl, he⟩ := enc1_ok h
  rw [readX1, he]
  dsimp only
  rw [back k f i lo hi s t recs hf]
  have := body_len k f i lo hi s t recs
  have hlen := (valid_facts hv).2.2.2.2.2.2.2.2.2.2.2.2.1
  exact ⟨rfl, hv, by omega, by omega, by omega⟩
 ·intro _ h
  rw [writeX2] at h ⊢
  obtain ⟨hv, h9, rfl, rfl, rfl, h2, hl, he⟩ := enc2_ok h
  rw [readX2, he]
  dsimp only
  rw [back2 hv h9 h2 hl]
  exact ⟨rfl, hv, hl, by omega, by omega⟩
 ·intro hs h
  rw [writeX3] at h ⊢
  rw [readX3]
  obtain ⟨q1, q2, q3⟩ := enc3_back (hs rfl) h
  exact ⟨q1, q2, q3, by omega, by omega⟩
 ·intro h1 h2 h3 _ h
  rw [writeX0 h1 h2 h3] at h
  exact absurd h (by simp)
def isB (l : List Int) : Prop := ∀ c ∈ l, 0 ≤ c ∧ c ≤ 255
theorem isB_nil : isB [] := by simp [isB]
theorem isB_app {l m : List Int} (h1 : isB l) (h2 : isB m) : isB (l ++ m) := fun c hc => by
 rcases List.mem_append.1 hc with h | h
 ·exact h1 c h
 ·exact h2 c h
theorem isB_cons {x : Int} {m : List Int} (h0 : 0 ≤ x) (h1 : x ≤ 255) (h2 : isB m) : isB (x :: m) := fun c hc => by
 rcases List.mem_cons.1 hc with rfl | h
 ·exact ⟨h0, h1⟩
 ·exact h2 c h
theorem isB_if {b : Bool} {l : List Int} (h : isB l) : isB (if b = true then l else []) := by
 cases b
 ·exact isB_nil
 ·exact h
theorem isB_if2 {b : Bool} {l : List Int} (h : isB l) : isB (if b = true then [] else l) := by
 cases b
 ·exact h
 ·exact isB_nil
theorem viF_bytes : ∀ (j : Nat) (v : Int), 0 ≤ v → v < 2 * 128 ^ j → isB (viF j v)
 | 0, v, h0, h1 => by
  rw [viF]
  exact isB_cons h0 (by simp at h1; omega) isB_nil
 | j + 1, v, h0, h1 => by
  rw [viF]
  by_cases h : v ≥ 128
  ·rw [if_pos h]
   exact isB_cons (by omega) (by omega) (viF_bytes j (v / 128) (by omega) (by rw [Int.pow_succ] at h1; generalize (128 : Int) ^ j = M at h1 ⊢; omega))
  ·rw [if_neg h]
   exact isB_cons h0 (by omega) isB_nil
theorem vi_bytes {v : Int} (h0 : 0 ≤ v) (h1 : v < 18446744073709551616) : isB (vi v) := viF_bytes 9 v h0 (by simpa using h1)
theorem fld3_bytes {x : Int × List Int} (h0 : 0 ≤ x.1) (h1 : x.1 ≤ 255) (h2 : x.2.length ≤ 4096) (h3 : isB x.2) : isB (fld3 x) :=
 isB_cons h0 h1 (isB_app (vi_bytes (by omega) (by omega)) h3)
theorem bag3_bytes {b : LF} (h : bagOk b = true) (hb : ∀ x ∈ b, isB x.2) : isB (bag3 b) := by
 have hl := bagOk_len h
 have ht := bag_tags h
 exact isB_app (vi_bytes (by omega) (by omega)) (flat_mem fun x hx => fld3_bytes (by have := ht x hx; omega) (ht x hx).2.1 (ht x hx).2.2 (hb x hx))
theorem flagV_range {o : REC × Bool} {r : REC} (hr : recOkT r = true) : 0 ≤ flagV o r ∧ flagV o r ≤ 31 := by
 obtain ⟨f1, f2, f3, f4, f5, f6, _⟩ := recOk_facts hr
 unfold flagV
 split <;> split <;> split <;> omega
theorem rec3_bytes {base : LR} (hbase : ∀ x ∈ base, recOkT x = true) {last : Int} {r : REC} (hr : recOkT r = true) (h1 : -1 ≤ last) (h2 : last < r.1) (hb : ∀ x ∈ r.2.2.2.2.2, isB x.2) : isB (rec3 (oldR base r.1) last r) := by
 obtain ⟨f1, f2, f3, f4, f5, f6, f7, f8, f9⟩ := recOk_facts hr
 obtain ⟨o0, o1⟩ := old_inc hbase r.1
 obtain ⟨z0, z1⟩ := tk_bound f3 f4 o0 o1
 obtain ⟨g0, g1⟩ := flagV_range (o := oldR base r.1) hr
 have hs := (okS_iff _ _).1 f7
 unfold rec3
 exact isB_app (vi_bytes (by omega) (by omega)) (isB_cons g0 (by omega) (isB_app (isB_if2 (isB_cons (by omega) (by omega) isB_nil)) (isB_app (vi_bytes z0 (by omega)) (isB_if2 (bag3_bytes f8 hb)))))
theorem recs3_bytes {base : LR} (hbase : ∀ x ∈ base, recOkT x = true) : ∀ (l : LR) (last : Int), (∀ r ∈ l, recOkT r = true) → -1 ≤ last → risen last l → byteBags l → isB (recs3 base last l)
 | [], _, _, _, _, _ => isB_nil
 | r :: l, last, hr, h1, h2, hb => by
  have hm := hr r (List.mem_cons_self ..)
  have hid := (recOk_facts hm).1
  exact isB_app (rec3_bytes hbase hm h1 h2.1 (hb r (List.mem_cons_self ..))) (recs3_bytes hbase l r.1 (fun x hx => hr x (List.mem_cons_of_mem _ hx)) (by omega) h2.2 (fun x hx => hb x (List.mem_cons_of_mem _ hx)))
theorem body3_bytes {k f i lo hi s t l e b : Int} {recs base : LR} (hv : validF k f i lo hi s t l e b recs = true) (hbase : ∀ x ∈ base, recOkT x = true) (hb : byteBags recs) : isB (body3 k f i lo hi s t l e b recs base) := by
 obtain ⟨v1, v2, v3, v4, v5, v6, v7, v8, v9, v10, v11, v12, v13, v14⟩ := valid_facts hv
 obtain ⟨w1, w2, w3, w4, w5, w6, _⟩ := lives_facts v12
 obtain ⟨_, hris⟩ := valid_recs hv
 have hs := (okS_iff _ _).1 v7
 rw [hd3_body]
 unfold hd3
 exact isB_cons (by omega) (by omega) (isB_app (vi_bytes v3 (by omega)) (isB_app (vi_bytes v5 (by omega)) (isB_cons (by omega) (by omega) (isB_app (isB_if (vi_bytes v8 (by omega))) (isB_app (isB_if (vi_bytes v10 (by omega))) (isB_app (isB_if (vi_bytes w1 (by omega))) (isB_app (isB_if (vi_bytes w3 (by omega))) (isB_app (isB_if (vi_bytes w5 (by omega))) (isB_app (isB_if (vi_bytes (by omega) (by omega))) (recs3_bytes (baseF_all hbase b) recs (-1) v14 (by omega) hris hb))))))))))
theorem write_no {gen : Int} {k f i lo hi s t l e b : Int} {recs base : LR} (h : (writeX gen k f i lo hi s t l e b recs base).2 ≠ 0) : (writeX gen k f i lo hi s t l e b recs base).1 = [] := by
 revert h
 refine gen_cases (gen := gen) (fun gen => (writeX gen k f i lo hi s t l e b recs base).2 ≠ 0 → (writeX gen k f i lo hi s t l e b recs base).1 = []) ?_ ?_ ?_ ?_
 ·rw [writeX1]
  unfold encF
  cases validF k f i lo hi s t l e b recs <;> cases fits1 k f i lo hi s t l e b recs <;> simp
 ·rw [writeX2]
  unfold enc2
  cases validF k f i lo hi s t l e b recs <;> cases fits2 k f i lo hi s t l e b recs <;> simp
 ·rw [writeX3]
  unfold enc3
  split
  ·split
   ·intro _; rfl
   ·intro h; exact absurd rfl h
  ·intro _; rfl
 ·intro h1 h2 h3 _
  rw [writeX0 h1 h2 h3]
theorem write_bytes {gen : Int} {k f i lo hi s t l e b : Int} {recs base : LR} (hbase : gen = 3 → sortedF base = true) (hb : byteBags recs) : isB (writeX gen k f i lo hi s t l e b recs base).1 ∧ (writeX gen k f i lo hi s t l e b recs base).1.length ≤ 65499 := by
 by_cases h : (writeX gen k f i lo hi s t l e b recs base).2 = 0
 ·obtain ⟨_, hv, hl, _⟩ := write_back hbase h
  refine ⟨?_, hl⟩
  have hv' := valid_facts hv
  revert h hbase
  refine gen_cases (gen := gen) (fun gen => (gen = 3 → sortedF base = true) → (writeX gen k f i lo hi s t l e b recs base).2 = 0 → isB (writeX gen k f i lo hi s t l e b recs base).1) ?_ ?_ ?_ ?_
  ·intro _ h
   rw [writeX1] at h ⊢
   obtain ⟨_, _, _, _, _, he⟩ := enc1_ok h
   rw [he]
   exact ((inB_iff _).1 (body_bytes k f i lo hi s t recs hv'.2.2.2.2.2.2.2.2.2.2.2.2.1)).2
  ·intro _ h
   rw [writeX2] at h ⊢
   obtain ⟨_, _, _, _, _, _, _, he⟩ := enc2_ok h
   rw [he]
   exact body2_bytes hv'.2.2.2.2.2.2.2.2.2.2.2.2.2 hb
  ·intro hs h
   rw [writeX3] at h ⊢
   unfold enc3 at h ⊢
   rw [hv, hs rfl] at h ⊢
   simp only [Bool.and_self, if_true] at h ⊢
   split
   ·exact isB_nil
   ·exact body3_bytes hv (sorted_facts (hs rfl)).1 hb
  ·intro h1 h2 h3 _ _
   rw [writeX0 h1 h2 h3]
   exact isB_nil
 ·rw [write_no h]
  exact ⟨isB_nil, by simp⟩
def gen3_reader_headR_E : Env := ⟨th, gam [(76, s_valid), (41, s_has), (98, s_gen3_reader_form), (52, s_rnumb), (107, s_gen3_reader_span), (84, s_bad)], fun i => ⟨[], [], []⟩⟩
def gen3_reader_headR.k (rs : List AV) (os : List Den.Obj) : Option (Int × Int × Int × Int × Int × Int × Int × Int × Int × Int × Bool × (List Int) × Int × Bool) :=
 match rs, os with
 | [.agg [.d (.int .i64) r0, .d (.int .i64) r1, .d (.int .i64) r2, .d (.int .i64) r3, .d (.int .i64) r4, .d (.int .i64) r5, .d (.int .i64) r6, .d (.int .i64) r7, .d (.int .i64) r8, .d (.int .i64) r9, .nilsl]], [.box [.ptr 1 0, .d .bool r10], .box [.d (.sl (.int .u8)) r11, .d (.int .i64) r12, .d .bool r13]] => some (r0, r1, r2, r3, r4, r5, r6, r7, r8, r9, r10, r11, r12, r13)
 | _, _ => none
def gen3_reader_headR.b (bs : List Int) (at0 : Int) (bad wrong : Bool) : Option (Int × Int × Int × Int × Int × Int × Int × Int × Int × Int × Bool × (List Int) × Int × Bool) :=
 (if (atOk bs at0) then (match (veil (Option.some (readF bs (1 : Int) at0 bad))) with | none => none | some y0 => (match (veil (gen3_reader_form.f BIG bs y0.2.1 y0.2.2 wrong (4095 : Int))) with | none => none | some y1 => (match (veil (gen3_reader_form.f BIG y1.2.2.1 y1.2.2.2.1 y1.2.2.2.2 y1.2.1 (veil (281474976710655 : Int)))) with | none => none | some y2 => (match (veil (gen3_reader_span.f BIG y2.2.2.1 y2.2.2.2.1 y2.2.2.2.2 y2.2.1)) with | none => none | some y3 => (if (hasF y0.1 (0 : Int)) then (match (veil (gen3_reader_form.f BIG y3.2.2.2.1 y3.2.2.2.2.1 y3.2.2.2.2.2 y3.2.2.1 (65535 : Int))) with | none => none | some y4 => (if (hasF y0.1 (1 : Int)) then (match (veil (gen3_reader_form.f BIG y4.2.2.1 y4.2.2.2.1 y4.2.2.2.2 y4.2.1 (4095 : Int))) with | none => none | some y5 => (if (hasF y0.1 (2 : Int)) then (match (veil (gen3_reader_form.f BIG y5.2.2.1 y5.2.2.2.1 y5.2.2.2.2 y5.2.1 (veil (281474976710655 : Int)))) with | none => none | some y6 => (match (veil (gen3_reader_form.f BIG y6.2.2.1 y6.2.2.2.1 y6.2.2.2.2 y6.2.1 (65535 : Int))) with | none => none | some y7 => (if (hasF y0.1 (3 : Int)) then (match (veil (gen3_reader_form.f BIG y7.2.2.1 y7.2.2.2.1 y7.2.2.2.2 y7.2.1 (65535 : Int))) with | none => none | some y8 => (if y8.2.2.2.2 then some (y0.1, y1.1, y2.1, y3.1, y3.2.1, y4.1, y5.1, y6.1, y7.1, y8.1, true, y8.2.2.1, y8.2.2.2.1, y8.2.2.2.2) else (if (!(validF y0.1 y1.1 y2.1 y3.1 y3.2.1 y4.1 y5.1 y6.1 y7.1 y8.1 ([] : LR))) then some (y0.1, y1.1, y2.1, y3.1, y3.2.1, y4.1, y5.1, y6.1, y7.1, y8.1, true, y8.2.2.1, y8.2.2.2.1, y8.2.2.2.2) else some (y0.1, y1.1, y2.1, y3.1, y3.2.1, y4.1, y5.1, y6.1, y7.1, y8.1, y8.2.1, y8.2.2.1, y8.2.2.2.1, y8.2.2.2.2)))) else (if y7.2.2.2.2 then some (y0.1, y1.1, y2.1, y3.1, y3.2.1, y4.1, y5.1, y6.1, y7.1, 0, true, y7.2.2.1, y7.2.2.2.1, y7.2.2.2.2) else (if (!(validF y0.1 y1.1 y2.1 y3.1 y3.2.1 y4.1 y5.1 y6.1 y7.1 0 ([] : LR))) then some (y0.1, y1.1, y2.1, y3.1, y3.2.1, y4.1, y5.1, y6.1, y7.1, 0, true, y7.2.2.1, y7.2.2.2.1, y7.2.2.2.2) else some (y0.1, y1.1, y2.1, y3.1, y3.2.1, y4.1, y5.1, y6.1, y7.1, 0, y7.2.1, y7.2.2.1, y7.2.2.2.1, y7.2.2.2.2)))))) else (if (hasF y0.1 (3 : Int)) then (match (veil (gen3_reader_form.f BIG y5.2.2.1 y5.2.2.2.1 y5.2.2.2.2 y5.2.1 (65535 : Int))) with | none => none | some y9 => (if y9.2.2.2.2 then some (y0.1, y1.1, y2.1, y3.1, y3.2.1, y4.1, y5.1, 0, 0, y9.1, true, y9.2.2.1, y9.2.2.2.1, y9.2.2.2.2) else (if (!(validF y0.1 y1.1 y2.1 y3.1 y3.2.1 y4.1 y5.1 0 0 y9.1 ([] : LR))) then some (y0.1, y1.1, y2.1, y3.1, y3.2.1, y4.1, y5.1, 0, 0, y9.1, true, y9.2.2.1, y9.2.2.2.1, y9.2.2.2.2) else some (y0.1, y1.1, y2.1, y3.1, y3.2.1, y4.1, y5.1, 0, 0, y9.1, y9.2.1, y9.2.2.1, y9.2.2.2.1, y9.2.2.2.2)))) else (if y5.2.2.2.2 then some (y0.1, y1.1, y2.1, y3.1, y3.2.1, y4.1, y5.1, 0, 0, 0, true, y5.2.2.1, y5.2.2.2.1, y5.2.2.2.2) else (if (!(validF y0.1 y1.1 y2.1 y3.1 y3.2.1 y4.1 y5.1 0 0 0 ([] : LR))) then some (y0.1, y1.1, y2.1, y3.1, y3.2.1, y4.1, y5.1, 0, 0, 0, true, y5.2.2.1, y5.2.2.2.1, y5.2.2.2.2) else some (y0.1, y1.1, y2.1, y3.1, y3.2.1, y4.1, y5.1, 0, 0, 0, y5.2.1, y5.2.2.1, y5.2.2.2.1, y5.2.2.2.2)))))) else (if (hasF y0.1 (2 : Int)) then (match (veil (gen3_reader_form.f BIG y4.2.2.1 y4.2.2.2.1 y4.2.2.2.2 y4.2.1 (veil (281474976710655 : Int)))) with | none => none | some y10 => (match (veil (gen3_reader_form.f BIG y10.2.2.1 y10.2.2.2.1 y10.2.2.2.2 y10.2.1 (65535 : Int))) with | none => none | some y11 => (if (hasF y0.1 (3 : Int)) then (match (veil (gen3_reader_form.f BIG y11.2.2.1 y11.2.2.2.1 y11.2.2.2.2 y11.2.1 (65535 : Int))) with | none => none | some y12 => (if y12.2.2.2.2 then some (y0.1, y1.1, y2.1, y3.1, y3.2.1, y4.1, 0, y10.1, y11.1, y12.1, true, y12.2.2.1, y12.2.2.2.1, y12.2.2.2.2) else (if (!(validF y0.1 y1.1 y2.1 y3.1 y3.2.1 y4.1 0 y10.1 y11.1 y12.1 ([] : LR))) then some (y0.1, y1.1, y2.1, y3.1, y3.2.1, y4.1, 0, y10.1, y11.1, y12.1, true, y12.2.2.1, y12.2.2.2.1, y12.2.2.2.2) else some (y0.1, y1.1, y2.1, y3.1, y3.2.1, y4.1, 0, y10.1, y11.1, y12.1, y12.2.1, y12.2.2.1, y12.2.2.2.1, y12.2.2.2.2)))) else (if y11.2.2.2.2 then some (y0.1, y1.1, y2.1, y3.1, y3.2.1, y4.1, 0, y10.1, y11.1, 0, true, y11.2.2.1, y11.2.2.2.1, y11.2.2.2.2) else (if (!(validF y0.1 y1.1 y2.1 y3.1 y3.2.1 y4.1 0 y10.1 y11.1 0 ([] : LR))) then some (y0.1, y1.1, y2.1, y3.1, y3.2.1, y4.1, 0, y10.1, y11.1, 0, true, y11.2.2.1, y11.2.2.2.1, y11.2.2.2.2) else some (y0.1, y1.1, y2.1, y3.1, y3.2.1, y4.1, 0, y10.1, y11.1, 0, y11.2.1, y11.2.2.1, y11.2.2.2.1, y11.2.2.2.2)))))) else (if (hasF y0.1 (3 : Int)) then (match (veil (gen3_reader_form.f BIG y4.2.2.1 y4.2.2.2.1 y4.2.2.2.2 y4.2.1 (65535 : Int))) with | none => none | some y13 => (if y13.2.2.2.2 then some (y0.1, y1.1, y2.1, y3.1, y3.2.1, y4.1, 0, 0, 0, y13.1, true, y13.2.2.1, y13.2.2.2.1, y13.2.2.2.2) else (if (!(validF y0.1 y1.1 y2.1 y3.1 y3.2.1 y4.1 0 0 0 y13.1 ([] : LR))) then some (y0.1, y1.1, y2.1, y3.1, y3.2.1, y4.1, 0, 0, 0, y13.1, true, y13.2.2.1, y13.2.2.2.1, y13.2.2.2.2) else some (y0.1, y1.1, y2.1, y3.1, y3.2.1, y4.1, 0, 0, 0, y13.1, y13.2.1, y13.2.2.1, y13.2.2.2.1, y13.2.2.2.2)))) else (if y4.2.2.2.2 then some (y0.1, y1.1, y2.1, y3.1, y3.2.1, y4.1, 0, 0, 0, 0, true, y4.2.2.1, y4.2.2.2.1, y4.2.2.2.2) else (if (!(validF y0.1 y1.1 y2.1 y3.1 y3.2.1 y4.1 0 0 0 0 ([] : LR))) then some (y0.1, y1.1, y2.1, y3.1, y3.2.1, y4.1, 0, 0, 0, 0, true, y4.2.2.1, y4.2.2.2.1, y4.2.2.2.2) else some (y0.1, y1.1, y2.1, y3.1, y3.2.1, y4.1, 0, 0, 0, 0, y4.2.1, y4.2.2.1, y4.2.2.2.1, y4.2.2.2.2))))))) else (if (hasF y0.1 (1 : Int)) then (match (veil (gen3_reader_form.f BIG y3.2.2.2.1 y3.2.2.2.2.1 y3.2.2.2.2.2 y3.2.2.1 (4095 : Int))) with | none => none | some y14 => (if (hasF y0.1 (2 : Int)) then (match (veil (gen3_reader_form.f BIG y14.2.2.1 y14.2.2.2.1 y14.2.2.2.2 y14.2.1 (veil (281474976710655 : Int)))) with | none => none | some y15 => (match (veil (gen3_reader_form.f BIG y15.2.2.1 y15.2.2.2.1 y15.2.2.2.2 y15.2.1 (65535 : Int))) with | none => none | some y16 => (if (hasF y0.1 (3 : Int)) then (match (veil (gen3_reader_form.f BIG y16.2.2.1 y16.2.2.2.1 y16.2.2.2.2 y16.2.1 (65535 : Int))) with | none => none | some y17 => (if y17.2.2.2.2 then some (y0.1, y1.1, y2.1, y3.1, y3.2.1, 0, y14.1, y15.1, y16.1, y17.1, true, y17.2.2.1, y17.2.2.2.1, y17.2.2.2.2) else (if (!(validF y0.1 y1.1 y2.1 y3.1 y3.2.1 0 y14.1 y15.1 y16.1 y17.1 ([] : LR))) then some (y0.1, y1.1, y2.1, y3.1, y3.2.1, 0, y14.1, y15.1, y16.1, y17.1, true, y17.2.2.1, y17.2.2.2.1, y17.2.2.2.2) else some (y0.1, y1.1, y2.1, y3.1, y3.2.1, 0, y14.1, y15.1, y16.1, y17.1, y17.2.1, y17.2.2.1, y17.2.2.2.1, y17.2.2.2.2)))) else (if y16.2.2.2.2 then some (y0.1, y1.1, y2.1, y3.1, y3.2.1, 0, y14.1, y15.1, y16.1, 0, true, y16.2.2.1, y16.2.2.2.1, y16.2.2.2.2) else (if (!(validF y0.1 y1.1 y2.1 y3.1 y3.2.1 0 y14.1 y15.1 y16.1 0 ([] : LR))) then some (y0.1, y1.1, y2.1, y3.1, y3.2.1, 0, y14.1, y15.1, y16.1, 0, true, y16.2.2.1, y16.2.2.2.1, y16.2.2.2.2) else some (y0.1, y1.1, y2.1, y3.1, y3.2.1, 0, y14.1, y15.1, y16.1, 0, y16.2.1, y16.2.2.1, y16.2.2.2.1, y16.2.2.2.2)))))) else (if (hasF y0.1 (3 : Int)) then (match (veil (gen3_reader_form.f BIG y14.2.2.1 y14.2.2.2.1 y14.2.2.2.2 y14.2.1 (65535 : Int))) with | none => none | some y18 => (if y18.2.2.2.2 then some (y0.1, y1.1, y2.1, y3.1, y3.2.1, 0, y14.1, 0, 0, y18.1, true, y18.2.2.1, y18.2.2.2.1, y18.2.2.2.2) else (if (!(validF y0.1 y1.1 y2.1 y3.1 y3.2.1 0 y14.1 0 0 y18.1 ([] : LR))) then some (y0.1, y1.1, y2.1, y3.1, y3.2.1, 0, y14.1, 0, 0, y18.1, true, y18.2.2.1, y18.2.2.2.1, y18.2.2.2.2) else some (y0.1, y1.1, y2.1, y3.1, y3.2.1, 0, y14.1, 0, 0, y18.1, y18.2.1, y18.2.2.1, y18.2.2.2.1, y18.2.2.2.2)))) else (if y14.2.2.2.2 then some (y0.1, y1.1, y2.1, y3.1, y3.2.1, 0, y14.1, 0, 0, 0, true, y14.2.2.1, y14.2.2.2.1, y14.2.2.2.2) else (if (!(validF y0.1 y1.1 y2.1 y3.1 y3.2.1 0 y14.1 0 0 0 ([] : LR))) then some (y0.1, y1.1, y2.1, y3.1, y3.2.1, 0, y14.1, 0, 0, 0, true, y14.2.2.1, y14.2.2.2.1, y14.2.2.2.2) else some (y0.1, y1.1, y2.1, y3.1, y3.2.1, 0, y14.1, 0, 0, 0, y14.2.1, y14.2.2.1, y14.2.2.2.1, y14.2.2.2.2)))))) else (if (hasF y0.1 (2 : Int)) then (match (veil (gen3_reader_form.f BIG y3.2.2.2.1 y3.2.2.2.2.1 y3.2.2.2.2.2 y3.2.2.1 (veil (281474976710655 : Int)))) with | none => none | some y19 => (match (veil (gen3_reader_form.f BIG y19.2.2.1 y19.2.2.2.1 y19.2.2.2.2 y19.2.1 (65535 : Int))) with | none => none | some y20 => (if (hasF y0.1 (3 : Int)) then (match (veil (gen3_reader_form.f BIG y20.2.2.1 y20.2.2.2.1 y20.2.2.2.2 y20.2.1 (65535 : Int))) with | none => none | some y21 => (if y21.2.2.2.2 then some (y0.1, y1.1, y2.1, y3.1, y3.2.1, 0, 0, y19.1, y20.1, y21.1, true, y21.2.2.1, y21.2.2.2.1, y21.2.2.2.2) else (if (!(validF y0.1 y1.1 y2.1 y3.1 y3.2.1 0 0 y19.1 y20.1 y21.1 ([] : LR))) then some (y0.1, y1.1, y2.1, y3.1, y3.2.1, 0, 0, y19.1, y20.1, y21.1, true, y21.2.2.1, y21.2.2.2.1, y21.2.2.2.2) else some (y0.1, y1.1, y2.1, y3.1, y3.2.1, 0, 0, y19.1, y20.1, y21.1, y21.2.1, y21.2.2.1, y21.2.2.2.1, y21.2.2.2.2)))) else (if y20.2.2.2.2 then some (y0.1, y1.1, y2.1, y3.1, y3.2.1, 0, 0, y19.1, y20.1, 0, true, y20.2.2.1, y20.2.2.2.1, y20.2.2.2.2) else (if (!(validF y0.1 y1.1 y2.1 y3.1 y3.2.1 0 0 y19.1 y20.1 0 ([] : LR))) then some (y0.1, y1.1, y2.1, y3.1, y3.2.1, 0, 0, y19.1, y20.1, 0, true, y20.2.2.1, y20.2.2.2.1, y20.2.2.2.2) else some (y0.1, y1.1, y2.1, y3.1, y3.2.1, 0, 0, y19.1, y20.1, 0, y20.2.1, y20.2.2.1, y20.2.2.2.1, y20.2.2.2.2)))))) else (if (hasF y0.1 (3 : Int)) then (match (veil (gen3_reader_form.f BIG y3.2.2.2.1 y3.2.2.2.2.1 y3.2.2.2.2.2 y3.2.2.1 (65535 : Int))) with | none => none | some y22 => (if y22.2.2.2.2 then some (y0.1, y1.1, y2.1, y3.1, y3.2.1, 0, 0, 0, 0, y22.1, true, y22.2.2.1, y22.2.2.2.1, y22.2.2.2.2) else (if (!(validF y0.1 y1.1 y2.1 y3.1 y3.2.1 0 0 0 0 y22.1 ([] : LR))) then some (y0.1, y1.1, y2.1, y3.1, y3.2.1, 0, 0, 0, 0, y22.1, true, y22.2.2.1, y22.2.2.2.1, y22.2.2.2.2) else some (y0.1, y1.1, y2.1, y3.1, y3.2.1, 0, 0, 0, 0, y22.1, y22.2.1, y22.2.2.1, y22.2.2.2.1, y22.2.2.2.2)))) else (if y3.2.2.2.2.2 then some (y0.1, y1.1, y2.1, y3.1, y3.2.1, 0, 0, 0, 0, 0, true, y3.2.2.2.1, y3.2.2.2.2.1, y3.2.2.2.2.2) else (if (!(validF y0.1 y1.1 y2.1 y3.1 y3.2.1 0 0 0 0 0 ([] : LR))) then some (y0.1, y1.1, y2.1, y3.1, y3.2.1, 0, 0, 0, 0, 0, true, y3.2.2.2.1, y3.2.2.2.2.1, y3.2.2.2.2.2) else some (y0.1, y1.1, y2.1, y3.1, y3.2.1, 0, 0, 0, 0, 0, y3.2.2.1, y3.2.2.2.1, y3.2.2.2.2.1, y3.2.2.2.2.2))))))))))) else none)
def gen3_reader_headR.f (fuel : Nat) (bs : List Int) (at0 : Int) (bad wrong : Bool) : Option (Int × Int × Int × Int × Int × Int × Int × Int × Int × Int × Bool × (List Int) × Int × Bool) := gen3_reader_headR.b bs at0 bad wrong
theorem gen3_reader_headR.eq (fuel : Nat) (bs : List Int) (at0 : Int) (bad wrong : Bool) : (denF gen3_reader_headR_E loopN fuel Tryz.f74 [.raw] [.ptr 0 0] [.box [.ptr 1 0, .d .bool wrong], .box [.d (.sl (.int .u8)) bs, .d (.int .i64) at0, .d .bool bad]] gen3_reader_headR.k) = gen3_reader_headR.f fuel bs at0 bad wrong := by
 kernel_rfl
def s_gen3_reader_headR : Den.Sum := ⟨[.pb [.frz none [0] 0 (.int .u8)]], fun args objs κ => match args, objs with
 | [.ptr 0 0], [.box [.ptr 1 0, .d .bool wrong], .box [.d (.sl (.int .u8)) bs, .d (.int .i64) at0, .d .bool bad]] => (match veil (gen3_reader_headR.f BIG bs at0 bad wrong) with | none => none | some y => κ [.agg [.d (.int .i64) y.1, .d (.int .i64) y.2.1, .d (.int .i64) y.2.2.1, .d (.int .i64) y.2.2.2.1, .d (.int .i64) y.2.2.2.2.1, .d (.int .i64) y.2.2.2.2.2.1, .d (.int .i64) y.2.2.2.2.2.2.1, .d (.int .i64) y.2.2.2.2.2.2.2.1, .d (.int .i64) y.2.2.2.2.2.2.2.2.1, .d (.int .i64) y.2.2.2.2.2.2.2.2.2.1, .nilsl]] [.box [.ptr 1 0, .d .bool y.2.2.2.2.2.2.2.2.2.2.1], .box [.d (.sl (.int .u8)) y.2.2.2.2.2.2.2.2.2.2.2.1, .d (.int .i64) y.2.2.2.2.2.2.2.2.2.2.2.2.1, .d .bool y.2.2.2.2.2.2.2.2.2.2.2.2.2]])
 | _, _ => none⟩
theorem s_gen3_reader_headR_det : SumDet s_gen3_reader_headR := fun avs objs R κ => by
 show s_gen3_reader_headR.run avs objs (two κ) = (s_gen3_reader_headR.run avs objs (two some)).bind κ
 unfold s_gen3_reader_headR
 simp only [veil_eq]
 split
 ·split <;> rfl
 ·rfl
theorem s_gen3_reader_headR_ok : SumOk Tryz.prog 74 s_gen3_reader_headR := by
 have hE : EnvOk Tryz.prog gen3_reader_headR_E := env_ok (l := [(76, s_valid), (41, s_has), (98, s_gen3_reader_form), (52, s_rnumb), (107, s_gen3_reader_span), (84, s_bad)]) th_ok any_ok ⟨⟨s_valid_ok, s_valid_det⟩, ⟨s_has_ok, s_has_det⟩, ⟨s_gen3_reader_form_ok, s_gen3_reader_form_det⟩, ⟨s_rnumb_ok, s_rnumb_det⟩, ⟨s_gen3_reader_span_ok, s_gen3_reader_span_det⟩, ⟨s_bad_ok, s_bad_det⟩, trivial⟩ _
 refine sum_ok hE Tryz.func74 rfl (by kernel_rfl) s_gen3_reader_headR [.raw] gen3_reader_headR.k ?_
 intro R avs objs κ r h
 unfold s_gen3_reader_headR at h
 simp only [veil_eq] at h
 split at h
 ·rename_i wrong bs at0 bad
  split at h
  ·cases h
  ·rename_i y hy
   refine ⟨BIG, _, _, _, (gen3_reader_headR.eq BIG bs at0 bad wrong).trans hy, ?_, h⟩
   intro rs ros hk
   unfold gen3_reader_headR.k at hk
   split at hk
   ·first | (cases hk; exact ⟨rfl, rfl⟩) | (have e := Option.some.inj hk; rw [← e]; exact ⟨rfl, rfl⟩)
   ·cases hk
 ·cases h
def gen3_reader_fields_E : Env := ⟨th, gam [(98, s_gen3_reader_form), (52, s_rnumb), (84, s_bad), (53, s_takeb)], fun i => if i = 4 then ⟨[0, 3, 4, 5], [(3, 86, (.pair (.int .i64) (.sl (.int .u8))))], []⟩ else ⟨[], [], []⟩⟩
def gen3_reader_fields.k (rs : List AV) (os : List Den.Obj) : Option (Bool × (List Int) × Int × Bool × LF) :=
 match rs, os with
 | [.row 2], [.box [.ptr 1 0, .d .bool r0], .box [.d (.sl (.int .u8)) r1, .d (.int .i64) r2, .d .bool r3], .row 86 (.pair (.int .i64) (.sl (.int .u8))) r4 false] => some (r0, r1, r2, r3, r4)
 | _, _ => none
def gen3_reader_fields.s4 (bs : List Int) (at0 : Int) (bad wrong : Bool) (x1 x2 : Int) (x3 : Bool) (x4 : (List Int)) (x5 : Int) (x6 : Bool) (x7 : LF) : St := ⟨[.ptr 0 0, .dead, .dead, .row 64, .d (.int .i64) x1, .d (.int .i64) x2, dD, dD, dD, dD, dD, dD, dD, dD, dD, dD, dD, dD, dD, dD, dD, dD, dD, dD, dD, dD, dD, dD, dD, dD, dD, dD, dD, dD, dD, dD, dD, dD, dD, dD, dD, dD, dD, dD, dD, dD, dD, .dead], ofL [(0, .box [.ptr 1 0, .d .bool x3]), (1, .box [.d (.sl (.int .u8)) x4, .d (.int .i64) x5, .d .bool x6]), (64, .row 86 (.pair (.int .i64) (.sl (.int .u8))) x7 false)], 2⟩
def gen3_reader_fields.b4 (bs : List Int) (at0 : Int) (bad wrong : Bool) (A4 : Int → Int → Bool → (List Int) → Int → Bool → LF → Option (Bool × (List Int) × Int × Bool × LF)) (x1 : Int) (x2 : Int) (x3 : Bool) (x4 : (List Int)) (x5 : Int) (x6 : Bool) (x7 : LF) : Option (Bool × (List Int) × Int × Bool × LF) :=
 (if (decide (x2 < x1)) then (if (!x3) then (if (atOk x4 x5) then (match (veil (Option.some (readF x4 (1 : Int) x5 x6))) with | none => none | some y8 => (match (veil (gen3_reader_form.f BIG x4 y8.2.1 y8.2.2 x3 (4096 : Int))) with | none => none | some y9 => (if (atOk y9.2.2.1 y9.2.2.2.1) then (match (veil (Option.some (stepF y9.2.2.1 y9.1 y9.2.2.2.1 y9.2.2.2.2))) with | none => none | some y10 => (if y10.2.2.2 then (if ((((List.length x7) + (List.length ((y8.1, y10.1) :: ([] : LF)))) * (32 : Nat)) ≤ lim) then A4 x1 (IntKind.wrap .i64 (x2 + (1 : Int))) true y9.2.2.1 y10.2.2.1 y10.2.2.2 (x7 ++ ((y8.1, y10.1) :: ([] : LF))) else none) else (if ((((List.length x7) + (List.length ((y8.1, y10.1) :: ([] : LF)))) * (32 : Nat)) ≤ lim) then A4 x1 (IntKind.wrap .i64 (x2 + (1 : Int))) y9.2.1 y9.2.2.1 y10.2.2.1 y10.2.2.2 (x7 ++ ((y8.1, y10.1) :: ([] : LF))) else none))) else none))) else none) else some (x3, x4, x5, x6, x7)) else some (x3, x4, x5, x6, x7))
def gen3_reader_fields.l4 (fuel : Nat) (bs : List Int) (at0 : Int) (bad wrong : Bool) : Nat → Int → Int → Bool → (List Int) → Int → Bool → LF → Option (Bool × (List Int) × Int × Bool × LF)
 | 0, _, _, _, _, _, _, _ => none
 | k + 1, x1, x2, x3, x4, x5, x6, x7 => gen3_reader_fields.b4 bs at0 bad wrong (gen3_reader_fields.l4 fuel bs at0 bad wrong k) x1 x2 x3 x4 x5 x6 x7
def gen3_reader_fields.b (bs : List Int) (at0 : Int) (bad wrong : Bool) (E4 : Int → Int → Bool → (List Int) → Int → Bool → LF → Option (Bool × (List Int) × Int × Bool × LF)) : Option (Bool × (List Int) × Int × Bool × LF) :=
 (match (veil (gen3_reader_form.f BIG bs at0 bad wrong (32 : Int))) with | none => none | some y0 => E4 y0.1 (0 : Int) y0.2.1 y0.2.2.1 y0.2.2.2.1 y0.2.2.2.2 ([] : LF))
def gen3_reader_fields.f (fuel : Nat) (bs : List Int) (at0 : Int) (bad wrong : Bool) : Option (Bool × (List Int) × Int × Bool × LF) := gen3_reader_fields.b bs at0 bad wrong (gen3_reader_fields.l4 fuel bs at0 bad wrong fuel)
theorem gen3_reader_fields.l4_eq (fuel : Nat) (bs : List Int) (at0 : Int) (bad wrong : Bool) : ∀ (k : Nat) (x1 : Int) (x2 : Int) (x3 : Bool) (x4 : (List Int)) (x5 : Int) (x6 : Bool) (x7 : LF), lp gen3_reader_fields_E fuel Tryz.f124 [.own 86 (.pair (.int .i64) (.sl (.int .u8)))] 2 gen3_reader_fields.k 4 [] k (gen3_reader_fields.s4 bs at0 bad wrong x1 x2 x3 x4 x5 x6 x7) = gen3_reader_fields.l4 fuel bs at0 bad wrong k x1 x2 x3 x4 x5 x6 x7 := by
 intro k
 induction k with
 | zero => intro x1 x2 x3 x4 x5 x6 x7; rfl
 | succ k ih =>
  intro x1 x2 x3 x4 x5 x6 x7
  have h : lp gen3_reader_fields_E fuel Tryz.f124 [.own 86 (.pair (.int .i64) (.sl (.int .u8)))] 2 gen3_reader_fields.k 4 [] (k + 1) (gen3_reader_fields.s4 bs at0 bad wrong x1 x2 x3 x4 x5 x6 x7) = gen3_reader_fields.b4 bs at0 bad wrong (fun x1 x2 x3 x4 x5 x6 x7 => lp gen3_reader_fields_E fuel Tryz.f124 [.own 86 (.pair (.int .i64) (.sl (.int .u8)))] 2 gen3_reader_fields.k 4 [] k (gen3_reader_fields.s4 bs at0 bad wrong x1 x2 x3 x4 x5 x6 x7)) x1 x2 x3 x4 x5 x6 x7 := by kernel_rfl
  rw [h]
  have e4 : (fun x1 x2 x3 x4 x5 x6 x7 => lp gen3_reader_fields_E fuel Tryz.f124 [.own 86 (.pair (.int .i64) (.sl (.int .u8)))] 2 gen3_reader_fields.k 4 [] k (gen3_reader_fields.s4 bs at0 bad wrong x1 x2 x3 x4 x5 x6 x7)) = gen3_reader_fields.l4 fuel bs at0 bad wrong k := (funext fun x1 => (funext fun x2 => (funext fun x3 => (funext fun x4 => (funext fun x5 => (funext fun x6 => (funext fun x7 => ih x1 x2 x3 x4 x5 x6 x7)))))))
  rw [e4]
  rfl
theorem gen3_reader_fields.eq (fuel : Nat) (bs : List Int) (at0 : Int) (bad wrong : Bool) : (denF gen3_reader_fields_E loopN fuel Tryz.f124 [.own 86 (.pair (.int .i64) (.sl (.int .u8)))] [.ptr 0 0] [.box [.ptr 1 0, .d .bool wrong], .box [.d (.sl (.int .u8)) bs, .d (.int .i64) at0, .d .bool bad]] gen3_reader_fields.k) = gen3_reader_fields.f fuel bs at0 bad wrong := by
 have h : (denF gen3_reader_fields_E loopN fuel Tryz.f124 [.own 86 (.pair (.int .i64) (.sl (.int .u8)))] [.ptr 0 0] [.box [.ptr 1 0, .d .bool wrong], .box [.d (.sl (.int .u8)) bs, .d (.int .i64) at0, .d .bool bad]] gen3_reader_fields.k) = gen3_reader_fields.b bs at0 bad wrong (fun x1 x2 x3 x4 x5 x6 x7 => lp gen3_reader_fields_E fuel Tryz.f124 [.own 86 (.pair (.int .i64) (.sl (.int .u8)))] 2 gen3_reader_fields.k 4 [] fuel (gen3_reader_fields.s4 bs at0 bad wrong x1 x2 x3 x4 x5 x6 x7)) := by kernel_rfl
 rw [h]
 have e4 : (fun x1 x2 x3 x4 x5 x6 x7 => lp gen3_reader_fields_E fuel Tryz.f124 [.own 86 (.pair (.int .i64) (.sl (.int .u8)))] 2 gen3_reader_fields.k 4 [] fuel (gen3_reader_fields.s4 bs at0 bad wrong x1 x2 x3 x4 x5 x6 x7)) = gen3_reader_fields.l4 fuel bs at0 bad wrong fuel := (funext fun x1 => (funext fun x2 => (funext fun x3 => (funext fun x4 => (funext fun x5 => (funext fun x6 => (funext fun x7 => gen3_reader_fields.l4_eq fuel bs at0 bad wrong fuel x1 x2 x3 x4 x5 x6 x7)))))))
 rw [e4]
 rfl
def s_gen3_reader_fields : Den.Sum := ⟨[.pb [.frz none [0] 0 (.int .u8)]], fun args objs κ => match args, objs with
 | [.ptr 0 0], [.box [.ptr 1 0, .d .bool wrong], .box [.d (.sl (.int .u8)) bs, .d (.int .i64) at0, .d .bool bad]] => (match veil (gen3_reader_fields.f BIG bs at0 bad wrong) with | none => none | some y => κ [.row 2] [.box [.ptr 1 0, .d .bool y.1], .box [.d (.sl (.int .u8)) y.2.1, .d (.int .i64) y.2.2.1, .d .bool y.2.2.2.1], .row 86 (.pair (.int .i64) (.sl (.int .u8))) y.2.2.2.2 false])
 | _, _ => none⟩
theorem s_gen3_reader_fields_det : SumDet s_gen3_reader_fields := fun avs objs R κ => by
 show s_gen3_reader_fields.run avs objs (two κ) = (s_gen3_reader_fields.run avs objs (two some)).bind κ
 unfold s_gen3_reader_fields
 simp only [veil_eq]
 split
 ·split <;> rfl
 ·rfl
theorem s_gen3_reader_fields_ok : SumOk Tryz.prog 124 s_gen3_reader_fields := by
 have hE : EnvOk Tryz.prog gen3_reader_fields_E := env_ok (l := [(98, s_gen3_reader_form), (52, s_rnumb), (84, s_bad), (53, s_takeb)]) th_ok any_ok ⟨⟨s_gen3_reader_form_ok, s_gen3_reader_form_det⟩, ⟨s_rnumb_ok, s_rnumb_det⟩, ⟨s_bad_ok, s_bad_det⟩, ⟨s_takeb_ok, s_takeb_det⟩, trivial⟩ _
 refine sum_ok hE Tryz.func124 rfl (by kernel_rfl) s_gen3_reader_fields [.own 86 (.pair (.int .i64) (.sl (.int .u8)))] gen3_reader_fields.k ?_
 intro R avs objs κ r h
 unfold s_gen3_reader_fields at h
 simp only [veil_eq] at h
 split at h
 ·rename_i wrong bs at0 bad
  split at h
  ·cases h
  ·rename_i y hy
   refine ⟨BIG, _, _, _, (gen3_reader_fields.eq BIG bs at0 bad wrong).trans hy, ?_, h⟩
   intro rs ros hk
   unfold gen3_reader_fields.k at hk
   split at hk
   ·first | (cases hk; exact ⟨rfl, rfl⟩) | (have e := Option.some.inj hk; rw [← e]; exact ⟨rfl, rfl⟩)
   ·cases hk
 ·cases h
def gen3_reader_one_E : Env := ⟨th, gam [(98, s_gen3_reader_form), (122, s_rec_Find), (75, s_bsame), (52, s_rnumb), (107, s_gen3_reader_span), (123, s_varint_Zag), (124, s_gen3_reader_fields)], fun i => if i = 8 then ⟨[0, 6, 7, 8, 9, 10], [], [777777]⟩ else if i = 12 then ⟨[0, 6, 7, 8, 9, 10], [], [777777]⟩ else ⟨[], [], []⟩⟩
def gen3_reader_one.k (rs : List AV) (os : List Den.Obj) : Option (Int × Int × Int × Int × Int × Bool × LF × Bool × (List Int) × Int × Bool) :=
 match rs, os with
 | [.agg [.d (.int .i64) r0, .d (.int .i64) r1, .d (.int .i64) r2, .d (.int .i64) r3, .d (.int .i64) r4, .d .bool r5, .d (.sl (.pair (.int .i64) (.sl (.int .u8)))) r6]], [.box [.ptr 1 0, .d .bool r7], .box [.d (.sl (.int .u8)) r8, .d (.int .i64) r9, .d .bool r10]] => some (r0, r1, r2, r3, r4, r5, r6, r7, r8, r9, r10)
 | _, _ => none
def gen3_reader_one.s12 (bs : List Int) (at0 : Int) (bad wrong : Bool) (last : Int) (base : LR) (x19 : Int) (x20 x21 : Bool) (x22 : (List Int)) (x23 : Int) (x24 : Bool) (x25 x26 x27 x28 : Int) (x29 : Bool) (x30 x31 x32 x33 x34 : Int) (x35 : Bool) (x36 : LF) : St := ⟨[.ptr 0 0, dD, dD, dD, dD, dD, .ptr 64 0, .ptr 65 0, .d (.int .i64) x19, .ptr 66 0, .d .bool x20, dD, dD, dD, dD, dD, dD, dD, dD, dD, dD, dD, dD, dD, dD, dD, dD, dD, dD, dD, dD, dD, dD, dD, dD, dD, dD, dD, dD, dD, dD, dD, dD, dD, dD, dD, dD, dD, dD, dD, dD, dD, dD, dD, dD, dD, dD, dD, dD, dD, dD, dD, dD, dD, dD, dD, dD, dD, dD, dD, dD, dD, dD, dD, dD, dD, dD, dD, dD, dD, dD, dD, dD, dD, dD, dD, dD, dD, dD, dD, dD, dD, dD, dD, dD, dD, dD, dD, dD, dD, dD, dD, dD, dD, dD, dD, dD, dD, dD, dD, dD, dD, dD, dD, dD, dD, dD, dD, dD, dD, dD, dD, .dead], ofL [(0, .box [.ptr 1 0, .d .bool x21]), (1, .box [.d (.sl (.int .u8)) x22, .d (.int .i64) x23, .d .bool x24]), (64, .box [.d (.int .i64) (0), .d (.int .i64) (0), .d (.int .i64) (0), .d (.int .i64) (0), .d (.int .i64) (0), .d .bool (false), .nilsl]), (65, .box [.d (.int .i64) x25, .d (.int .i64) (0), .d (.int .i64) x26, .d (.int .i64) x27, .d (.int .i64) x28, .d .bool x29, .nilsl]), (66, .box [.d (.int .i64) x30, .d (.int .i64) x31, .d (.int .i64) x32, .d (.int .i64) x33, .d (.int .i64) x34, .d .bool x35, .d (.sl (.pair (.int .i64) (.sl (.int .u8)))) x36])], 2⟩
def gen3_reader_one.b12 (bs : List Int) (at0 : Int) (bad wrong : Bool) (last : Int) (base : LR) (A12 : Int → Bool → Bool → (List Int) → Int → Bool → Int → Int → Int → Int → Bool → Int → Int → Int → Int → Int → Bool → LF → Option (Int × Int × Int × Int × Int × Bool × LF × Bool × (List Int) × Int × Bool)) (x19 : Int) (x20 : Bool) (x21 : Bool) (x22 : (List Int)) (x23 : Int) (x24 : Bool) (x25 : Int) (x26 : Int) (x27 : Int) (x28 : Int) (x29 : Bool) (x30 : Int) (x31 : Int) (x32 : Int) (x33 : Int) (x34 : Int) (x35 : Bool) (x36 : LF) : Option (Int × Int × Int × Int × Int × Bool × LF × Bool × (List Int) × Int × Bool) :=
 (match (veil (gen3_reader_form.f BIG x22 x23 x24 x21 (veil (562949953421310 : Int)))) with | none => none | some y37 => (match (veil (varint_Zag.f BIG (IntKind.wrap .u64 y37.1))) with | none => none | some y38 => (if x29 then some (x25, (IntKind.wrap .i64 (x31 + y38)), x26, x27, x28, x29, ([] : LF), y37.2.1, y37.2.2.1, y37.2.2.2.1, y37.2.2.2.2) else (if ((bits BinOp.and .i64 x19 (16 : Int)) != (0 : Int)) then some (x25, (IntKind.wrap .i64 (x31 + y38)), x26, x27, x28, x29, x36, y37.2.1, y37.2.2.1, y37.2.2.2.1, y37.2.2.2.2) else (match (veil (gen3_reader_fields.f BIG y37.2.2.1 y37.2.2.2.1 y37.2.2.2.2 y37.2.1)) with | none => none | some y39 => (if y39.1 then some (x25, (IntKind.wrap .i64 (x31 + y38)), x26, x27, x28, x29, y39.2.2.2.2, true, y39.2.1, y39.2.2.1, y39.2.2.2.1) else (if x20 then (if ((smallBag y39.2.2.2.2) && (smallBag x36)) then some (x25, (IntKind.wrap .i64 (x31 + y38)), x26, x27, x28, x29, y39.2.2.2.2, ((cmpGo y39.2.2.2.2 x36) == (0 : Int)), y39.2.1, y39.2.2.1, y39.2.2.2.1) else none) else some (x25, (IntKind.wrap .i64 (x31 + y38)), x26, x27, x28, x29, y39.2.2.2.2, false, y39.2.1, y39.2.2.1, y39.2.2.2.1))))))))
def gen3_reader_one.l12 (fuel : Nat) (bs : List Int) (at0 : Int) (bad wrong : Bool) (last : Int) (base : LR) : Nat → Int → Bool → Bool → (List Int) → Int → Bool → Int → Int → Int → Int → Bool → Int → Int → Int → Int → Int → Bool → LF → Option (Int × Int × Int × Int × Int × Bool × LF × Bool × (List Int) × Int × Bool)
 | 0, _, _, _, _, _, _, _, _, _, _, _, _, _, _, _, _, _, _ => none
 | k + 1, x19, x20, x21, x22, x23, x24, x25, x26, x27, x28, x29, x30, x31, x32, x33, x34, x35, x36 => gen3_reader_one.b12 bs at0 bad wrong last base (gen3_reader_one.l12 fuel bs at0 bad wrong last base k) x19 x20 x21 x22 x23 x24 x25 x26 x27 x28 x29 x30 x31 x32 x33 x34 x35 x36
def gen3_reader_one.s8 (bs : List Int) (at0 : Int) (bad wrong : Bool) (last : Int) (base : LR) (x3 : Int) (x4 x5 : Bool) (x6 : (List Int)) (x7 : Int) (x8 : Bool) (x9 x10 : Int) (x11 : Bool) (x12 x13 x14 x15 x16 : Int) (x17 : Bool) (x18 : LF) : St := ⟨[.ptr 0 0, dD, dD, dD, dD, dD, .ptr 64 0, .ptr 65 0, .d (.int .i64) x3, .ptr 66 0, .d .bool x4, dD, dD, dD, dD, dD, dD, dD, dD, dD, dD, dD, dD, dD, dD, dD, dD, dD, dD, dD, dD, dD, dD, dD, dD, dD, dD, dD, dD, dD, dD, dD, dD, dD, dD, dD, dD, dD, dD, dD, dD, dD, dD, dD, dD, dD, dD, dD, dD, dD, dD, dD, dD, dD, dD, dD, dD, dD, dD, dD, dD, dD, dD, dD, dD, dD, dD, dD, dD, dD, dD, dD, dD, dD, dD, dD, dD, dD, dD, dD, dD, dD, dD, dD, dD, dD, dD, dD, dD, dD, dD, dD, dD, dD, dD, dD, dD, dD, dD, dD, dD, dD, dD, dD, dD, dD, dD, dD, dD, dD, dD, dD, .dead], ofL [(0, .box [.ptr 1 0, .d .bool x5]), (1, .box [.d (.sl (.int .u8)) x6, .d (.int .i64) x7, .d .bool x8]), (64, .box [.d (.int .i64) (0), .d (.int .i64) (0), .d (.int .i64) (0), .d (.int .i64) (0), .d (.int .i64) (0), .d .bool (false), .nilsl]), (65, .box [.d (.int .i64) x9, .d (.int .i64) (0), .d (.int .i64) x10, .d (.int .i64) (0), .d (.int .i64) (0), .d .bool x11, .nilsl]), (66, .box [.d (.int .i64) x12, .d (.int .i64) x13, .d (.int .i64) x14, .d (.int .i64) x15, .d (.int .i64) x16, .d .bool x17, .d (.sl (.pair (.int .i64) (.sl (.int .u8)))) x18])], 2⟩
def gen3_reader_one.b8 (bs : List Int) (at0 : Int) (bad wrong : Bool) (last : Int) (base : LR) (A8 : Int → Bool → Bool → (List Int) → Int → Bool → Int → Int → Bool → Int → Int → Int → Int → Int → Bool → LF → Option (Int × Int × Int × Int × Int × Bool × LF × Bool × (List Int) × Int × Bool)) (E12 : Int → Bool → Bool → (List Int) → Int → Bool → Int → Int → Int → Int → Bool → Int → Int → Int → Int → Int → Bool → LF → Option (Int × Int × Int × Int × Int × Bool × LF × Bool × (List Int) × Int × Bool)) (x3 : Int) (x4 : Bool) (x5 : Bool) (x6 : (List Int)) (x7 : Int) (x8 : Bool) (x9 : Int) (x10 : Int) (x11 : Bool) (x12 : Int) (x13 : Int) (x14 : Int) (x15 : Int) (x16 : Int) (x17 : Bool) (x18 : LF) : Option (Int × Int × Int × Int × Int × Bool × LF × Bool × (List Int) × Int × Bool) :=
 (if ((bits BinOp.and .i64 x3 (8 : Int)) != (0 : Int)) then E12 x3 x4 x5 x6 x7 x8 x9 x10 x15 x16 x11 x12 x13 x14 x15 x16 x17 x18 else (match (veil (gen3_reader_span.f BIG x6 x7 x8 x5)) with | none => none | some y40 => (if y40.2.2.1 then E12 x3 x4 true y40.2.2.2.1 y40.2.2.2.2.1 y40.2.2.2.2.2 x9 x10 y40.1 y40.2.1 x11 x12 x13 x14 x15 x16 x17 x18 else (if x4 then E12 x3 x4 (if (y40.1 == x15) then (if (y40.2.1 == x16) then true else false) else false) y40.2.2.2.1 y40.2.2.2.2.1 y40.2.2.2.2.2 x9 x10 y40.1 y40.2.1 x11 x12 x13 x14 x15 x16 x17 x18 else E12 x3 x4 false y40.2.2.2.1 y40.2.2.2.2.1 y40.2.2.2.2.2 x9 x10 y40.1 y40.2.1 x11 x12 x13 x14 x15 x16 x17 x18))))
def gen3_reader_one.l8 (fuel : Nat) (bs : List Int) (at0 : Int) (bad wrong : Bool) (last : Int) (base : LR) : Nat → Int → Bool → Bool → (List Int) → Int → Bool → Int → Int → Bool → Int → Int → Int → Int → Int → Bool → LF → Option (Int × Int × Int × Int × Int × Bool × LF × Bool × (List Int) × Int × Bool)
 | 0, _, _, _, _, _, _, _, _, _, _, _, _, _, _, _, _ => none
 | k + 1, x3, x4, x5, x6, x7, x8, x9, x10, x11, x12, x13, x14, x15, x16, x17, x18 => gen3_reader_one.b8 bs at0 bad wrong last base (gen3_reader_one.l8 fuel bs at0 bad wrong last base k) (gen3_reader_one.l12 fuel bs at0 bad wrong last base fuel) x3 x4 x5 x6 x7 x8 x9 x10 x11 x12 x13 x14 x15 x16 x17 x18
def gen3_reader_one.b (bs : List Int) (at0 : Int) (bad wrong : Bool) (last : Int) (base : LR) (E8 : Int → Bool → Bool → (List Int) → Int → Bool → Int → Int → Bool → Int → Int → Int → Int → Int → Bool → LF → Option (Int × Int × Int × Int × Int × Bool × LF × Bool × (List Int) × Int × Bool)) : Option (Int × Int × Int × Int × Int × Bool × LF × Bool × (List Int) × Int × Bool) :=
 (match (veil (gen3_reader_form.f BIG bs at0 bad wrong (4095 : Int))) with | none => none | some y0 => (if (atOk y0.2.2.1 y0.2.2.2.1) then (match (veil (Option.some (readF y0.2.2.1 (1 : Int) y0.2.2.2.1 y0.2.2.2.2))) with | none => none | some y1 => (match (veil (rec_Find.f BIG base (IntKind.wrap .i64 ((IntKind.wrap .i64 (last + (1 : Int))) + y0.1)))) with | none => none | some y2 => (if (decide (y1.1 ≥ (32 : Int))) then some ((IntKind.wrap .i64 ((IntKind.wrap .i64 (last + (1 : Int))) + y0.1)), 0, (bits BinOp.and .i64 y1.1 (3 : Int)), 0, 0, ((bits BinOp.and .i64 y1.1 (4 : Int)) != (0 : Int)), ([] : LF), true, y0.2.2.1, y1.2.1, y1.2.2) else (if (!y2.2.2.2.2.2.2.2) then (if (decide (y1.1 ≥ (8 : Int))) then some ((IntKind.wrap .i64 ((IntKind.wrap .i64 (last + (1 : Int))) + y0.1)), 0, (bits BinOp.and .i64 y1.1 (3 : Int)), 0, 0, ((bits BinOp.and .i64 y1.1 (4 : Int)) != (0 : Int)), ([] : LF), true, y0.2.2.1, y1.2.1, y1.2.2) else (if ((bits BinOp.and .i64 y1.1 (4 : Int)) != (0 : Int)) then (if (decide (y1.1 ≥ (16 : Int))) then some ((IntKind.wrap .i64 ((IntKind.wrap .i64 (last + (1 : Int))) + y0.1)), 0, (bits BinOp.and .i64 y1.1 (3 : Int)), 0, 0, ((bits BinOp.and .i64 y1.1 (4 : Int)) != (0 : Int)), ([] : LF), true, y0.2.2.1, y1.2.1, y1.2.2) else E8 y1.1 y2.2.2.2.2.2.2.2 y0.2.1 y0.2.2.1 y1.2.1 y1.2.2 (IntKind.wrap .i64 ((IntKind.wrap .i64 (last + (1 : Int))) + y0.1)) (bits BinOp.and .i64 y1.1 (3 : Int)) ((bits BinOp.and .i64 y1.1 (4 : Int)) != (0 : Int)) y2.1 y2.2.1 y2.2.2.1 y2.2.2.2.1 y2.2.2.2.2.1 y2.2.2.2.2.2.1 y2.2.2.2.2.2.2.1) else E8 y1.1 y2.2.2.2.2.2.2.2 y0.2.1 y0.2.2.1 y1.2.1 y1.2.2 (IntKind.wrap .i64 ((IntKind.wrap .i64 (last + (1 : Int))) + y0.1)) (bits BinOp.and .i64 y1.1 (3 : Int)) ((bits BinOp.and .i64 y1.1 (4 : Int)) != (0 : Int)) y2.1 y2.2.1 y2.2.2.1 y2.2.2.2.1 y2.2.2.2.2.1 y2.2.2.2.2.2.1 y2.2.2.2.2.2.2.1)) else (if ((bits BinOp.and .i64 y1.1 (4 : Int)) != (0 : Int)) then (if (decide (y1.1 ≥ (16 : Int))) then some ((IntKind.wrap .i64 ((IntKind.wrap .i64 (last + (1 : Int))) + y0.1)), 0, (bits BinOp.and .i64 y1.1 (3 : Int)), 0, 0, ((bits BinOp.and .i64 y1.1 (4 : Int)) != (0 : Int)), ([] : LF), true, y0.2.2.1, y1.2.1, y1.2.2) else E8 y1.1 y2.2.2.2.2.2.2.2 y0.2.1 y0.2.2.1 y1.2.1 y1.2.2 (IntKind.wrap .i64 ((IntKind.wrap .i64 (last + (1 : Int))) + y0.1)) (bits BinOp.and .i64 y1.1 (3 : Int)) ((bits BinOp.and .i64 y1.1 (4 : Int)) != (0 : Int)) y2.1 y2.2.1 y2.2.2.1 y2.2.2.2.1 y2.2.2.2.2.1 y2.2.2.2.2.2.1 y2.2.2.2.2.2.2.1) else E8 y1.1 y2.2.2.2.2.2.2.2 y0.2.1 y0.2.2.1 y1.2.1 y1.2.2 (IntKind.wrap .i64 ((IntKind.wrap .i64 (last + (1 : Int))) + y0.1)) (bits BinOp.and .i64 y1.1 (3 : Int)) ((bits BinOp.and .i64 y1.1 (4 : Int)) != (0 : Int)) y2.1 y2.2.1 y2.2.2.1 y2.2.2.2.1 y2.2.2.2.2.1 y2.2.2.2.2.2.1 y2.2.2.2.2.2.2.1))))) else none))
def gen3_reader_one.f (fuel : Nat) (bs : List Int) (at0 : Int) (bad wrong : Bool) (last : Int) (base : LR) : Option (Int × Int × Int × Int × Int × Bool × LF × Bool × (List Int) × Int × Bool) := gen3_reader_one.b bs at0 bad wrong last base (gen3_reader_one.l8 fuel bs at0 bad wrong last base fuel)
theorem gen3_reader_one.l12_eq (fuel : Nat) (bs : List Int) (at0 : Int) (bad wrong : Bool) (last : Int) (base : LR) : ∀ (k : Nat) (x19 : Int) (x20 : Bool) (x21 : Bool) (x22 : (List Int)) (x23 : Int) (x24 : Bool) (x25 : Int) (x26 : Int) (x27 : Int) (x28 : Int) (x29 : Bool) (x30 : Int) (x31 : Int) (x32 : Int) (x33 : Int) (x34 : Int) (x35 : Bool) (x36 : LF), lp gen3_reader_one_E fuel Tryz.f99 [.dat (.pair (.int .i64) (.pair (.int .i64) (.pair (.int .i64) (.pair (.pair (.int .i64) (.int .i64)) (.pair .bool (.sl (.pair (.int .i64) (.sl (.int .u8))))))))) true] 2 gen3_reader_one.k 12 [] k (gen3_reader_one.s12 bs at0 bad wrong last base x19 x20 x21 x22 x23 x24 x25 x26 x27 x28 x29 x30 x31 x32 x33 x34 x35 x36) = gen3_reader_one.l12 fuel bs at0 bad wrong last base k x19 x20 x21 x22 x23 x24 x25 x26 x27 x28 x29 x30 x31 x32 x33 x34 x35 x36 := by
 intro k
 induction k with
 | zero => intro x19 x20 x21 x22 x23 x24 x25 x26 x27 x28 x29 x30 x31 x32 x33 x34 x35 x36; rfl
 | succ k ih =>
  intro x19 x20 x21 x22 x23 x24 x25 x26 x27 x28 x29 x30 x31 x32 x33 x34 x35 x36
  have h : lp gen3_reader_one_E fuel Tryz.f99 [.dat (.pair (.int .i64) (.pair (.int .i64) (.pair (.int .i64) (.pair (.pair (.int .i64) (.int .i64)) (.pair .bool (.sl (.pair (.int .i64) (.sl (.int .u8))))))))) true] 2 gen3_reader_one.k 12 [] (k + 1) (gen3_reader_one.s12 bs at0 bad wrong last base x19 x20 x21 x22 x23 x24 x25 x26 x27 x28 x29 x30 x31 x32 x33 x34 x35 x36) = gen3_reader_one.b12 bs at0 bad wrong last base (fun x19 x20 x21 x22 x23 x24 x25 x26 x27 x28 x29 x30 x31 x32 x33 x34 x35 x36 => lp gen3_reader_one_E fuel Tryz.f99 [.dat (.pair (.int .i64) (.pair (.int .i64) (.pair (.int .i64) (.pair (.pair (.int .i64) (.int .i64)) (.pair .bool (.sl (.pair (.int .i64) (.sl (.int .u8))))))))) true] 2 gen3_reader_one.k 12 [] k (gen3_reader_one.s12 bs at0 bad wrong last base x19 x20 x21 x22 x23 x24 x25 x26 x27 x28 x29 x30 x31 x32 x33 x34 x35 x36)) x19 x20 x21 x22 x23 x24 x25 x26 x27 x28 x29 x30 x31 x32 x33 x34 x35 x36 := by kernel_rfl
  rw [h]
  have e12 : (fun x19 x20 x21 x22 x23 x24 x25 x26 x27 x28 x29 x30 x31 x32 x33 x34 x35 x36 => lp gen3_reader_one_E fuel Tryz.f99 [.dat (.pair (.int .i64) (.pair (.int .i64) (.pair (.int .i64) (.pair (.pair (.int .i64) (.int .i64)) (.pair .bool (.sl (.pair (.int .i64) (.sl (.int .u8))))))))) true] 2 gen3_reader_one.k 12 [] k (gen3_reader_one.s12 bs at0 bad wrong last base x19 x20 x21 x22 x23 x24 x25 x26 x27 x28 x29 x30 x31 x32 x33 x34 x35 x36)) = gen3_reader_one.l12 fuel bs at0 bad wrong last base k := (funext fun x19 => (funext fun x20 => (funext fun x21 => (funext fun x22 => (funext fun x23 => (funext fun x24 => (funext fun x25 => (funext fun x26 => (funext fun x27 => (funext fun x28 => (funext fun x29 => (funext fun x30 => (funext fun x31 => (funext fun x32 => (funext fun x33 => (funext fun x34 => (funext fun x35 => (funext fun x36 => ih x19 x20 x21 x22 x23 x24 x25 x26 x27 x28 x29 x30 x31 x32 x33 x34 x35 x36))))))))))))))))))
  rw [e12]
  rfl
theorem gen3_reader_one.l8_eq (fuel : Nat) (bs : List Int) (at0 : Int) (bad wrong : Bool) (last : Int) (base : LR) : ∀ (k : Nat) (x3 : Int) (x4 : Bool) (x5 : Bool) (x6 : (List Int)) (x7 : Int) (x8 : Bool) (x9 : Int) (x10 : Int) (x11 : Bool) (x12 : Int) (x13 : Int) (x14 : Int) (x15 : Int) (x16 : Int) (x17 : Bool) (x18 : LF), lp gen3_reader_one_E fuel Tryz.f99 [.dat (.pair (.int .i64) (.pair (.int .i64) (.pair (.int .i64) (.pair (.pair (.int .i64) (.int .i64)) (.pair .bool (.sl (.pair (.int .i64) (.sl (.int .u8))))))))) true] 2 gen3_reader_one.k 8 [] k (gen3_reader_one.s8 bs at0 bad wrong last base x3 x4 x5 x6 x7 x8 x9 x10 x11 x12 x13 x14 x15 x16 x17 x18) = gen3_reader_one.l8 fuel bs at0 bad wrong last base k x3 x4 x5 x6 x7 x8 x9 x10 x11 x12 x13 x14 x15 x16 x17 x18 := by
 intro k
 induction k with
 | zero => intro x3 x4 x5 x6 x7 x8 x9 x10 x11 x12 x13 x14 x15 x16 x17 x18; rfl
 | succ k ih =>
  intro x3 x4 x5 x6 x7 x8 x9 x10 x11 x12 x13 x14 x15 x16 x17 x18
  have h : lp gen3_reader_one_E fuel Tryz.f99 [.dat (.pair (.int .i64) (.pair (.int .i64) (.pair (.int .i64) (.pair (.pair (.int .i64) (.int .i64)) (.pair .bool (.sl (.pair (.int .i64) (.sl (.int .u8))))))))) true] 2 gen3_reader_one.k 8 [] (k + 1) (gen3_reader_one.s8 bs at0 bad wrong last base x3 x4 x5 x6 x7 x8 x9 x10 x11 x12 x13 x14 x15 x16 x17 x18) = gen3_reader_one.b8 bs at0 bad wrong last base (fun x3 x4 x5 x6 x7 x8 x9 x10 x11 x12 x13 x14 x15 x16 x17 x18 => lp gen3_reader_one_E fuel Tryz.f99 [.dat (.pair (.int .i64) (.pair (.int .i64) (.pair (.int .i64) (.pair (.pair (.int .i64) (.int .i64)) (.pair .bool (.sl (.pair (.int .i64) (.sl (.int .u8))))))))) true] 2 gen3_reader_one.k 8 [] k (gen3_reader_one.s8 bs at0 bad wrong last base x3 x4 x5 x6 x7 x8 x9 x10 x11 x12 x13 x14 x15 x16 x17 x18)) (fun x19 x20 x21 x22 x23 x24 x25 x26 x27 x28 x29 x30 x31 x32 x33 x34 x35 x36 => lp gen3_reader_one_E fuel Tryz.f99 [.dat (.pair (.int .i64) (.pair (.int .i64) (.pair (.int .i64) (.pair (.pair (.int .i64) (.int .i64)) (.pair .bool (.sl (.pair (.int .i64) (.sl (.int .u8))))))))) true] 2 gen3_reader_one.k 12 [] fuel (gen3_reader_one.s12 bs at0 bad wrong last base x19 x20 x21 x22 x23 x24 x25 x26 x27 x28 x29 x30 x31 x32 x33 x34 x35 x36)) x3 x4 x5 x6 x7 x8 x9 x10 x11 x12 x13 x14 x15 x16 x17 x18 := by kernel_rfl
  rw [h]
  have e8 : (fun x3 x4 x5 x6 x7 x8 x9 x10 x11 x12 x13 x14 x15 x16 x17 x18 => lp gen3_reader_one_E fuel Tryz.f99 [.dat (.pair (.int .i64) (.pair (.int .i64) (.pair (.int .i64) (.pair (.pair (.int .i64) (.int .i64)) (.pair .bool (.sl (.pair (.int .i64) (.sl (.int .u8))))))))) true] 2 gen3_reader_one.k 8 [] k (gen3_reader_one.s8 bs at0 bad wrong last base x3 x4 x5 x6 x7 x8 x9 x10 x11 x12 x13 x14 x15 x16 x17 x18)) = gen3_reader_one.l8 fuel bs at0 bad wrong last base k := (funext fun x3 => (funext fun x4 => (funext fun x5 => (funext fun x6 => (funext fun x7 => (funext fun x8 => (funext fun x9 => (funext fun x10 => (funext fun x11 => (funext fun x12 => (funext fun x13 => (funext fun x14 => (funext fun x15 => (funext fun x16 => (funext fun x17 => (funext fun x18 => ih x3 x4 x5 x6 x7 x8 x9 x10 x11 x12 x13 x14 x15 x16 x17 x18))))))))))))))))
  rw [e8]
  have e12 : (fun x19 x20 x21 x22 x23 x24 x25 x26 x27 x28 x29 x30 x31 x32 x33 x34 x35 x36 => lp gen3_reader_one_E fuel Tryz.f99 [.dat (.pair (.int .i64) (.pair (.int .i64) (.pair (.int .i64) (.pair (.pair (.int .i64) (.int .i64)) (.pair .bool (.sl (.pair (.int .i64) (.sl (.int .u8))))))))) true] 2 gen3_reader_one.k 12 [] fuel (gen3_reader_one.s12 bs at0 bad wrong last base x19 x20 x21 x22 x23 x24 x25 x26 x27 x28 x29 x30 x31 x32 x33 x34 x35 x36)) = gen3_reader_one.l12 fuel bs at0 bad wrong last base fuel := (funext fun x19 => (funext fun x20 => (funext fun x21 => (funext fun x22 => (funext fun x23 => (funext fun x24 => (funext fun x25 => (funext fun x26 => (funext fun x27 => (funext fun x28 => (funext fun x29 => (funext fun x30 => (funext fun x31 => (funext fun x32 => (funext fun x33 => (funext fun x34 => (funext fun x35 => (funext fun x36 => gen3_reader_one.l12_eq fuel bs at0 bad wrong last base fuel x19 x20 x21 x22 x23 x24 x25 x26 x27 x28 x29 x30 x31 x32 x33 x34 x35 x36))))))))))))))))))
  rw [e12]
  rfl
theorem gen3_reader_one.eq (fuel : Nat) (bs : List Int) (at0 : Int) (bad wrong : Bool) (last : Int) (base : LR) : (denF gen3_reader_one_E loopN fuel Tryz.f99 [.dat (.pair (.int .i64) (.pair (.int .i64) (.pair (.int .i64) (.pair (.pair (.int .i64) (.int .i64)) (.pair .bool (.sl (.pair (.int .i64) (.sl (.int .u8))))))))) true] [.ptr 0 0, .d (.int .i64) last, .d (.sl (.pair (.int .i64) (.pair (.int .i64) (.pair (.int .i64) (.pair (.pair (.int .i64) (.int .i64)) (.pair .bool (.sl (.pair (.int .i64) (.sl (.int .u8)))))))))) base] [.box [.ptr 1 0, .d .bool wrong], .box [.d (.sl (.int .u8)) bs, .d (.int .i64) at0, .d .bool bad]] gen3_reader_one.k) = gen3_reader_one.f fuel bs at0 bad wrong last base := by
 have h : (denF gen3_reader_one_E loopN fuel Tryz.f99 [.dat (.pair (.int .i64) (.pair (.int .i64) (.pair (.int .i64) (.pair (.pair (.int .i64) (.int .i64)) (.pair .bool (.sl (.pair (.int .i64) (.sl (.int .u8))))))))) true] [.ptr 0 0, .d (.int .i64) last, .d (.sl (.pair (.int .i64) (.pair (.int .i64) (.pair (.int .i64) (.pair (.pair (.int .i64) (.int .i64)) (.pair .bool (.sl (.pair (.int .i64) (.sl (.int .u8)))))))))) base] [.box [.ptr 1 0, .d .bool wrong], .box [.d (.sl (.int .u8)) bs, .d (.int .i64) at0, .d .bool bad]] gen3_reader_one.k) = gen3_reader_one.b bs at0 bad wrong last base (fun x3 x4 x5 x6 x7 x8 x9 x10 x11 x12 x13 x14 x15 x16 x17 x18 => lp gen3_reader_one_E fuel Tryz.f99 [.dat (.pair (.int .i64) (.pair (.int .i64) (.pair (.int .i64) (.pair (.pair (.int .i64) (.int .i64)) (.pair .bool (.sl (.pair (.int .i64) (.sl (.int .u8))))))))) true] 2 gen3_reader_one.k 8 [] fuel (gen3_reader_one.s8 bs at0 bad wrong last base x3 x4 x5 x6 x7 x8 x9 x10 x11 x12 x13 x14 x15 x16 x17 x18)) := by kernel_rfl
 rw [h]
 have e8 : (fun x3 x4 x5 x6 x7 x8 x9 x10 x11 x12 x13 x14 x15 x16 x17 x18 => lp gen3_reader_one_E fuel Tryz.f99 [.dat (.pair (.int .i64) (.pair (.int .i64) (.pair (.int .i64) (.pair (.pair (.int .i64) (.int .i64)) (.pair .bool (.sl (.pair (.int .i64) (.sl (.int .u8))))))))) true] 2 gen3_reader_one.k 8 [] fuel (gen3_reader_one.s8 bs at0 bad wrong last base x3 x4 x5 x6 x7 x8 x9 x10 x11 x12 x13 x14 x15 x16 x17 x18)) = gen3_reader_one.l8 fuel bs at0 bad wrong last base fuel := (funext fun x3 => (funext fun x4 => (funext fun x5 => (funext fun x6 => (funext fun x7 => (funext fun x8 => (funext fun x9 => (funext fun x10 => (funext fun x11 => (funext fun x12 => (funext fun x13 => (funext fun x14 => (funext fun x15 => (funext fun x16 => (funext fun x17 => (funext fun x18 => gen3_reader_one.l8_eq fuel bs at0 bad wrong last base fuel x3 x4 x5 x6 x7 x8 x9 x10 x11 x12 x13 x14 x15 x16 x17 x18))))))))))))))))
 rw [e8]
 rfl
theorem gen3_reader_one.l12_at (fuel nN kK : Nat) (hN : nN = kK + 1) (bs : List Int) (at0 : Int) (bad : Bool) (wrong : Bool) (last : Int) (base : LR) (x19 : Int) (x20 : Bool) (x21 : Bool) (x22 : (List Int)) (x23 : Int) (x24 : Bool) (x25 : Int) (x26 : Int) (x27 : Int) (x28 : Int) (x29 : Bool) (x30 : Int) (x31 : Int) (x32 : Int) (x33 : Int) (x34 : Int) (x35 : Bool) (x36 : LF) : gen3_reader_one.l12 fuel bs at0 bad wrong last base nN x19 x20 x21 x22 x23 x24 x25 x26 x27 x28 x29 x30 x31 x32 x33 x34 x35 x36 = gen3_reader_one.b12 bs at0 bad wrong last base (gen3_reader_one.l12 fuel bs at0 bad wrong last base kK) x19 x20 x21 x22 x23 x24 x25 x26 x27 x28 x29 x30 x31 x32 x33 x34 x35 x36 := by
 subst hN
 rfl
theorem gen3_reader_one.l8_at (fuel nN kK : Nat) (hN : nN = kK + 1) (bs : List Int) (at0 : Int) (bad : Bool) (wrong : Bool) (last : Int) (base : LR) (x3 : Int) (x4 : Bool) (x5 : Bool) (x6 : (List Int)) (x7 : Int) (x8 : Bool) (x9 : Int) (x10 : Int) (x11 : Bool) (x12 : Int) (x13 : Int) (x14 : Int) (x15 : Int) (x16 : Int) (x17 : Bool) (x18 : LF) : gen3_reader_one.l8 fuel bs at0 bad wrong last base nN x3 x4 x5 x6 x7 x8 x9 x10 x11 x12 x13 x14 x15 x16 x17 x18 = gen3_reader_one.b8 bs at0 bad wrong last base (gen3_reader_one.l8 fuel bs at0 bad wrong last base kK) (gen3_reader_one.l12 fuel bs at0 bad wrong last base fuel) x3 x4 x5 x6 x7 x8 x9 x10 x11 x12 x13 x14 x15 x16 x17 x18 := by
 subst hN
 rfl
def s_gen3_reader_one : Den.Sum := ⟨[.pb [.frz none [0] 0 (.int .u8)], .raw, .dat (.sl (.pair (.int .i64) (.pair (.int .i64) (.pair (.int .i64) (.pair (.pair (.int .i64) (.int .i64)) (.pair .bool (.sl (.pair (.int .i64) (.sl (.int .u8)))))))))) false], fun args objs κ => match args, objs with
 | [.ptr 0 0, .d (.int .i64) last, .d (.sl (.pair (.int .i64) (.pair (.int .i64) (.pair (.int .i64) (.pair (.pair (.int .i64) (.int .i64)) (.pair .bool (.sl (.pair (.int .i64) (.sl (.int .u8)))))))))) base], [.box [.ptr 1 0, .d .bool wrong], .box [.d (.sl (.int .u8)) bs, .d (.int .i64) at0, .d .bool bad]] => (match veil (gen3_reader_one.f BIG bs at0 bad wrong last base) with | none => none | some y => κ [.agg [.d (.int .i64) y.1, .d (.int .i64) y.2.1, .d (.int .i64) y.2.2.1, .d (.int .i64) y.2.2.2.1, .d (.int .i64) y.2.2.2.2.1, .d .bool y.2.2.2.2.2.1, .d (.sl (.pair (.int .i64) (.sl (.int .u8)))) y.2.2.2.2.2.2.1]] [.box [.ptr 1 0, .d .bool y.2.2.2.2.2.2.2.1], .box [.d (.sl (.int .u8)) y.2.2.2.2.2.2.2.2.1, .d (.int .i64) y.2.2.2.2.2.2.2.2.2.1, .d .bool y.2.2.2.2.2.2.2.2.2.2]])
 | _, _ => none⟩
theorem s_gen3_reader_one_det : SumDet s_gen3_reader_one := fun avs objs R κ => by
 show s_gen3_reader_one.run avs objs (two κ) = (s_gen3_reader_one.run avs objs (two some)).bind κ
 unfold s_gen3_reader_one
 simp only [veil_eq]
 split
 ·split <;> rfl
 ·rfl
theorem s_gen3_reader_one_ok : SumOk Tryz.prog 99 s_gen3_reader_one := by
 have hE : EnvOk Tryz.prog gen3_reader_one_E := env_ok (l := [(98, s_gen3_reader_form), (122, s_rec_Find), (75, s_bsame), (52, s_rnumb), (107, s_gen3_reader_span), (123, s_varint_Zag), (124, s_gen3_reader_fields)]) th_ok any_ok ⟨⟨s_gen3_reader_form_ok, s_gen3_reader_form_det⟩, ⟨s_rec_Find_ok, s_rec_Find_det⟩, ⟨s_bsame_ok, s_bsame_det⟩, ⟨s_rnumb_ok, s_rnumb_det⟩, ⟨s_gen3_reader_span_ok, s_gen3_reader_span_det⟩, ⟨s_varint_Zag_ok, s_varint_Zag_det⟩, ⟨s_gen3_reader_fields_ok, s_gen3_reader_fields_det⟩, trivial⟩ _
 refine sum_ok hE Tryz.func99 rfl (by kernel_rfl) s_gen3_reader_one [.dat (.pair (.int .i64) (.pair (.int .i64) (.pair (.int .i64) (.pair (.pair (.int .i64) (.int .i64)) (.pair .bool (.sl (.pair (.int .i64) (.sl (.int .u8))))))))) true] gen3_reader_one.k ?_
 intro R avs objs κ r h
 unfold s_gen3_reader_one at h
 simp only [veil_eq] at h
 split at h
 ·rename_i last base wrong bs at0 bad
  split at h
  ·cases h
  ·rename_i y hy
   refine ⟨BIG, _, _, _, (gen3_reader_one.eq BIG bs at0 bad wrong last base).trans hy, ?_, h⟩
   intro rs ros hk
   unfold gen3_reader_one.k at hk
   split at hk
   ·first | (cases hk; exact ⟨rfl, rfl⟩) | (have e := Option.some.inj hk; rw [← e]; exact ⟨rfl, rfl⟩)
   ·cases hk
 ·cases h
def gen3_Decode_E : Env := ⟨th, gam [(76, s_valid), (96, s_sorted), (41, s_has), (51, s_read), (74, s_gen3_reader_headR), (98, s_gen3_reader_form), (99, s_gen3_reader_one), (86, s_done)], fun i => if i = 11 then ⟨[0, 1, 4, 6, 7, 8, 9, 10], [(1458, 54, (.pair (.int .i64) (.pair (.int .i64) (.pair (.int .i64) (.pair (.pair (.int .i64) (.int .i64)) (.pair .bool (.sl (.pair (.int .i64) (.sl (.int .u8)))))))))), (1, 53, (.pair (.int .i64) (.pair (.int .i64) (.pair (.int .i64) (.pair (.pair (.int .i64) (.int .i64)) (.pair .bool (.sl (.pair (.int .i64) (.sl (.int .u8))))))))))], [1]⟩ else ⟨[], [], []⟩⟩
def gen3_Decode.k (rs : List AV) (os : List Den.Obj) : Option (Int × Int × Int × Int × Int × Int × Int × Int × Int × Int × LR × Int) :=
 match rs, os with
 | [.agg [.d (.int .i64) r0, .d (.int .i64) r1, .d (.int .i64) r2, .d (.int .i64) r3, .d (.int .i64) r4, .d (.int .i64) r5, .d (.int .i64) r6, .d (.int .i64) r7, .d (.int .i64) r8, .d (.int .i64) r9, .d (.sl (.pair (.int .i64) (.pair (.int .i64) (.pair (.int .i64) (.pair (.pair (.int .i64) (.int .i64)) (.pair .bool (.sl (.pair (.int .i64) (.sl (.int .u8)))))))))) r10], .d (.int .i64) r11], [] => some (r0, r1, r2, r3, r4, r5, r6, r7, r8, r9, r10, r11)
 | _, _ => none
def gen3_Decode.s11 (b : List Int) (base x2 : LR) (x3 x4 x5 : Int) (x6 : Bool) (x7 : (List Int)) (x8 : Int) (x9 : Bool) (x10 x11 x12 x13 x14 x15 x16 x17 x18 x19 : Int) (x20 : LR) : St := ⟨[.d (.sl (.int .u8)) (b), .d (.sl (.pair (.int .i64) (.pair (.int .i64) (.pair (.int .i64) (.pair (.pair (.int .i64) (.int .i64)) (.pair .bool (.sl (.pair (.int .i64) (.sl (.int .u8)))))))))) x2, .dead, .dead, .ptr 64 0, .dead, .ptr 65 0, .ptr 67 0, .d (.int .i64) x3, .d (.int .i64) x4, .d (.int .i64) x5, dD, dD, dD, dD, dD, dD, dD, dD, dD, dD, dD, dD, dD, dD, dD, dD, dD, dD, dD, dD, dD, dD, dD, dD, dD, dD, dD, dD, dD, dD, dD, dD, dD, dD, dD, dD, dD, dD, dD, dD, dD, dD, dD, dD, dD, dD, dD, dD, dD, dD, dD, dD, dD, dD, dD, dD, dD, dD, dD, dD, dD, dD, dD, dD, dD, dD, .dead], ofL [(64, .box [.d (.int .i64) (0), .d (.int .i64) (0), .d (.int .i64) (0), .d (.int .i64) (0), .d (.int .i64) (0), .d (.int .i64) (0), .d (.int .i64) (0), .d (.int .i64) (0), .d (.int .i64) (0), .d (.int .i64) (0), .nilsl]), (65, .box [.ptr 66 0, .d .bool x6]), (66, .box [.d (.sl (.int .u8)) x7, .d (.int .i64) x8, .d .bool x9]), (67, .box [.d (.int .i64) x10, .d (.int .i64) x11, .d (.int .i64) x12, .d (.int .i64) x13, .d (.int .i64) x14, .d (.int .i64) x15, .d (.int .i64) x16, .d (.int .i64) x17, .d (.int .i64) x18, .d (.int .i64) x19, .row 68]), (68, .row 54 (.pair (.int .i64) (.pair (.int .i64) (.pair (.int .i64) (.pair (.pair (.int .i64) (.int .i64)) (.pair .bool (.sl (.pair (.int .i64) (.sl (.int .u8))))))))) x20 false)], 0⟩
def gen3_Decode.b11 (b : List Int) (base : LR) (A11 : LR → Int → Int → Int → Bool → (List Int) → Int → Bool → Int → Int → Int → Int → Int → Int → Int → Int → Int → Int → LR → Option (Int × Int × Int × Int × Int × Int × Int × Int × Int × Int × LR × Int)) (x2 : LR) (x3 : Int) (x4 : Int) (x5 : Int) (x6 : Bool) (x7 : (List Int)) (x8 : Int) (x9 : Bool) (x10 : Int) (x11 : Int) (x12 : Int) (x13 : Int) (x14 : Int) (x15 : Int) (x16 : Int) (x17 : Int) (x18 : Int) (x19 : Int) (x20 : LR) : Option (Int × Int × Int × Int × Int × Int × Int × Int × Int × Int × LR × Int) :=
 (if (decide (x5 < x3)) then (if (!x6) then (match (veil (gen3_reader_one.f BIG x7 x8 x9 x6 x4 x2)) with | none => none | some y21 => (if ((((List.length x20) + (List.length ((y21.1, (y21.2.1, (y21.2.2.1, ((y21.2.2.2.1, y21.2.2.2.2.1), (y21.2.2.2.2.2.1, y21.2.2.2.2.2.2.1))))) :: ([] : LR)))) * (72 : Nat)) ≤ lim) then A11 x2 x3 y21.1 (IntKind.wrap .i64 (x5 + (1 : Int))) y21.2.2.2.2.2.2.2.1 y21.2.2.2.2.2.2.2.2.1 y21.2.2.2.2.2.2.2.2.2.1 y21.2.2.2.2.2.2.2.2.2.2 x10 x11 x12 x13 x14 x15 x16 x17 x18 x19 (x20 ++ ((y21.1, (y21.2.1, (y21.2.2.1, ((y21.2.2.2.1, y21.2.2.2.2.1), (y21.2.2.2.2.2.1, y21.2.2.2.2.2.2.1))))) :: ([] : LR))) else none)) else (if x6 then some (0, 0, 0, 0, 0, 0, 0, 0, 0, 0, ([] : LR), (4 : Int)) else (if (atOk x7 x8) then (if (!((!x9) && ((leftF x7 x8 x9) == (0 : Int)))) then some (0, 0, 0, 0, 0, 0, 0, 0, 0, 0, ([] : LR), (4 : Int)) else (if (decide (((((List.length b)) : Nat) : Int) > (65499 : Int))) then some (0, 0, 0, 0, 0, 0, 0, 0, 0, 0, ([] : LR), (4 : Int)) else (if (smallRecs x20) then (if (!(validF x10 x11 x12 x13 x14 x15 x16 x17 x18 x19 x20)) then some (0, 0, 0, 0, 0, 0, 0, 0, 0, 0, ([] : LR), (4 : Int)) else some (x10, x11, x12, x13, x14, x15, x16, x17, x18, x19, x20, (0 : Int))) else none))) else none))) else (if x6 then some (0, 0, 0, 0, 0, 0, 0, 0, 0, 0, ([] : LR), (4 : Int)) else (if (atOk x7 x8) then (if (!((!x9) && ((leftF x7 x8 x9) == (0 : Int)))) then some (0, 0, 0, 0, 0, 0, 0, 0, 0, 0, ([] : LR), (4 : Int)) else (if (decide (((((List.length b)) : Nat) : Int) > (65499 : Int))) then some (0, 0, 0, 0, 0, 0, 0, 0, 0, 0, ([] : LR), (4 : Int)) else (if (smallRecs x20) then (if (!(validF x10 x11 x12 x13 x14 x15 x16 x17 x18 x19 x20)) then some (0, 0, 0, 0, 0, 0, 0, 0, 0, 0, ([] : LR), (4 : Int)) else some (x10, x11, x12, x13, x14, x15, x16, x17, x18, x19, x20, (0 : Int))) else none))) else none)))
def gen3_Decode.l11 (fuel : Nat) (b : List Int) (base : LR) : Nat → LR → Int → Int → Int → Bool → (List Int) → Int → Bool → Int → Int → Int → Int → Int → Int → Int → Int → Int → Int → LR → Option (Int × Int × Int × Int × Int × Int × Int × Int × Int × Int × LR × Int)
 | 0, _, _, _, _, _, _, _, _, _, _, _, _, _, _, _, _, _, _, _ => none
 | k + 1, x2, x3, x4, x5, x6, x7, x8, x9, x10, x11, x12, x13, x14, x15, x16, x17, x18, x19, x20 => gen3_Decode.b11 b base (gen3_Decode.l11 fuel b base k) x2 x3 x4 x5 x6 x7 x8 x9 x10 x11 x12 x13 x14 x15 x16 x17 x18 x19 x20
def gen3_Decode.b (b : List Int) (base : LR) (E11 : LR → Int → Int → Int → Bool → (List Int) → Int → Bool → Int → Int → Int → Int → Int → Int → Int → Int → Int → Int → LR → Option (Int × Int × Int × Int × Int × Int × Int × Int × Int × Int × LR × Int)) : Option (Int × Int × Int × Int × Int × Int × Int × Int × Int × Int × LR × Int) :=
 (if (smallRecs base) then (if (!(sortedF base)) then some (0, 0, 0, 0, 0, 0, 0, 0, 0, 0, ([] : LR), (1 : Int)) else (if (inB b) then (match (veil (gen3_reader_headR.f BIG b 0 false false)) with | none => none | some y0 => (if (y0.2.2.2.2.2.2.2.2.2.1 == (0 : Int)) then (if (hasF y0.1 (4 : Int)) then (match (veil (gen3_reader_form.f BIG y0.2.2.2.2.2.2.2.2.2.2.2.1 y0.2.2.2.2.2.2.2.2.2.2.2.2.1 y0.2.2.2.2.2.2.2.2.2.2.2.2.2 y0.2.2.2.2.2.2.2.2.2.2.1 (255 : Int))) with | none => none | some y1 => E11 ([] : LR) y1.1 (-(1 : Int)) (0 : Int) y1.2.1 y1.2.2.1 y1.2.2.2.1 y1.2.2.2.2 y0.1 y0.2.1 y0.2.2.1 y0.2.2.2.1 y0.2.2.2.2.1 y0.2.2.2.2.2.1 y0.2.2.2.2.2.2.1 y0.2.2.2.2.2.2.2.1 y0.2.2.2.2.2.2.2.2.1 y0.2.2.2.2.2.2.2.2.2.1 ([] : LR)) else (if y0.2.2.2.2.2.2.2.2.2.2.1 then some (0, 0, 0, 0, 0, 0, 0, 0, 0, 0, ([] : LR), (4 : Int)) else (if (atOk y0.2.2.2.2.2.2.2.2.2.2.2.1 y0.2.2.2.2.2.2.2.2.2.2.2.2.1) then (if (!((!y0.2.2.2.2.2.2.2.2.2.2.2.2.2) && ((leftF y0.2.2.2.2.2.2.2.2.2.2.2.1 y0.2.2.2.2.2.2.2.2.2.2.2.2.1 y0.2.2.2.2.2.2.2.2.2.2.2.2.2) == (0 : Int)))) then some (0, 0, 0, 0, 0, 0, 0, 0, 0, 0, ([] : LR), (4 : Int)) else (if (decide (((((List.length b)) : Nat) : Int) > (65499 : Int))) then some (0, 0, 0, 0, 0, 0, 0, 0, 0, 0, ([] : LR), (4 : Int)) else (if (!(validF y0.1 y0.2.1 y0.2.2.1 y0.2.2.2.1 y0.2.2.2.2.1 y0.2.2.2.2.2.1 y0.2.2.2.2.2.2.1 y0.2.2.2.2.2.2.2.1 y0.2.2.2.2.2.2.2.2.1 y0.2.2.2.2.2.2.2.2.2.1 ([] : LR))) then some (0, 0, 0, 0, 0, 0, 0, 0, 0, 0, ([] : LR), (4 : Int)) else some (y0.1, y0.2.1, y0.2.2.1, y0.2.2.2.1, y0.2.2.2.2.1, y0.2.2.2.2.2.1, y0.2.2.2.2.2.2.1, y0.2.2.2.2.2.2.2.1, y0.2.2.2.2.2.2.2.2.1, y0.2.2.2.2.2.2.2.2.2.1, ([] : LR), (0 : Int))))) else none))) else (if (hasF y0.1 (4 : Int)) then (match (veil (gen3_reader_form.f BIG y0.2.2.2.2.2.2.2.2.2.2.2.1 y0.2.2.2.2.2.2.2.2.2.2.2.2.1 y0.2.2.2.2.2.2.2.2.2.2.2.2.2 y0.2.2.2.2.2.2.2.2.2.2.1 (255 : Int))) with | none => none | some y22 => E11 base y22.1 (-(1 : Int)) (0 : Int) y22.2.1 y22.2.2.1 y22.2.2.2.1 y22.2.2.2.2 y0.1 y0.2.1 y0.2.2.1 y0.2.2.2.1 y0.2.2.2.2.1 y0.2.2.2.2.2.1 y0.2.2.2.2.2.2.1 y0.2.2.2.2.2.2.2.1 y0.2.2.2.2.2.2.2.2.1 y0.2.2.2.2.2.2.2.2.2.1 ([] : LR)) else (if y0.2.2.2.2.2.2.2.2.2.2.1 then some (0, 0, 0, 0, 0, 0, 0, 0, 0, 0, ([] : LR), (4 : Int)) else (if (atOk y0.2.2.2.2.2.2.2.2.2.2.2.1 y0.2.2.2.2.2.2.2.2.2.2.2.2.1) then (if (!((!y0.2.2.2.2.2.2.2.2.2.2.2.2.2) && ((leftF y0.2.2.2.2.2.2.2.2.2.2.2.1 y0.2.2.2.2.2.2.2.2.2.2.2.2.1 y0.2.2.2.2.2.2.2.2.2.2.2.2.2) == (0 : Int)))) then some (0, 0, 0, 0, 0, 0, 0, 0, 0, 0, ([] : LR), (4 : Int)) else (if (decide (((((List.length b)) : Nat) : Int) > (65499 : Int))) then some (0, 0, 0, 0, 0, 0, 0, 0, 0, 0, ([] : LR), (4 : Int)) else (if (!(validF y0.1 y0.2.1 y0.2.2.1 y0.2.2.2.1 y0.2.2.2.2.1 y0.2.2.2.2.2.1 y0.2.2.2.2.2.2.1 y0.2.2.2.2.2.2.2.1 y0.2.2.2.2.2.2.2.2.1 y0.2.2.2.2.2.2.2.2.2.1 ([] : LR))) then some (0, 0, 0, 0, 0, 0, 0, 0, 0, 0, ([] : LR), (4 : Int)) else some (y0.1, y0.2.1, y0.2.2.1, y0.2.2.2.1, y0.2.2.2.2.1, y0.2.2.2.2.2.1, y0.2.2.2.2.2.2.1, y0.2.2.2.2.2.2.2.1, y0.2.2.2.2.2.2.2.2.1, y0.2.2.2.2.2.2.2.2.2.1, ([] : LR), (0 : Int))))) else none))))) else none)) else none)
def gen3_Decode.f (fuel : Nat) (b : List Int) (base : LR) : Option (Int × Int × Int × Int × Int × Int × Int × Int × Int × Int × LR × Int) := gen3_Decode.b b base (gen3_Decode.l11 fuel b base fuel)
theorem gen3_Decode.l11_eq (fuel : Nat) (b : List Int) (base : LR) : ∀ (k : Nat) (x2 : LR) (x3 : Int) (x4 : Int) (x5 : Int) (x6 : Bool) (x7 : (List Int)) (x8 : Int) (x9 : Bool) (x10 : Int) (x11 : Int) (x12 : Int) (x13 : Int) (x14 : Int) (x15 : Int) (x16 : Int) (x17 : Int) (x18 : Int) (x19 : Int) (x20 : LR), lp gen3_Decode_E fuel Tryz.f65 [.dat (.pair (.int .i64) (.pair (.int .i64) (.pair (.int .i64) (.pair (.pair (.int .i64) (.int .i64)) (.pair (.int .i64) (.pair (.int .i64) (.pair (.int .i64) (.pair (.int .i64) (.pair (.int .i64) (.sl (.pair (.int .i64) (.pair (.int .i64) (.pair (.int .i64) (.pair (.pair (.int .i64) (.int .i64)) (.pair .bool (.sl (.pair (.int .i64) (.sl (.int .u8))))))))))))))))))) true, .raw] 0 gen3_Decode.k 11 [] k (gen3_Decode.s11 b base x2 x3 x4 x5 x6 x7 x8 x9 x10 x11 x12 x13 x14 x15 x16 x17 x18 x19 x20) = gen3_Decode.l11 fuel b base k x2 x3 x4 x5 x6 x7 x8 x9 x10 x11 x12 x13 x14 x15 x16 x17 x18 x19 x20 := by
 intro k
 induction k with
 | zero => intro x2 x3 x4 x5 x6 x7 x8 x9 x10 x11 x12 x13 x14 x15 x16 x17 x18 x19 x20; rfl
 | succ k ih =>
  intro x2 x3 x4 x5 x6 x7 x8 x9 x10 x11 x12 x13 x14 x15 x16 x17 x18 x19 x20
  have h : lp gen3_Decode_E fuel Tryz.f65 [.dat (.pair (.int .i64) (.pair (.int .i64) (.pair (.int .i64) (.pair (.pair (.int .i64) (.int .i64)) (.pair (.int .i64) (.pair (.int .i64) (.pair (.int .i64) (.pair (.int .i64) (.pair (.int .i64) (.sl (.pair (.int .i64) (.pair (.int .i64) (.pair (.int .i64) (.pair (.pair (.int .i64) (.int .i64)) (.pair .bool (.sl (.pair (.int .i64) (.sl (.int .u8))))))))))))))))))) true, .raw] 0 gen3_Decode.k 11 [] (k + 1) (gen3_Decode.s11 b base x2 x3 x4 x5 x6 x7 x8 x9 x10 x11 x12 x13 x14 x15 x16 x17 x18 x19 x20) = gen3_Decode.b11 b base (fun x2 x3 x4 x5 x6 x7 x8 x9 x10 x11 x12 x13 x14 x15 x16 x17 x18 x19 x20 => lp gen3_Decode_E fuel Tryz.f65 [.dat (.pair (.int .i64) (.pair (.int .i64) (.pair (.int .i64) (.pair (.pair (.int .i64) (.int .i64)) (.pair (.int .i64) (.pair (.int .i64) (.pair (.int .i64) (.pair (.int .i64) (.pair (.int .i64) (.sl (.pair (.int .i64) (.pair (.int .i64) (.pair (.int .i64) (.pair (.pair (.int .i64) (.int .i64)) (.pair .bool (.sl (.pair (.int .i64) (.sl (.int .u8))))))))))))))))))) true, .raw] 0 gen3_Decode.k 11 [] k (gen3_Decode.s11 b base x2 x3 x4 x5 x6 x7 x8 x9 x10 x11 x12 x13 x14 x15 x16 x17 x18 x19 x20)) x2 x3 x4 x5 x6 x7 x8 x9 x10 x11 x12 x13 x14 x15 x16 x17 x18 x19 x20 := by kernel_rfl
  rw [h]
  have e11 : (fun x2 x3 x4 x5 x6 x7 x8 x9 x10 x11 x12 x13 x14 x15 x16 x17 x18 x19 x20 => lp gen3_Decode_E fuel Tryz.f65 [.dat (.pair (.int .i64) (.pair (.int .i64) (.pair (.int .i64) (.pair (.pair (.int .i64) (.int .i64)) (.pair (.int .i64) (.pair (.int .i64) (.pair (.int .i64) (.pair (.int .i64) (.pair (.int .i64) (.sl (.pair (.int .i64) (.pair (.int .i64) (.pair (.int .i64) (.pair (.pair (.int .i64) (.int .i64)) (.pair .bool (.sl (.pair (.int .i64) (.sl (.int .u8))))))))))))))))))) true, .raw] 0 gen3_Decode.k 11 [] k (gen3_Decode.s11 b base x2 x3 x4 x5 x6 x7 x8 x9 x10 x11 x12 x13 x14 x15 x16 x17 x18 x19 x20)) = gen3_Decode.l11 fuel b base k := (funext fun x2 => (funext fun x3 => (funext fun x4 => (funext fun x5 => (funext fun x6 => (funext fun x7 => (funext fun x8 => (funext fun x9 => (funext fun x10 => (funext fun x11 => (funext fun x12 => (funext fun x13 => (funext fun x14 => (funext fun x15 => (funext fun x16 => (funext fun x17 => (funext fun x18 => (funext fun x19 => (funext fun x20 => ih x2 x3 x4 x5 x6 x7 x8 x9 x10 x11 x12 x13 x14 x15 x16 x17 x18 x19 x20)))))))))))))))))))
  rw [e11]
  rfl
theorem gen3_Decode.eq (fuel : Nat) (b : List Int) (base : LR) : (denF gen3_Decode_E loopN fuel Tryz.f65 [.dat (.pair (.int .i64) (.pair (.int .i64) (.pair (.int .i64) (.pair (.pair (.int .i64) (.int .i64)) (.pair (.int .i64) (.pair (.int .i64) (.pair (.int .i64) (.pair (.int .i64) (.pair (.int .i64) (.sl (.pair (.int .i64) (.pair (.int .i64) (.pair (.int .i64) (.pair (.pair (.int .i64) (.int .i64)) (.pair .bool (.sl (.pair (.int .i64) (.sl (.int .u8))))))))))))))))))) true, .raw] [.d (.sl (.int .u8)) b, .d (.sl (.pair (.int .i64) (.pair (.int .i64) (.pair (.int .i64) (.pair (.pair (.int .i64) (.int .i64)) (.pair .bool (.sl (.pair (.int .i64) (.sl (.int .u8)))))))))) base] [] gen3_Decode.k) = gen3_Decode.f fuel b base := by
 have h : (denF gen3_Decode_E loopN fuel Tryz.f65 [.dat (.pair (.int .i64) (.pair (.int .i64) (.pair (.int .i64) (.pair (.pair (.int .i64) (.int .i64)) (.pair (.int .i64) (.pair (.int .i64) (.pair (.int .i64) (.pair (.int .i64) (.pair (.int .i64) (.sl (.pair (.int .i64) (.pair (.int .i64) (.pair (.int .i64) (.pair (.pair (.int .i64) (.int .i64)) (.pair .bool (.sl (.pair (.int .i64) (.sl (.int .u8))))))))))))))))))) true, .raw] [.d (.sl (.int .u8)) b, .d (.sl (.pair (.int .i64) (.pair (.int .i64) (.pair (.int .i64) (.pair (.pair (.int .i64) (.int .i64)) (.pair .bool (.sl (.pair (.int .i64) (.sl (.int .u8)))))))))) base] [] gen3_Decode.k) = gen3_Decode.b b base (fun x2 x3 x4 x5 x6 x7 x8 x9 x10 x11 x12 x13 x14 x15 x16 x17 x18 x19 x20 => lp gen3_Decode_E fuel Tryz.f65 [.dat (.pair (.int .i64) (.pair (.int .i64) (.pair (.int .i64) (.pair (.pair (.int .i64) (.int .i64)) (.pair (.int .i64) (.pair (.int .i64) (.pair (.int .i64) (.pair (.int .i64) (.pair (.int .i64) (.sl (.pair (.int .i64) (.pair (.int .i64) (.pair (.int .i64) (.pair (.pair (.int .i64) (.int .i64)) (.pair .bool (.sl (.pair (.int .i64) (.sl (.int .u8))))))))))))))))))) true, .raw] 0 gen3_Decode.k 11 [] fuel (gen3_Decode.s11 b base x2 x3 x4 x5 x6 x7 x8 x9 x10 x11 x12 x13 x14 x15 x16 x17 x18 x19 x20)) := by kernel_rfl
 rw [h]
 have e11 : (fun x2 x3 x4 x5 x6 x7 x8 x9 x10 x11 x12 x13 x14 x15 x16 x17 x18 x19 x20 => lp gen3_Decode_E fuel Tryz.f65 [.dat (.pair (.int .i64) (.pair (.int .i64) (.pair (.int .i64) (.pair (.pair (.int .i64) (.int .i64)) (.pair (.int .i64) (.pair (.int .i64) (.pair (.int .i64) (.pair (.int .i64) (.pair (.int .i64) (.sl (.pair (.int .i64) (.pair (.int .i64) (.pair (.int .i64) (.pair (.pair (.int .i64) (.int .i64)) (.pair .bool (.sl (.pair (.int .i64) (.sl (.int .u8))))))))))))))))))) true, .raw] 0 gen3_Decode.k 11 [] fuel (gen3_Decode.s11 b base x2 x3 x4 x5 x6 x7 x8 x9 x10 x11 x12 x13 x14 x15 x16 x17 x18 x19 x20)) = gen3_Decode.l11 fuel b base fuel := (funext fun x2 => (funext fun x3 => (funext fun x4 => (funext fun x5 => (funext fun x6 => (funext fun x7 => (funext fun x8 => (funext fun x9 => (funext fun x10 => (funext fun x11 => (funext fun x12 => (funext fun x13 => (funext fun x14 => (funext fun x15 => (funext fun x16 => (funext fun x17 => (funext fun x18 => (funext fun x19 => (funext fun x20 => gen3_Decode.l11_eq fuel b base fuel x2 x3 x4 x5 x6 x7 x8 x9 x10 x11 x12 x13 x14 x15 x16 x17 x18 x19 x20)))))))))))))))))))
 rw [e11]
 rfl
def s_gen3_Decode : Den.Sum := ⟨[.dat (.sl (.int .u8)) false, .dat (.sl (.pair (.int .i64) (.pair (.int .i64) (.pair (.int .i64) (.pair (.pair (.int .i64) (.int .i64)) (.pair .bool (.sl (.pair (.int .i64) (.sl (.int .u8)))))))))) false], fun args objs κ => match args, objs with
 | [.d (.sl (.int .u8)) b, .d (.sl (.pair (.int .i64) (.pair (.int .i64) (.pair (.int .i64) (.pair (.pair (.int .i64) (.int .i64)) (.pair .bool (.sl (.pair (.int .i64) (.sl (.int .u8)))))))))) base], [] => (match veil (gen3_Decode.f BIG b base) with | none => none | some y => κ [.agg [.d (.int .i64) y.1, .d (.int .i64) y.2.1, .d (.int .i64) y.2.2.1, .d (.int .i64) y.2.2.2.1, .d (.int .i64) y.2.2.2.2.1, .d (.int .i64) y.2.2.2.2.2.1, .d (.int .i64) y.2.2.2.2.2.2.1, .d (.int .i64) y.2.2.2.2.2.2.2.1, .d (.int .i64) y.2.2.2.2.2.2.2.2.1, .d (.int .i64) y.2.2.2.2.2.2.2.2.2.1, .d (.sl (.pair (.int .i64) (.pair (.int .i64) (.pair (.int .i64) (.pair (.pair (.int .i64) (.int .i64)) (.pair .bool (.sl (.pair (.int .i64) (.sl (.int .u8)))))))))) y.2.2.2.2.2.2.2.2.2.2.1], .d (.int .i64) y.2.2.2.2.2.2.2.2.2.2.2] [])
 | _, _ => none⟩
theorem s_gen3_Decode_det : SumDet s_gen3_Decode := fun avs objs R κ => by
 show s_gen3_Decode.run avs objs (two κ) = (s_gen3_Decode.run avs objs (two some)).bind κ
 unfold s_gen3_Decode
 simp only [veil_eq]
 split
 ·split <;> rfl
 ·rfl
theorem s_gen3_Decode_ok : SumOk Tryz.prog 65 s_gen3_Decode := by
 have hE : EnvOk Tryz.prog gen3_Decode_E := env_ok (l := [(76, s_valid), (96, s_sorted), (41, s_has), (51, s_read), (74, s_gen3_reader_headR), (98, s_gen3_reader_form), (99, s_gen3_reader_one), (86, s_done)]) th_ok any_ok ⟨⟨s_valid_ok, s_valid_det⟩, ⟨s_sorted_ok, s_sorted_det⟩, ⟨s_has_ok, s_has_det⟩, ⟨s_read_ok, s_read_det⟩, ⟨s_gen3_reader_headR_ok, s_gen3_reader_headR_det⟩, ⟨s_gen3_reader_form_ok, s_gen3_reader_form_det⟩, ⟨s_gen3_reader_one_ok, s_gen3_reader_one_det⟩, ⟨s_done_ok, s_done_det⟩, trivial⟩ _
 refine sum_ok hE Tryz.func65 rfl (by kernel_rfl) s_gen3_Decode [.dat (.pair (.int .i64) (.pair (.int .i64) (.pair (.int .i64) (.pair (.pair (.int .i64) (.int .i64)) (.pair (.int .i64) (.pair (.int .i64) (.pair (.int .i64) (.pair (.int .i64) (.pair (.int .i64) (.sl (.pair (.int .i64) (.pair (.int .i64) (.pair (.int .i64) (.pair (.pair (.int .i64) (.int .i64)) (.pair .bool (.sl (.pair (.int .i64) (.sl (.int .u8))))))))))))))))))) true, .raw] gen3_Decode.k ?_
 intro R avs objs κ r h
 unfold s_gen3_Decode at h
 simp only [veil_eq] at h
 split at h
 ·rename_i b base
  split at h
  ·cases h
  ·rename_i y hy
   refine ⟨BIG, _, _, _, (gen3_Decode.eq BIG b base).trans hy, ?_, h⟩
   intro rs ros hk
   unfold gen3_Decode.k at hk
   split at hk
   ·first | (cases hk; exact ⟨rfl, rfl⟩) | (have e := Option.some.inj hk; rw [← e]; exact ⟨rfl, rfl⟩)
   ·cases hk
 ·cases h
def xlate_of_E : Env := ⟨th, gam [(64, s_gen3_Encode), (65, s_gen3_Decode), (56, s_xlate_of_c1), (58, s_xlate_of_c2), (60, s_xlate_of_c3), (62, s_xlate_of_c4)], fun i => ⟨[], [], []⟩⟩
def s_xlate_of : Den.Sum := inl xlate_of_E BIG Tryz.f35 [.raw] [.raw, .raw]
theorem xlate_of_envOk : EnvOk Tryz.prog xlate_of_E := env_ok (l := [(64, s_gen3_Encode), (65, s_gen3_Decode), (56, s_xlate_of_c1), (58, s_xlate_of_c2), (60, s_xlate_of_c3), (62, s_xlate_of_c4)]) th_ok any_ok ⟨⟨s_gen3_Encode_ok, s_gen3_Encode_det⟩, ⟨s_gen3_Decode_ok, s_gen3_Decode_det⟩, ⟨s_xlate_of_c1_ok, s_xlate_of_c1_det⟩, ⟨s_xlate_of_c2_ok, s_xlate_of_c2_det⟩, ⟨s_xlate_of_c3_ok, s_xlate_of_c3_det⟩, ⟨s_xlate_of_c4_ok, s_xlate_of_c4_det⟩, trivial⟩ _
theorem s_xlate_of_det : SumDet s_xlate_of := inl_det xlate_of_envOk.D _ _ _ _
theorem s_xlate_of_ok : SumOk Tryz.prog 35 s_xlate_of := inl_ok xlate_of_envOk Tryz.func35 rfl (by kernel_rfl) _ _ _
def xlate_Encode_E : Env := ⟨th, gam [(64, s_gen3_Encode), (65, s_gen3_Decode), (35, s_xlate_of), (56, s_xlate_of_c1), (58, s_xlate_of_c2), (60, s_xlate_of_c3), (62, s_xlate_of_c4)], fun i => ⟨[], [], []⟩⟩
def xlate_Encode.k (rs : List AV) (os : List Den.Obj) : Option ((List Int) × Int) :=
 match rs, os with
 | [.d (.sl (.int .u8)) r0, .d (.int .i64) r1], [] => some (r0, r1)
 | _, _ => none
def xlate_Encode.b (gen mKind mFrom mInc mSpanLo mSpanHi mSeq mTarget mLife mEpoch mBase : Int) (mRecs base : LR) : Option ((List Int) × Int) :=
 (if (gen == (1 : Int)) then (match (veil (xlate_of_c1.f BIG mKind mFrom mInc mSpanLo mSpanHi mSeq mTarget mLife mEpoch mBase mRecs base)) with | none => none | some y0 => some (y0.1, y0.2)) else (if (gen == (2 : Int)) then (match (veil (xlate_of_c3.f BIG mKind mFrom mInc mSpanLo mSpanHi mSeq mTarget mLife mEpoch mBase mRecs base)) with | none => none | some y1 => some (y1.1, y1.2)) else (if (gen == (3 : Int)) then (match (veil (gen3_Encode.f BIG mKind mFrom mInc mSpanLo mSpanHi mSeq mTarget mLife mEpoch mBase mRecs base)) with | none => none | some y2 => some (y2.1, y2.2)) else some (([] : List Int), (5 : Int)))))
def xlate_Encode.f (fuel : Nat) (gen mKind mFrom mInc mSpanLo mSpanHi mSeq mTarget mLife mEpoch mBase : Int) (mRecs base : LR) : Option ((List Int) × Int) := xlate_Encode.b gen mKind mFrom mInc mSpanLo mSpanHi mSeq mTarget mLife mEpoch mBase mRecs base
theorem xlate_Encode.eq (fuel : Nat) (gen mKind mFrom mInc mSpanLo mSpanHi mSeq mTarget mLife mEpoch mBase : Int) (mRecs base : LR) : (denF xlate_Encode_E loopN fuel Tryz.f29 [.dat (.sl (.int .u8)) false, .raw] [.d (.int .i64) gen, .agg [.d (.int .i64) mKind, .d (.int .i64) mFrom, .d (.int .i64) mInc, .d (.int .i64) mSpanLo, .d (.int .i64) mSpanHi, .d (.int .i64) mSeq, .d (.int .i64) mTarget, .d (.int .i64) mLife, .d (.int .i64) mEpoch, .d (.int .i64) mBase, .d (.sl (.pair (.int .i64) (.pair (.int .i64) (.pair (.int .i64) (.pair (.pair (.int .i64) (.int .i64)) (.pair .bool (.sl (.pair (.int .i64) (.sl (.int .u8)))))))))) mRecs], .d (.sl (.pair (.int .i64) (.pair (.int .i64) (.pair (.int .i64) (.pair (.pair (.int .i64) (.int .i64)) (.pair .bool (.sl (.pair (.int .i64) (.sl (.int .u8)))))))))) base] [] xlate_Encode.k) = xlate_Encode.f fuel gen mKind mFrom mInc mSpanLo mSpanHi mSeq mTarget mLife mEpoch mBase mRecs base := by
 kernel_rfl
def s_xlate_Encode : Den.Sum := ⟨[.raw, .dat (.pair (.int .i64) (.pair (.int .i64) (.pair (.int .i64) (.pair (.pair (.int .i64) (.int .i64)) (.pair (.int .i64) (.pair (.int .i64) (.pair (.int .i64) (.pair (.int .i64) (.pair (.int .i64) (.sl (.pair (.int .i64) (.pair (.int .i64) (.pair (.int .i64) (.pair (.pair (.int .i64) (.int .i64)) (.pair .bool (.sl (.pair (.int .i64) (.sl (.int .u8))))))))))))))))))) true, .dat (.sl (.pair (.int .i64) (.pair (.int .i64) (.pair (.int .i64) (.pair (.pair (.int .i64) (.int .i64)) (.pair .bool (.sl (.pair (.int .i64) (.sl (.int .u8)))))))))) false], fun args objs κ => match args, objs with
 | [.d (.int .i64) gen, .agg [.d (.int .i64) mKind, .d (.int .i64) mFrom, .d (.int .i64) mInc, .d (.int .i64) mSpanLo, .d (.int .i64) mSpanHi, .d (.int .i64) mSeq, .d (.int .i64) mTarget, .d (.int .i64) mLife, .d (.int .i64) mEpoch, .d (.int .i64) mBase, .d (.sl (.pair (.int .i64) (.pair (.int .i64) (.pair (.int .i64) (.pair (.pair (.int .i64) (.int .i64)) (.pair .bool (.sl (.pair (.int .i64) (.sl (.int .u8)))))))))) mRecs], .d (.sl (.pair (.int .i64) (.pair (.int .i64) (.pair (.int .i64) (.pair (.pair (.int .i64) (.int .i64)) (.pair .bool (.sl (.pair (.int .i64) (.sl (.int .u8)))))))))) base], [] => (match veil (xlate_Encode.f BIG gen mKind mFrom mInc mSpanLo mSpanHi mSeq mTarget mLife mEpoch mBase mRecs base) with | none => none | some y => κ [.d (.sl (.int .u8)) y.1, .d (.int .i64) y.2] [])
 | _, _ => none⟩
theorem s_xlate_Encode_det : SumDet s_xlate_Encode := fun avs objs R κ => by
 show s_xlate_Encode.run avs objs (two κ) = (s_xlate_Encode.run avs objs (two some)).bind κ
 unfold s_xlate_Encode
 simp only [veil_eq]
 split
 ·split <;> rfl
 ·rfl
theorem s_xlate_Encode_ok : SumOk Tryz.prog 29 s_xlate_Encode := by
 have hE : EnvOk Tryz.prog xlate_Encode_E := env_ok (l := [(64, s_gen3_Encode), (65, s_gen3_Decode), (35, s_xlate_of), (56, s_xlate_of_c1), (58, s_xlate_of_c2), (60, s_xlate_of_c3), (62, s_xlate_of_c4)]) th_ok any_ok ⟨⟨s_gen3_Encode_ok, s_gen3_Encode_det⟩, ⟨s_gen3_Decode_ok, s_gen3_Decode_det⟩, ⟨s_xlate_of_ok, s_xlate_of_det⟩, ⟨s_xlate_of_c1_ok, s_xlate_of_c1_det⟩, ⟨s_xlate_of_c2_ok, s_xlate_of_c2_det⟩, ⟨s_xlate_of_c3_ok, s_xlate_of_c3_det⟩, ⟨s_xlate_of_c4_ok, s_xlate_of_c4_det⟩, trivial⟩ _
 refine sum_ok hE Tryz.func29 rfl (by kernel_rfl) s_xlate_Encode [.dat (.sl (.int .u8)) false, .raw] xlate_Encode.k ?_
 intro R avs objs κ r h
 unfold s_xlate_Encode at h
 simp only [veil_eq] at h
 split at h
 ·rename_i gen mKind mFrom mInc mSpanLo mSpanHi mSeq mTarget mLife mEpoch mBase mRecs base
  split at h
  ·cases h
  ·rename_i y hy
   refine ⟨BIG, _, _, _, (xlate_Encode.eq BIG gen mKind mFrom mInc mSpanLo mSpanHi mSeq mTarget mLife mEpoch mBase mRecs base).trans hy, ?_, h⟩
   intro rs ros hk
   unfold xlate_Encode.k at hk
   split at hk
   ·first | (cases hk; exact ⟨rfl, rfl⟩) | (have e := Option.some.inj hk; rw [← e]; exact ⟨rfl, rfl⟩)
   ·cases hk
 ·cases h
def xlate_Decode_E : Env := ⟨th, gam [(64, s_gen3_Encode), (65, s_gen3_Decode), (35, s_xlate_of), (56, s_xlate_of_c1), (58, s_xlate_of_c2), (60, s_xlate_of_c3), (62, s_xlate_of_c4)], fun i => ⟨[], [], []⟩⟩
def xlate_Decode.k (rs : List AV) (os : List Den.Obj) : Option (Int × Int × Int × Int × Int × Int × Int × Int × Int × Int × LR × Int) :=
 match rs, os with
 | [.agg [.d (.int .i64) r0, .d (.int .i64) r1, .d (.int .i64) r2, .d (.int .i64) r3, .d (.int .i64) r4, .d (.int .i64) r5, .d (.int .i64) r6, .d (.int .i64) r7, .d (.int .i64) r8, .d (.int .i64) r9, .d (.sl (.pair (.int .i64) (.pair (.int .i64) (.pair (.int .i64) (.pair (.pair (.int .i64) (.int .i64)) (.pair .bool (.sl (.pair (.int .i64) (.sl (.int .u8)))))))))) r10], .d (.int .i64) r11], [] => some (r0, r1, r2, r3, r4, r5, r6, r7, r8, r9, r10, r11)
 | _, _ => none
def xlate_Decode.b (gen : Int) (b : List Int) (base : LR) : Option (Int × Int × Int × Int × Int × Int × Int × Int × Int × Int × LR × Int) :=
 (if (gen == (1 : Int)) then (match (veil (xlate_of_c2.f BIG b base)) with | none => none | some y0 => some (y0.1, y0.2.1, y0.2.2.1, y0.2.2.2.1, y0.2.2.2.2.1, y0.2.2.2.2.2.1, y0.2.2.2.2.2.2.1, y0.2.2.2.2.2.2.2.1, y0.2.2.2.2.2.2.2.2.1, y0.2.2.2.2.2.2.2.2.2.1, y0.2.2.2.2.2.2.2.2.2.2.1, y0.2.2.2.2.2.2.2.2.2.2.2)) else (if (gen == (2 : Int)) then (match (veil (xlate_of_c4.f BIG b base)) with | none => none | some y1 => some (y1.1, y1.2.1, y1.2.2.1, y1.2.2.2.1, y1.2.2.2.2.1, y1.2.2.2.2.2.1, y1.2.2.2.2.2.2.1, y1.2.2.2.2.2.2.2.1, y1.2.2.2.2.2.2.2.2.1, y1.2.2.2.2.2.2.2.2.2.1, y1.2.2.2.2.2.2.2.2.2.2.1, y1.2.2.2.2.2.2.2.2.2.2.2)) else (if (gen == (3 : Int)) then (match (veil (gen3_Decode.f BIG b base)) with | none => none | some y2 => some (y2.1, y2.2.1, y2.2.2.1, y2.2.2.2.1, y2.2.2.2.2.1, y2.2.2.2.2.2.1, y2.2.2.2.2.2.2.1, y2.2.2.2.2.2.2.2.1, y2.2.2.2.2.2.2.2.2.1, y2.2.2.2.2.2.2.2.2.2.1, y2.2.2.2.2.2.2.2.2.2.2.1, y2.2.2.2.2.2.2.2.2.2.2.2)) else some (0, 0, 0, 0, 0, 0, 0, 0, 0, 0, ([] : LR), (5 : Int)))))
def xlate_Decode.f (fuel : Nat) (gen : Int) (b : List Int) (base : LR) : Option (Int × Int × Int × Int × Int × Int × Int × Int × Int × Int × LR × Int) := xlate_Decode.b gen b base
theorem xlate_Decode.eq (fuel : Nat) (gen : Int) (b : List Int) (base : LR) : (denF xlate_Decode_E loopN fuel Tryz.f19 [.dat (.pair (.int .i64) (.pair (.int .i64) (.pair (.int .i64) (.pair (.pair (.int .i64) (.int .i64)) (.pair (.int .i64) (.pair (.int .i64) (.pair (.int .i64) (.pair (.int .i64) (.pair (.int .i64) (.sl (.pair (.int .i64) (.pair (.int .i64) (.pair (.int .i64) (.pair (.pair (.int .i64) (.int .i64)) (.pair .bool (.sl (.pair (.int .i64) (.sl (.int .u8))))))))))))))))))) true, .raw] [.d (.int .i64) gen, .d (.sl (.int .u8)) b, .d (.sl (.pair (.int .i64) (.pair (.int .i64) (.pair (.int .i64) (.pair (.pair (.int .i64) (.int .i64)) (.pair .bool (.sl (.pair (.int .i64) (.sl (.int .u8)))))))))) base] [] xlate_Decode.k) = xlate_Decode.f fuel gen b base := by
 kernel_rfl
def s_xlate_Decode : Den.Sum := ⟨[.raw, .dat (.sl (.int .u8)) false, .dat (.sl (.pair (.int .i64) (.pair (.int .i64) (.pair (.int .i64) (.pair (.pair (.int .i64) (.int .i64)) (.pair .bool (.sl (.pair (.int .i64) (.sl (.int .u8)))))))))) false], fun args objs κ => match args, objs with
 | [.d (.int .i64) gen, .d (.sl (.int .u8)) b, .d (.sl (.pair (.int .i64) (.pair (.int .i64) (.pair (.int .i64) (.pair (.pair (.int .i64) (.int .i64)) (.pair .bool (.sl (.pair (.int .i64) (.sl (.int .u8)))))))))) base], [] => (match veil (xlate_Decode.f BIG gen b base) with | none => none | some y => κ [.agg [.d (.int .i64) y.1, .d (.int .i64) y.2.1, .d (.int .i64) y.2.2.1, .d (.int .i64) y.2.2.2.1, .d (.int .i64) y.2.2.2.2.1, .d (.int .i64) y.2.2.2.2.2.1, .d (.int .i64) y.2.2.2.2.2.2.1, .d (.int .i64) y.2.2.2.2.2.2.2.1, .d (.int .i64) y.2.2.2.2.2.2.2.2.1, .d (.int .i64) y.2.2.2.2.2.2.2.2.2.1, .d (.sl (.pair (.int .i64) (.pair (.int .i64) (.pair (.int .i64) (.pair (.pair (.int .i64) (.int .i64)) (.pair .bool (.sl (.pair (.int .i64) (.sl (.int .u8)))))))))) y.2.2.2.2.2.2.2.2.2.2.1], .d (.int .i64) y.2.2.2.2.2.2.2.2.2.2.2] [])
 | _, _ => none⟩
theorem s_xlate_Decode_det : SumDet s_xlate_Decode := fun avs objs R κ => by
 show s_xlate_Decode.run avs objs (two κ) = (s_xlate_Decode.run avs objs (two some)).bind κ
 unfold s_xlate_Decode
 simp only [veil_eq]
 split
 ·split <;> rfl
 ·rfl
theorem s_xlate_Decode_ok : SumOk Tryz.prog 19 s_xlate_Decode := by
 have hE : EnvOk Tryz.prog xlate_Decode_E := env_ok (l := [(64, s_gen3_Encode), (65, s_gen3_Decode), (35, s_xlate_of), (56, s_xlate_of_c1), (58, s_xlate_of_c2), (60, s_xlate_of_c3), (62, s_xlate_of_c4)]) th_ok any_ok ⟨⟨s_gen3_Encode_ok, s_gen3_Encode_det⟩, ⟨s_gen3_Decode_ok, s_gen3_Decode_det⟩, ⟨s_xlate_of_ok, s_xlate_of_det⟩, ⟨s_xlate_of_c1_ok, s_xlate_of_c1_det⟩, ⟨s_xlate_of_c2_ok, s_xlate_of_c2_det⟩, ⟨s_xlate_of_c3_ok, s_xlate_of_c3_det⟩, ⟨s_xlate_of_c4_ok, s_xlate_of_c4_det⟩, trivial⟩ _
 refine sum_ok hE Tryz.func19 rfl (by kernel_rfl) s_xlate_Decode [.dat (.pair (.int .i64) (.pair (.int .i64) (.pair (.int .i64) (.pair (.pair (.int .i64) (.int .i64)) (.pair (.int .i64) (.pair (.int .i64) (.pair (.int .i64) (.pair (.int .i64) (.pair (.int .i64) (.sl (.pair (.int .i64) (.pair (.int .i64) (.pair (.int .i64) (.pair (.pair (.int .i64) (.int .i64)) (.pair .bool (.sl (.pair (.int .i64) (.sl (.int .u8))))))))))))))))))) true, .raw] xlate_Decode.k ?_
 intro R avs objs κ r h
 unfold s_xlate_Decode at h
 simp only [veil_eq] at h
 split at h
 ·rename_i gen b base
  split at h
  ·cases h
  ·rename_i y hy
   refine ⟨BIG, _, _, _, (xlate_Decode.eq BIG gen b base).trans hy, ?_, h⟩
   intro rs ros hk
   unfold xlate_Decode.k at hk
   split at hk
   ·first | (cases hk; exact ⟨rfl, rfl⟩) | (have e := Option.some.inj hk; rw [← e]; exact ⟨rfl, rfl⟩)
   ·cases hk
 ·cases h
def span_Has_E : Env := ⟨th, gam [(33, s_sv)], fun i => ⟨[], [], []⟩⟩
def span_Has.k (rs : List AV) (os : List Den.Obj) : Option Bool :=
 match rs, os with
 | [.d .bool r0], [] => some r0
 | _, _ => none
def span_Has.b (sLo sHi gen : Int) : Option Bool :=
 (if (okS sLo sHi) then (if (decide (sLo ≤ gen)) then some ((decide (gen ≤ sHi))) else some (false)) else some (false))
def span_Has.f (fuel : Nat) (sLo sHi gen : Int) : Option Bool := span_Has.b sLo sHi gen
theorem span_Has.eq (fuel : Nat) (sLo sHi gen : Int) : (denF span_Has_E loopN fuel Tryz.f12 [.raw] [.agg [.d (.int .i64) sLo, .d (.int .i64) sHi], .d (.int .i64) gen] [] span_Has.k) = span_Has.f fuel sLo sHi gen := by
 kernel_rfl
def s_span_Has : Den.Sum := ⟨[.dat (.pair (.int .i64) (.int .i64)) true, .raw], fun args objs κ => match args, objs with
 | [.agg [.d (.int .i64) sLo, .d (.int .i64) sHi], .d (.int .i64) gen], [] => (match veil (span_Has.f BIG sLo sHi gen) with | none => none | some y => κ [.d .bool y] [])
 | _, _ => none⟩
theorem s_span_Has_det : SumDet s_span_Has := fun avs objs R κ => by
 show s_span_Has.run avs objs (two κ) = (s_span_Has.run avs objs (two some)).bind κ
 unfold s_span_Has
 simp only [veil_eq]
 split
 ·split <;> rfl
 ·rfl
theorem s_span_Has_ok : SumOk Tryz.prog 12 s_span_Has := by
 have hE : EnvOk Tryz.prog span_Has_E := env_ok (l := [(33, s_sv)]) th_ok any_ok ⟨⟨s_sv_ok, s_sv_det⟩, trivial⟩ _
 refine sum_ok hE Tryz.func12 rfl (by kernel_rfl) s_span_Has [.raw] span_Has.k ?_
 intro R avs objs κ r h
 unfold s_span_Has at h
 simp only [veil_eq] at h
 split at h
 ·rename_i sLo sHi gen
  split at h
  ·cases h
  ·rename_i y hy
   refine ⟨BIG, _, _, _, (span_Has.eq BIG sLo sHi gen).trans hy, ?_, h⟩
   intro rs ros hk
   unfold span_Has.k at hk
   split at hk
   ·first | (cases hk; exact ⟨rfl, rfl⟩) | (have e := Option.some.inj hk; rw [← e]; exact ⟨rfl, rfl⟩)
   ·cases hk
 ·cases h
def msg_Greets_E : Env := ⟨th, gam [], fun i => ⟨[], [], []⟩⟩
def msg_Greets.k (rs : List AV) (os : List Den.Obj) : Option Bool :=
 match rs, os with
 | [.d .bool r0], [] => some r0
 | _, _ => none
def msg_Greets.b (kind : Int) : Option Bool :=
 (if (decide (kind ≥ (1 : Int))) then some ((decide (kind ≤ (3 : Int)))) else some (false))
def msg_Greets.f (fuel : Nat) (kind : Int) : Option Bool := msg_Greets.b kind
theorem msg_Greets.eq (fuel : Nat) (kind : Int) : (denF msg_Greets_E loopN fuel Tryz.f13 [.raw] [.d (.int .i64) kind] [] msg_Greets.k) = msg_Greets.f fuel kind := by
 kernel_rfl
def s_msg_Greets : Den.Sum := ⟨[.raw], fun args objs κ => match args, objs with
 | [.d (.int .i64) kind], [] => (match veil (msg_Greets.f BIG kind) with | none => none | some y => κ [.d .bool y] [])
 | _, _ => none⟩
theorem s_msg_Greets_det : SumDet s_msg_Greets := fun avs objs R κ => by
 show s_msg_Greets.run avs objs (two κ) = (s_msg_Greets.run avs objs (two some)).bind κ
 unfold s_msg_Greets
 simp only [veil_eq]
 split
 ·split <;> rfl
 ·rfl
theorem s_msg_Greets_ok : SumOk Tryz.prog 13 s_msg_Greets := by
 have hE : EnvOk Tryz.prog msg_Greets_E := env_ok (l := []) th_ok any_ok trivial _
 refine sum_ok hE Tryz.func13 rfl (by kernel_rfl) s_msg_Greets [.raw] msg_Greets.k ?_
 intro R avs objs κ r h
 unfold s_msg_Greets at h
 simp only [veil_eq] at h
 split at h
 ·rename_i kind
  split at h
  ·cases h
  ·rename_i y hy
   refine ⟨BIG, _, _, _, (msg_Greets.eq BIG kind).trans hy, ?_, h⟩
   intro rs ros hk
   unfold msg_Greets.k at hk
   split at hk
   ·first | (cases hk; exact ⟨rfl, rfl⟩) | (have e := Option.some.inj hk; rw [← e]; exact ⟨rfl, rfl⟩)
   ·cases hk
 ·cases h
def parcel_Parcel_Read_E : Env := ⟨th, gam [(19, s_xlate_Decode)], fun i => ⟨[], [], []⟩⟩
def parcel_Parcel_Read.k (rs : List AV) (os : List Den.Obj) : Option (Int × Int × Int × Int × Int × Int × Int × Int × Int × Int × LR × Int) :=
 match rs, os with
 | [.agg [.d (.int .i64) r0, .d (.int .i64) r1, .d (.int .i64) r2, .d (.int .i64) r3, .d (.int .i64) r4, .d (.int .i64) r5, .d (.int .i64) r6, .d (.int .i64) r7, .d (.int .i64) r8, .d (.int .i64) r9, .d (.sl (.pair (.int .i64) (.pair (.int .i64) (.pair (.int .i64) (.pair (.pair (.int .i64) (.int .i64)) (.pair .bool (.sl (.pair (.int .i64) (.sl (.int .u8)))))))))) r10], .d (.int .i64) r11], [] => some (r0, r1, r2, r3, r4, r5, r6, r7, r8, r9, r10, r11)
 | _, _ => none
def parcel_Parcel_Read.b (pMsgKind pMsgFrom pMsgInc pMsgSpanLo pMsgSpanHi pMsgSeq pMsgTarget pMsgLife pMsgEpoch pMsgBase : Int) (pMsgRecs : LR) (pGen : Int) (pBody : List Int) (base : LR) : Option (Int × Int × Int × Int × Int × Int × Int × Int × Int × Int × LR × Int) :=
 (match (veil (xlate_Decode.f BIG pGen pBody base)) with | none => none | some y0 => some (y0.1, y0.2.1, y0.2.2.1, y0.2.2.2.1, y0.2.2.2.2.1, y0.2.2.2.2.2.1, y0.2.2.2.2.2.2.1, y0.2.2.2.2.2.2.2.1, y0.2.2.2.2.2.2.2.2.1, y0.2.2.2.2.2.2.2.2.2.1, y0.2.2.2.2.2.2.2.2.2.2.1, y0.2.2.2.2.2.2.2.2.2.2.2))
def parcel_Parcel_Read.f (fuel : Nat) (pMsgKind pMsgFrom pMsgInc pMsgSpanLo pMsgSpanHi pMsgSeq pMsgTarget pMsgLife pMsgEpoch pMsgBase : Int) (pMsgRecs : LR) (pGen : Int) (pBody : List Int) (base : LR) : Option (Int × Int × Int × Int × Int × Int × Int × Int × Int × Int × LR × Int) := parcel_Parcel_Read.b pMsgKind pMsgFrom pMsgInc pMsgSpanLo pMsgSpanHi pMsgSeq pMsgTarget pMsgLife pMsgEpoch pMsgBase pMsgRecs pGen pBody base
theorem parcel_Parcel_Read.eq (fuel : Nat) (pMsgKind pMsgFrom pMsgInc pMsgSpanLo pMsgSpanHi pMsgSeq pMsgTarget pMsgLife pMsgEpoch pMsgBase : Int) (pMsgRecs : LR) (pGen : Int) (pBody : List Int) (base : LR) : (denF parcel_Parcel_Read_E loopN fuel Tryz.f14 [.dat (.pair (.int .i64) (.pair (.int .i64) (.pair (.int .i64) (.pair (.pair (.int .i64) (.int .i64)) (.pair (.int .i64) (.pair (.int .i64) (.pair (.int .i64) (.pair (.int .i64) (.pair (.int .i64) (.sl (.pair (.int .i64) (.pair (.int .i64) (.pair (.int .i64) (.pair (.pair (.int .i64) (.int .i64)) (.pair .bool (.sl (.pair (.int .i64) (.sl (.int .u8))))))))))))))))))) true, .raw] [.agg [.d (.int .i64) pMsgKind, .d (.int .i64) pMsgFrom, .d (.int .i64) pMsgInc, .d (.int .i64) pMsgSpanLo, .d (.int .i64) pMsgSpanHi, .d (.int .i64) pMsgSeq, .d (.int .i64) pMsgTarget, .d (.int .i64) pMsgLife, .d (.int .i64) pMsgEpoch, .d (.int .i64) pMsgBase, .d (.sl (.pair (.int .i64) (.pair (.int .i64) (.pair (.int .i64) (.pair (.pair (.int .i64) (.int .i64)) (.pair .bool (.sl (.pair (.int .i64) (.sl (.int .u8)))))))))) pMsgRecs, .d (.int .i64) pGen, .d (.sl (.int .u8)) pBody], .d (.sl (.pair (.int .i64) (.pair (.int .i64) (.pair (.int .i64) (.pair (.pair (.int .i64) (.int .i64)) (.pair .bool (.sl (.pair (.int .i64) (.sl (.int .u8)))))))))) base] [] parcel_Parcel_Read.k) = parcel_Parcel_Read.f fuel pMsgKind pMsgFrom pMsgInc pMsgSpanLo pMsgSpanHi pMsgSeq pMsgTarget pMsgLife pMsgEpoch pMsgBase pMsgRecs pGen pBody base := by
 kernel_rfl
def s_parcel_Parcel_Read : Den.Sum := ⟨[.dat (.pair (.pair (.int .i64) (.pair (.int .i64) (.pair (.int .i64) (.pair (.pair (.int .i64) (.int .i64)) (.pair (.int .i64) (.pair (.int .i64) (.pair (.int .i64) (.pair (.int .i64) (.pair (.int .i64) (.sl (.pair (.int .i64) (.pair (.int .i64) (.pair (.int .i64) (.pair (.pair (.int .i64) (.int .i64)) (.pair .bool (.sl (.pair (.int .i64) (.sl (.int .u8))))))))))))))))))) (.pair (.int .i64) (.sl (.int .u8)))) true, .dat (.sl (.pair (.int .i64) (.pair (.int .i64) (.pair (.int .i64) (.pair (.pair (.int .i64) (.int .i64)) (.pair .bool (.sl (.pair (.int .i64) (.sl (.int .u8)))))))))) false], fun args objs κ => match args, objs with
 | [.agg [.d (.int .i64) pMsgKind, .d (.int .i64) pMsgFrom, .d (.int .i64) pMsgInc, .d (.int .i64) pMsgSpanLo, .d (.int .i64) pMsgSpanHi, .d (.int .i64) pMsgSeq, .d (.int .i64) pMsgTarget, .d (.int .i64) pMsgLife, .d (.int .i64) pMsgEpoch, .d (.int .i64) pMsgBase, .d (.sl (.pair (.int .i64) (.pair (.int .i64) (.pair (.int .i64) (.pair (.pair (.int .i64) (.int .i64)) (.pair .bool (.sl (.pair (.int .i64) (.sl (.int .u8)))))))))) pMsgRecs, .d (.int .i64) pGen, .d (.sl (.int .u8)) pBody], .d (.sl (.pair (.int .i64) (.pair (.int .i64) (.pair (.int .i64) (.pair (.pair (.int .i64) (.int .i64)) (.pair .bool (.sl (.pair (.int .i64) (.sl (.int .u8)))))))))) base], [] => (match veil (parcel_Parcel_Read.f BIG pMsgKind pMsgFrom pMsgInc pMsgSpanLo pMsgSpanHi pMsgSeq pMsgTarget pMsgLife pMsgEpoch pMsgBase pMsgRecs pGen pBody base) with | none => none | some y => κ [.agg [.d (.int .i64) y.1, .d (.int .i64) y.2.1, .d (.int .i64) y.2.2.1, .d (.int .i64) y.2.2.2.1, .d (.int .i64) y.2.2.2.2.1, .d (.int .i64) y.2.2.2.2.2.1, .d (.int .i64) y.2.2.2.2.2.2.1, .d (.int .i64) y.2.2.2.2.2.2.2.1, .d (.int .i64) y.2.2.2.2.2.2.2.2.1, .d (.int .i64) y.2.2.2.2.2.2.2.2.2.1, .d (.sl (.pair (.int .i64) (.pair (.int .i64) (.pair (.int .i64) (.pair (.pair (.int .i64) (.int .i64)) (.pair .bool (.sl (.pair (.int .i64) (.sl (.int .u8)))))))))) y.2.2.2.2.2.2.2.2.2.2.1], .d (.int .i64) y.2.2.2.2.2.2.2.2.2.2.2] [])
 | _, _ => none⟩
theorem s_parcel_Parcel_Read_det : SumDet s_parcel_Parcel_Read := fun avs objs R κ => by
 show s_parcel_Parcel_Read.run avs objs (two κ) = (s_parcel_Parcel_Read.run avs objs (two some)).bind κ
 unfold s_parcel_Parcel_Read
 simp only [veil_eq]
 split
 ·split <;> rfl
 ·rfl
theorem s_parcel_Parcel_Read_ok : SumOk Tryz.prog 14 s_parcel_Parcel_Read := by
 have hE : EnvOk Tryz.prog parcel_Parcel_Read_E := env_ok (l := [(19, s_xlate_Decode)]) th_ok any_ok ⟨⟨s_xlate_Decode_ok, s_xlate_Decode_det⟩, trivial⟩ _
 refine sum_ok hE Tryz.func14 rfl (by kernel_rfl) s_parcel_Parcel_Read [.dat (.pair (.int .i64) (.pair (.int .i64) (.pair (.int .i64) (.pair (.pair (.int .i64) (.int .i64)) (.pair (.int .i64) (.pair (.int .i64) (.pair (.int .i64) (.pair (.int .i64) (.pair (.int .i64) (.sl (.pair (.int .i64) (.pair (.int .i64) (.pair (.int .i64) (.pair (.pair (.int .i64) (.int .i64)) (.pair .bool (.sl (.pair (.int .i64) (.sl (.int .u8))))))))))))))))))) true, .raw] parcel_Parcel_Read.k ?_
 intro R avs objs κ r h
 unfold s_parcel_Parcel_Read at h
 simp only [veil_eq] at h
 split at h
 ·rename_i pMsgKind pMsgFrom pMsgInc pMsgSpanLo pMsgSpanHi pMsgSeq pMsgTarget pMsgLife pMsgEpoch pMsgBase pMsgRecs pGen pBody base
  split at h
  ·cases h
  ·rename_i y hy
   refine ⟨BIG, _, _, _, (parcel_Parcel_Read.eq BIG pMsgKind pMsgFrom pMsgInc pMsgSpanLo pMsgSpanHi pMsgSeq pMsgTarget pMsgLife pMsgEpoch pMsgBase pMsgRecs pGen pBody base).trans hy, ?_, h⟩
   intro rs ros hk
   unfold parcel_Parcel_Read.k at hk
   split at hk
   ·first | (cases hk; exact ⟨rfl, rfl⟩) | (have e := Option.some.inj hk; rw [← e]; exact ⟨rfl, rfl⟩)
   ·cases hk
 ·cases h
def parcel_Parcel_Needs_E : Env := ⟨th, gam [], fun i => ⟨[], [], []⟩⟩
def parcel_Parcel_Needs.k (rs : List AV) (os : List Den.Obj) : Option Bool :=
 match rs, os with
 | [.d .bool r0], [] => some r0
 | _, _ => none
def parcel_Parcel_Needs.b (pMsgKind pMsgFrom pMsgInc pMsgSpanLo pMsgSpanHi pMsgSeq pMsgTarget pMsgLife pMsgEpoch pMsgBase : Int) (pMsgRecs : LR) (pGen : Int) (pBody : List Int) : Option Bool :=
 some ((pMsgBase != (0 : Int)))
def parcel_Parcel_Needs.f (fuel : Nat) (pMsgKind pMsgFrom pMsgInc pMsgSpanLo pMsgSpanHi pMsgSeq pMsgTarget pMsgLife pMsgEpoch pMsgBase : Int) (pMsgRecs : LR) (pGen : Int) (pBody : List Int) : Option Bool := parcel_Parcel_Needs.b pMsgKind pMsgFrom pMsgInc pMsgSpanLo pMsgSpanHi pMsgSeq pMsgTarget pMsgLife pMsgEpoch pMsgBase pMsgRecs pGen pBody
theorem parcel_Parcel_Needs.eq (fuel : Nat) (pMsgKind pMsgFrom pMsgInc pMsgSpanLo pMsgSpanHi pMsgSeq pMsgTarget pMsgLife pMsgEpoch pMsgBase : Int) (pMsgRecs : LR) (pGen : Int) (pBody : List Int) : (denF parcel_Parcel_Needs_E loopN fuel Tryz.f18 [.raw] [.agg [.d (.int .i64) pMsgKind, .d (.int .i64) pMsgFrom, .d (.int .i64) pMsgInc, .d (.int .i64) pMsgSpanLo, .d (.int .i64) pMsgSpanHi, .d (.int .i64) pMsgSeq, .d (.int .i64) pMsgTarget, .d (.int .i64) pMsgLife, .d (.int .i64) pMsgEpoch, .d (.int .i64) pMsgBase, .d (.sl (.pair (.int .i64) (.pair (.int .i64) (.pair (.int .i64) (.pair (.pair (.int .i64) (.int .i64)) (.pair .bool (.sl (.pair (.int .i64) (.sl (.int .u8)))))))))) pMsgRecs, .d (.int .i64) pGen, .d (.sl (.int .u8)) pBody]] [] parcel_Parcel_Needs.k) = parcel_Parcel_Needs.f fuel pMsgKind pMsgFrom pMsgInc pMsgSpanLo pMsgSpanHi pMsgSeq pMsgTarget pMsgLife pMsgEpoch pMsgBase pMsgRecs pGen pBody := by
 kernel_rfl
def s_parcel_Parcel_Needs : Den.Sum := ⟨[.dat (.pair (.pair (.int .i64) (.pair (.int .i64) (.pair (.int .i64) (.pair (.pair (.int .i64) (.int .i64)) (.pair (.int .i64) (.pair (.int .i64) (.pair (.int .i64) (.pair (.int .i64) (.pair (.int .i64) (.sl (.pair (.int .i64) (.pair (.int .i64) (.pair (.int .i64) (.pair (.pair (.int .i64) (.int .i64)) (.pair .bool (.sl (.pair (.int .i64) (.sl (.int .u8))))))))))))))))))) (.pair (.int .i64) (.sl (.int .u8)))) true], fun args objs κ => match args, objs with
 | [.agg [.d (.int .i64) pMsgKind, .d (.int .i64) pMsgFrom, .d (.int .i64) pMsgInc, .d (.int .i64) pMsgSpanLo, .d (.int .i64) pMsgSpanHi, .d (.int .i64) pMsgSeq, .d (.int .i64) pMsgTarget, .d (.int .i64) pMsgLife, .d (.int .i64) pMsgEpoch, .d (.int .i64) pMsgBase, .d (.sl (.pair (.int .i64) (.pair (.int .i64) (.pair (.int .i64) (.pair (.pair (.int .i64) (.int .i64)) (.pair .bool (.sl (.pair (.int .i64) (.sl (.int .u8)))))))))) pMsgRecs, .d (.int .i64) pGen, .d (.sl (.int .u8)) pBody]], [] => (match veil (parcel_Parcel_Needs.f BIG pMsgKind pMsgFrom pMsgInc pMsgSpanLo pMsgSpanHi pMsgSeq pMsgTarget pMsgLife pMsgEpoch pMsgBase pMsgRecs pGen pBody) with | none => none | some y => κ [.d .bool y] [])
 | _, _ => none⟩
theorem s_parcel_Parcel_Needs_det : SumDet s_parcel_Parcel_Needs := fun avs objs R κ => by
 show s_parcel_Parcel_Needs.run avs objs (two κ) = (s_parcel_Parcel_Needs.run avs objs (two some)).bind κ
 unfold s_parcel_Parcel_Needs
 simp only [veil_eq]
 split
 ·split <;> rfl
 ·rfl
theorem s_parcel_Parcel_Needs_ok : SumOk Tryz.prog 18 s_parcel_Parcel_Needs := by
 have hE : EnvOk Tryz.prog parcel_Parcel_Needs_E := env_ok (l := []) th_ok any_ok trivial _
 refine sum_ok hE Tryz.func18 rfl (by kernel_rfl) s_parcel_Parcel_Needs [.raw] parcel_Parcel_Needs.k ?_
 intro R avs objs κ r h
 unfold s_parcel_Parcel_Needs at h
 simp only [veil_eq] at h
 split at h
 ·rename_i pMsgKind pMsgFrom pMsgInc pMsgSpanLo pMsgSpanHi pMsgSeq pMsgTarget pMsgLife pMsgEpoch pMsgBase pMsgRecs pGen pBody
  split at h
  ·cases h
  ·rename_i y hy
   refine ⟨BIG, _, _, _, (parcel_Parcel_Needs.eq BIG pMsgKind pMsgFrom pMsgInc pMsgSpanLo pMsgSpanHi pMsgSeq pMsgTarget pMsgLife pMsgEpoch pMsgBase pMsgRecs pGen pBody).trans hy, ?_, h⟩
   intro rs ros hk
   unfold parcel_Parcel_Needs.k at hk
   split at hk
   ·first | (cases hk; exact ⟨rfl, rfl⟩) | (have e := Option.some.inj hk; rw [← e]; exact ⟨rfl, rfl⟩)
   ·cases hk
 ·cases h
def crc_take_E : Env := ⟨th, gam [], fun i => if i = 2 then ⟨[0, 7, 8, 9], [], []⟩ else ⟨[], [], []⟩⟩
def crc_take.k (rs : List AV) (os : List Den.Obj) : Option Int :=
 match rs, os with
 | [.d (.int .u32) r0], [] => some r0
 | _, _ => none
def crc_take.s2 (reg : Int) (b : List Int) (x0 x1 x2 : Int) : St := ⟨[.d (.int .u32) x0, dD, dD, dD, dD, dD, dD, .d (.sl (.int .u8)) (b), .d (.int .i64) x1, .d (.int .i64) x2, dD, dD, dD, dD, dD, dD, dD, dD, dD, dD, dD, dD, dD, dD, dD, dD, dD, dD, dD, dD, dD, dD, dD, dD, dD, dD, .dead], ofL [], 0⟩
def crc_take.b2 (reg : Int) (b : List Int) (A2 : Int → Int → Int → Option Int) (x0 x1 x2 : Int) : Option Int :=
 (if (decide (x2 < x1)) then (match (idx b x2) with | none => none | some y3 => (match (idx halves (bits BinOp.xor .u32 (Int.fdiv x0 ((2 : Int) ^ (Min.min (Int.toNat (28 : Int)) (IntKind.bits .u32)))) (IntKind.wrap .u32 (Int.fdiv y3 ((2 : Int) ^ (Min.min (Int.toNat (4 : Int)) (IntKind.bits .u8))))))) with | none => none | some y4 => (match (idx halves (bits BinOp.xor .u32 (Int.fdiv (bits BinOp.xor .u32 (IntKind.wrap .u32 (x0 * ((2 : Int) ^ (Min.min (Int.toNat (4 : Int)) (IntKind.bits .u32))))) y4) ((2 : Int) ^ (Min.min (Int.toNat (28 : Int)) (IntKind.bits .u32)))) (IntKind.wrap .u32 (bits BinOp.and .u8 y3 (15 : Int))))) with | none => none | some y5 => A2 (bits BinOp.xor .u32 (IntKind.wrap .u32 ((bits BinOp.xor .u32 (IntKind.wrap .u32 (x0 * ((2 : Int) ^ (Min.min (Int.toNat (4 : Int)) (IntKind.bits .u32))))) y4) * ((2 : Int) ^ (Min.min (Int.toNat (4 : Int)) (IntKind.bits .u32))))) y5) x1 (IntKind.wrap .i64 (x2 + (1 : Int)))))) else some (x0))
def crc_take.l2 (fuel : Nat) (reg : Int) (b : List Int) : Nat → Int → Int → Int → Option Int
 | 0, _, _, _ => none
 | k + 1, x0, x1, x2 => crc_take.b2 reg b (crc_take.l2 fuel reg b k) x0 x1 x2
def crc_take.b (reg : Int) (b : List Int) (E2 : Int → Int → Int → Option Int) : Option Int :=
 E2 reg ((((List.length b)) : Nat) : Int) (0 : Int)
def crc_take.f (fuel : Nat) (reg : Int) (b : List Int) : Option Int := crc_take.b reg b (crc_take.l2 fuel reg b fuel)
theorem crc_take.l2_eq (fuel : Nat) (reg : Int) (b : List Int) : ∀ (k : Nat) (x0 : Int) (x1 : Int) (x2 : Int), lp crc_take_E fuel Tryz.f72 [.raw] 0 crc_take.k 2 [] k (crc_take.s2 reg b x0 x1 x2) = crc_take.l2 fuel reg b k x0 x1 x2 := by
 intro k
 induction k with
 | zero => intro x0 x1 x2; rfl
 | succ k ih =>
  intro x0 x1 x2
  have h : lp crc_take_E fuel Tryz.f72 [.raw] 0 crc_take.k 2 [] (k + 1) (crc_take.s2 reg b x0 x1 x2) = crc_take.b2 reg b (fun x0 x1 x2 => lp crc_take_E fuel Tryz.f72 [.raw] 0 crc_take.k 2 [] k (crc_take.s2 reg b x0 x1 x2)) x0 x1 x2 := by kernel_rfl
  rw [h]
  have e2 : (fun x0 x1 x2 => lp crc_take_E fuel Tryz.f72 [.raw] 0 crc_take.k 2 [] k (crc_take.s2 reg b x0 x1 x2)) = crc_take.l2 fuel reg b k := (funext fun x0 => (funext fun x1 => (funext fun x2 => ih x0 x1 x2)))
  rw [e2]
  rfl
theorem crc_take.eq (fuel : Nat) (reg : Int) (b : List Int) : (denF crc_take_E loopN fuel Tryz.f72 [.raw] [.d (.int .u32) reg, .d (.sl (.int .u8)) b] [] crc_take.k) = crc_take.f fuel reg b := by
 have h : (denF crc_take_E loopN fuel Tryz.f72 [.raw] [.d (.int .u32) reg, .d (.sl (.int .u8)) b] [] crc_take.k) = crc_take.b reg b (fun x0 x1 x2 => lp crc_take_E fuel Tryz.f72 [.raw] 0 crc_take.k 2 [] fuel (crc_take.s2 reg b x0 x1 x2)) := by kernel_rfl
 rw [h]
 have e2 : (fun x0 x1 x2 => lp crc_take_E fuel Tryz.f72 [.raw] 0 crc_take.k 2 [] fuel (crc_take.s2 reg b x0 x1 x2)) = crc_take.l2 fuel reg b fuel := (funext fun x0 => (funext fun x1 => (funext fun x2 => crc_take.l2_eq fuel reg b fuel x0 x1 x2)))
 rw [e2]
 rfl
theorem crc_take.l2_at (fuel nN kK : Nat) (hN : nN = kK + 1) (reg : Int) (b : List Int) (x0 : Int) (x1 : Int) (x2 : Int) : crc_take.l2 fuel reg b nN x0 x1 x2 = crc_take.b2 reg b (crc_take.l2 fuel reg b kK) x0 x1 x2 := by
 subst hN
 rfl
def s_crc_take : Den.Sum := ⟨[.raw, .dat (.sl (.int .u8)) false], fun args objs κ => match args, objs with
 | [.d (.int .u32) reg, .d (.sl (.int .u8)) b], [] => (match veil (crc_take.f BIG reg b) with | none => none | some y => κ [.d (.int .u32) y] [])
 | _, _ => none⟩
theorem s_crc_take_det : SumDet s_crc_take := fun avs objs R κ => by
 show s_crc_take.run avs objs (two κ) = (s_crc_take.run avs objs (two some)).bind κ
 unfold s_crc_take
 simp only [veil_eq]
 split
 ·split <;> rfl
 ·rfl
theorem s_crc_take_ok : SumOk Tryz.prog 72 s_crc_take := by
 have hE : EnvOk Tryz.prog crc_take_E := env_ok (l := []) th_ok any_ok trivial _
 refine sum_ok hE Tryz.func72 rfl (by kernel_rfl) s_crc_take [.raw] crc_take.k ?_
 intro R avs objs κ r h
 unfold s_crc_take at h
 simp only [veil_eq] at h
 split at h
 ·rename_i reg b
  split at h
  ·cases h
  ·rename_i y hy
   refine ⟨BIG, _, _, _, (crc_take.eq BIG reg b).trans hy, ?_, h⟩
   intro rs ros hk
   unfold crc_take.k at hk
   split at hk
   ·first | (cases hk; exact ⟨rfl, rfl⟩) | (have e := Option.some.inj hk; rw [← e]; exact ⟨rfl, rfl⟩)
   ·cases hk
 ·cases h
def crc_Of_E : Env := ⟨th, gam [(72, s_crc_take)], fun i => if i = 3 then ⟨[3, 6, 7, 8], [], []⟩ else ⟨[], [], []⟩⟩
def crc_Of.k (rs : List AV) (os : List Den.Obj) : Option Int :=
 match rs, os with
 | [.d (.int .u32) r0], [] => some r0
 | _, _ => none
def crc_Of.s3 (parts : List (List Int)) (x0 : Int) (x1 : Int) (x2 : Int) : St := ⟨[dD, dD, dD, .d (.int .u32) x0, .dead, .dead, .d (.sl (.sl (.int .u8))) (parts), .d (.int .i64) x1, .d (.int .i64) x2, dD, dD, dD, dD, dD, dD, dD, dD, .dead], ofL [], 0⟩
def crc_Of.b3 (parts : List (List Int)) (A3 : Int → Int → Int → Option Int) (x0 : Int) (x1 : Int) (x2 : Int) : Option Int :=
 (if (decide (x2 < x1)) then (match (idx parts x2) with | none => none | some y3 => (match (veil (crc_take.f BIG x0 y3)) with | none => none | some y4 => A3 y4 x1 (IntKind.wrap .i64 (x2 + (1 : Int))))) else some ((bits BinOp.xor .u32 (if (IntKind.signed .u32) then (-(1 : Int)) else (IntKind.max .u32)) x0)))
def crc_Of.l3 (fuel : Nat) (parts : List (List Int)) : Nat → Int → Int → Int → Option Int
 | 0, _, _, _ => none
 | k + 1, x0, x1, x2 => crc_Of.b3 parts (crc_Of.l3 fuel parts k) x0 x1 x2
def crc_Of.b (parts : List (List Int)) (E3 : Int → Int → Int → Option Int) : Option Int :=
 E3 (veil (4294967295 : Int)) ((((List.length parts)) : Nat) : Int) (0 : Int)
def crc_Of.f (fuel : Nat) (parts : List (List Int)) : Option Int := crc_Of.b parts (crc_Of.l3 fuel parts fuel)
theorem crc_Of.l3_eq (fuel : Nat) (parts : List (List Int)) : ∀ (k : Nat) (x0 : Int) (x1 : Int) (x2 : Int), lp crc_Of_E fuel Tryz.f50 [.raw] 0 crc_Of.k 3 [] k (crc_Of.s3 parts x0 x1 x2) = crc_Of.l3 fuel parts k x0 x1 x2 := by
 intro k
 induction k with
 | zero => intro x0 x1 x2; rfl
 | succ k ih =>
  intro x0 x1 x2
  have h : lp crc_Of_E fuel Tryz.f50 [.raw] 0 crc_Of.k 3 [] (k + 1) (crc_Of.s3 parts x0 x1 x2) = crc_Of.b3 parts (fun x0 x1 x2 => lp crc_Of_E fuel Tryz.f50 [.raw] 0 crc_Of.k 3 [] k (crc_Of.s3 parts x0 x1 x2)) x0 x1 x2 := by kernel_rfl
  rw [h]
  have e3 : (fun x0 x1 x2 => lp crc_Of_E fuel Tryz.f50 [.raw] 0 crc_Of.k 3 [] k (crc_Of.s3 parts x0 x1 x2)) = crc_Of.l3 fuel parts k := (funext fun x0 => (funext fun x1 => (funext fun x2 => ih x0 x1 x2)))
  rw [e3]
  rfl
theorem crc_Of.eq (fuel : Nat) (parts : List (List Int)) : (denF crc_Of_E loopN fuel Tryz.f50 [.raw] [.d (.sl (.sl (.int .u8))) parts] [] crc_Of.k) = crc_Of.f fuel parts := by
 have h : (denF crc_Of_E loopN fuel Tryz.f50 [.raw] [.d (.sl (.sl (.int .u8))) parts] [] crc_Of.k) = crc_Of.b parts (fun x0 x1 x2 => lp crc_Of_E fuel Tryz.f50 [.raw] 0 crc_Of.k 3 [] fuel (crc_Of.s3 parts x0 x1 x2)) := by kernel_rfl
 rw [h]
 have e3 : (fun x0 x1 x2 => lp crc_Of_E fuel Tryz.f50 [.raw] 0 crc_Of.k 3 [] fuel (crc_Of.s3 parts x0 x1 x2)) = crc_Of.l3 fuel parts fuel := (funext fun x0 => (funext fun x1 => (funext fun x2 => crc_Of.l3_eq fuel parts fuel x0 x1 x2)))
 rw [e3]
 rfl
theorem crc_Of.l3_at (fuel nN kK : Nat) (hN : nN = kK + 1) (parts : List (List Int)) (x0 : Int) (x1 : Int) (x2 : Int) : crc_Of.l3 fuel parts nN x0 x1 x2 = crc_Of.b3 parts (crc_Of.l3 fuel parts kK) x0 x1 x2 := by
 subst hN
 rfl
def s_crc_Of : Den.Sum := ⟨[.dat (.sl (.sl (.int .u8))) false], fun args objs κ => match args, objs with
 | [.d (.sl (.sl (.int .u8))) parts], [] => (match veil (crc_Of.f BIG parts) with | none => none | some y => κ [.d (.int .u32) y] [])
 | _, _ => none⟩
theorem s_crc_Of_det : SumDet s_crc_Of := fun avs objs R κ => by
 show s_crc_Of.run avs objs (two κ) = (s_crc_Of.run avs objs (two some)).bind κ
 unfold s_crc_Of
 simp only [veil_eq]
 split
 ·split <;> rfl
 ·rfl
theorem s_crc_Of_ok : SumOk Tryz.prog 50 s_crc_Of := by
 have hE : EnvOk Tryz.prog crc_Of_E := env_ok (l := [(72, s_crc_take)]) th_ok any_ok ⟨⟨s_crc_take_ok, s_crc_take_det⟩, trivial⟩ _
 refine sum_ok hE Tryz.func50 rfl (by kernel_rfl) s_crc_Of [.raw] crc_Of.k ?_
 intro R avs objs κ r h
 unfold s_crc_Of at h
 simp only [veil_eq] at h
 split at h
 ·rename_i parts
  split at h
  ·cases h
  ·rename_i y hy
   refine ⟨BIG, _, _, _, (crc_Of.eq BIG parts).trans hy, ?_, h⟩
   intro rs ros hk
   unfold crc_Of.k at hk
   split at hk
   ·first | (cases hk; exact ⟨rfl, rfl⟩) | (have e := Option.some.inj hk; rw [← e]; exact ⟨rfl, rfl⟩)
   ·cases hk
 ·cases h
theorem wrap_u32 (n : Int) : IntKind.wrap .u32 n = n % 4294967296 := by simp [IntKind.wrap, IntKind.bits, IntKind.signed]
theorem wrap_u8 (n : Int) : IntKind.wrap .u8 n = n % 256 := by simp [IntKind.wrap, IntKind.bits, IntKind.signed]
theorem bits_xor32 (a b : Nat) (ha : a < 4294967296) (hb : b < 4294967296) : bits BinOp.xor .u32 (a : Int) (b : Int) = ((a ^^^ b : Nat) : Int) := by
 show IntKind.wrap .u32 (((BitVec.ofInt 32 (a : Int) ^^^ BitVec.ofInt 32 (b : Int)).toNat : Nat) : Int) = _
 rw [BitVec.toNat_xor, BitVec.toNat_ofInt, BitVec.toNat_ofInt, wrap_u32]
 have e1 : ((a : Int) % ((2 ^ 32 : Nat) : Int)).toNat = a := by
  rw [show ((2 ^ 32 : Nat) : Int) = 4294967296 from rfl]; omega
 have e2 : ((b : Int) % ((2 ^ 32 : Nat) : Int)).toNat = b := by
  rw [show ((2 ^ 32 : Nat) : Int) = 4294967296 from rfl]; omega
 rw [e1, e2]
 have := xor_lt a b 32 ha hb
 rw [show (2 : Nat) ^ 32 = 4294967296 from rfl] at this
 omega
theorem bits_and15 (c : Nat) (hc : c < 256) : bits BinOp.and .u8 (c : Int) 15 = ((c % 16 : Nat) : Int) := by
 have : ∀ c, c < 256 → bits BinOp.and .u8 ((c : Nat) : Int) 15 = ((c % 16 : Nat) : Int) := by decide +kernel
 exact this c hc
theorem idx_halves (k : Nat) (hk : k < 16) : idx halves (k : Int) = some ((hN k : Nat) : Int) := by
 have : ∀ k, k < 16 → idx halves ((k : Nat) : Int) = some ((hN k : Nat) : Int) := by decide +kernel
 exact this k hk
theorem fdiv28 (r : Nat) : Int.fdiv (r : Int) (2 ^ (Min.min (Int.toNat 28) (IntKind.bits .u32))) = ((r / 268435456 : Nat) : Int) := by
 have e : (2 : Int) ^ (Min.min (Int.toNat 28) (IntKind.bits .u32)) = 268435456 := rfl
 rw [e, Int.fdiv_eq_ediv_of_nonneg _ (by omega)]
 omega
theorem fdiv4 (r : Nat) : Int.fdiv (r : Int) (2 ^ (Min.min (Int.toNat 4) (IntKind.bits .u8))) = ((r / 16 : Nat) : Int) := by
 have e : (2 : Int) ^ (Min.min (Int.toNat 4) (IntKind.bits .u8)) = 16 := rfl
 rw [e, Int.fdiv_eq_ediv_of_nonneg _ (by omega)]
 omega
theorem shl4 (r : Nat) : IntKind.wrap .u32 ((r : Int) * (2 ^ (Min.min (Int.toNat 4) (IntKind.bits .u32)))) = ((r * 16 % 4294967296 : Nat) : Int) := by
 have e : (2 : Int) ^ (Min.min (Int.toNat 4) (IntKind.bits .u32)) = 16 := rfl
 rw [e, wrap_u32]
 omega
theorem w32_nat (k : Nat) (h : k < 4294967296) : IntKind.wrap .u32 (k : Int) = (k : Int) := by rw [wrap_u32]; omega
theorem crc_step (l : List Int) (reg0 : Int) (A : Int → Int → Int → Option Int) (r : Nat) (hr : r < 4294967296) (c : Nat) (hc : c < 256) (x1 x2 : Int) (hx : x2 < x1) (hi : idx l x2 = some (c : Int)) :
  crc_take.b2 reg0 l A (r : Int) x1 x2 = A ((stepN r c : Nat) : Int) x1 (IntKind.wrap .i64 (x2 + 1)) := by
 unfold crc_take.b2
 have h1 : (c : Nat) / 16 < 16 := by omega
 rw [if_pos (by simpa using hx), hi]
 dsimp only
 rw [fdiv28, fdiv4, w32_nat _ (by omega), bits_xor32 _ _ (by omega) (by omega), idx_halves _ (top_lt r _ hr h1)]
 dsimp only
 rw [shl4, bits_xor32 _ _ (by omega) (hN_lt _)]
 have e1 : (r * 16 % 4294967296) ^^^ hN ((r / 268435456) ^^^ (c / 16)) = nib r (c / 16) := rfl
 rw [e1, fdiv28, bits_and15 c hc, w32_nat _ (by omega), bits_xor32 _ _ (by have := nib_lt r (c / 16); omega) (by omega), idx_halves _ (top_lt _ _ (nib_lt _ _) (by omega))]
 dsimp only
 rw [shl4, bits_xor32 _ _ (by omega) (hN_lt _)]
 rfl
theorem crc_take.loop (l : List Int) (reg0 : Int) (hl : l.length ≤ 1000000) : ∀ (suf pre : List Int) (r n : Nat), pre ++ suf = l → isB suf → r < 4294967296 → suf.length < n →
  crc_take.l2 BIG reg0 l n (r : Int) ((l.length : Nat) : Int) ((pre.length : Nat) : Int) = some ((crcN r (suf.map Int.toNat) : Nat) : Int)
 | suf, pre, r, 0, _, _, _, h => absurd h (by omega)
 | [], pre, r, n + 1, he, hb, hr, h => by
  rw [crc_take.l2_at BIG (n + 1) n rfl]
  unfold crc_take.b2
  rw [if_neg (by rw [← he]; simp)]
  rfl
 | c :: suf, pre, r, n + 1, he, hb, hr, h => by
  simp at h
  have hpl : pre.length + (suf.length + 1) = l.length := by rw [← he]; simp
  obtain ⟨hc0, hc1⟩ := hb c (by simp)
  have ec : ((c.toNat : Nat) : Int) = c := by omega
  have hi : idx l ((pre.length : Nat) : Int) = some ((c.toNat : Nat) : Int) := by
   rw [ec, ← he, idx_at]; simp
  rw [crc_take.l2_at BIG (n + 1) n rfl, crc_step l reg0 _ r hr c.toNat (by omega) _ _ (by omega) hi, wrap_small _ (by omega) (by omega)]
  have ih := crc_take.loop l reg0 hl suf (pre ++ [c]) (stepN r c.toNat) n (by rw [← he]; simp) (fun x hx => hb x (by simp [hx])) (stepN_lt _ _) (by omega)
  have e2 : (((pre ++ [c]).length : Nat) : Int) = ((pre.length : Nat) : Int) + 1 := by simp
  rw [e2] at ih
  exact ih
theorem crc_take.pure (l : List Int) (r : Nat) (hr : r < 4294967296) (hb : isB l) (hl : l.length ≤ 1000000) : crc_take.f BIG (r : Int) l = some ((crcN r (l.map Int.toNat) : Nat) : Int) := by
 unfold crc_take.f crc_take.b
 exact crc_take.loop l r hl l [] r BIG rfl hb hr (by rw [BIG_eq]; omega)
def crcF (l : List Int) : Nat := 4294967295 ^^^ crcN 4294967295 (l.map Int.toNat)
theorem crcF_lt (l : List Int) : crcF l < 4294967296 := xor_lt _ _ 32 (by decide) (crcN_lt _ _ (by decide))
theorem crc_Of.pure (l : List Int) (hb : isB l) (hl : l.length ≤ 1000000) : crc_Of.f BIG [l] = some ((crcF l : Nat) : Int) := by
 obtain ⟨k, hk⟩ : ∃ k, BIG = k + 1 + 1 := ⟨BIG - 2, by rw [BIG_eq]⟩
 unfold crc_Of.f crc_Of.b
 rw [veil_eq, crc_Of.l3_at BIG BIG (k + 1) hk]
 unfold crc_Of.b3
 rw [if_pos (by simp)]
 have e0 : idx [l] 0 = some l := rfl
 rw [e0]
 dsimp only
 have e1 := crc_take.pure l 4294967295 (by decide) hb hl
 rw [show ((4294967295 : Nat) : Int) = 4294967295 from rfl] at e1
 rw [e1]
 simp only [veil_eq]
 rw [crc_Of.l3_at BIG (k + 1) k rfl]
 unfold crc_Of.b3
 rw [if_neg (by rw [wrap_small _ (by omega) (by omega)]; simp)]
 have e2 : (if (IntKind.signed .u32) = true then (-1 : Int) else (IntKind.max .u32)) = ((4294967295 : Nat) : Int) := by decide +kernel
 rw [e2, bits_xor32 _ _ (by decide) (crcN_lt _ _ (by decide))]
 rfl
def frame_Seal_E : Env := ⟨th, gam [(50, s_crc_Of)], fun i => if i = 888888 then ⟨[1], [], []⟩ else ⟨[], [], []⟩⟩
def frame_Seal.k (rs : List AV) (os : List Den.Obj) : Option ((List Int) × Int) :=
 match rs, os with
 | [.d (.sl (.int .u8)) r0, .d (.int .i64) r1], [] => some (r0, r1)
 | _, _ => none
def frame_Seal.b (gen : Int) (body : List Int) : Option ((List Int) × Int) :=
 (if (decide (gen < (1 : Int))) then some (([] : List Int), (5 : Int)) else (if (decide (gen > (3 : Int))) then some (([] : List Int), (5 : Int)) else (if (decide (((((List.length body)) : Nat) : Int) > (65499 : Int))) then some (([] : List Int), (3 : Int)) else (if (((0 : Int) ≤ (IntKind.wrap .i64 ((4 : Int) + ((((List.length body)) : Nat) : Int)))) ∧ (((IntKind.wrap .i64 ((4 : Int) + ((((List.length body)) : Nat) : Int))) ≤ (IntKind.wrap .i64 ((8 : Int) + ((((List.length body)) : Nat) : Int)))) ∧ ((((IntKind.wrap .i64 ((8 : Int) + ((((List.length body)) : Nat) : Int))) * ((((1 : Nat)) : Nat) : Int)) ≤ (1099511627776 : Int)) ∧ ((IntKind.wrap .i64 ((8 : Int) + ((((List.length body)) : Nat) : Int))) ≤ (1099511627776 : Int))))) then (match (idx (List.replicate (Int.toNat (IntKind.wrap .i64 ((4 : Int) + ((((List.length body)) : Nat) : Int)))) (zeroI (Go.Den.Ty.int .u8))) (0 : Int)) with | none => none | some y0 => (match (idx (List.replicate (Int.toNat (IntKind.wrap .i64 ((4 : Int) + ((((List.length body)) : Nat) : Int)))) (zeroI (Go.Den.Ty.int .u8))) (0 : Int)) with | none => none | some y1 => (match (idx (List.set (List.replicate (Int.toNat (IntKind.wrap .i64 ((4 : Int) + ((((List.length body)) : Nat) : Int)))) (zeroI (Go.Den.Ty.int .u8))) (Int.toNat (0 : Int)) (156 : Int)) (1 : Int)) with | none => none | some y2 => (match (idx (List.set (List.replicate (Int.toNat (IntKind.wrap .i64 ((4 : Int) + ((((List.length body)) : Nat) : Int)))) (zeroI (Go.Den.Ty.int .u8))) (Int.toNat (0 : Int)) (156 : Int)) (1 : Int)) with | none => none | some y3 => (match (idx (List.set (List.set (List.replicate (Int.toNat (IntKind.wrap .i64 ((4 : Int) + ((((List.length body)) : Nat) : Int)))) (zeroI (Go.Den.Ty.int .u8))) (Int.toNat (0 : Int)) (156 : Int)) (Int.toNat (1 : Int)) (IntKind.wrap .u8 gen)) (2 : Int)) with | none => none | some y4 => (match (idx (List.set (List.set (List.replicate (Int.toNat (IntKind.wrap .i64 ((4 : Int) + ((((List.length body)) : Nat) : Int)))) (zeroI (Go.Den.Ty.int .u8))) (Int.toNat (0 : Int)) (156 : Int)) (Int.toNat (1 : Int)) (IntKind.wrap .u8 gen)) (2 : Int)) with | none => none | some y5 => (match (idx (List.set (List.set (List.set (List.replicate (Int.toNat (IntKind.wrap .i64 ((4 : Int) + ((((List.length body)) : Nat) : Int)))) (zeroI (Go.Den.Ty.int .u8))) (Int.toNat (0 : Int)) (156 : Int)) (Int.toNat (1 : Int)) (IntKind.wrap .u8 gen)) (Int.toNat (2 : Int)) (IntKind.wrap .u8 (Int.fdiv ((((List.length body)) : Nat) : Int) ((2 : Int) ^ (Min.min (Int.toNat (8 : Int)) (IntKind.bits .i64)))))) (3 : Int)) with | none => none | some y6 => (match (idx (List.set (List.set (List.set (List.replicate (Int.toNat (IntKind.wrap .i64 ((4 : Int) + ((((List.length body)) : Nat) : Int)))) (zeroI (Go.Den.Ty.int .u8))) (Int.toNat (0 : Int)) (156 : Int)) (Int.toNat (1 : Int)) (IntKind.wrap .u8 gen)) (Int.toNat (2 : Int)) (IntKind.wrap .u8 (Int.fdiv ((((List.length body)) : Nat) : Int) ((2 : Int) ^ (Min.min (Int.toNat (8 : Int)) (IntKind.bits .i64)))))) (3 : Int)) with | none => none | some y7 => (if (((0 : Int) ≤ (4 : Int)) ∧ ((4 : Int) ≤ ((((List.length (List.set (List.set (List.set (List.set (List.replicate (Int.toNat (IntKind.wrap .i64 ((4 : Int) + ((((List.length body)) : Nat) : Int)))) (zeroI (Go.Den.Ty.int .u8))) (Int.toNat (0 : Int)) (156 : Int)) (Int.toNat (1 : Int)) (IntKind.wrap .u8 gen)) (Int.toNat (2 : Int)) (IntKind.wrap .u8 (Int.fdiv ((((List.length body)) : Nat) : Int) ((2 : Int) ^ (Min.min (Int.toNat (8 : Int)) (IntKind.bits .i64)))))) (Int.toNat (3 : Int)) (IntKind.wrap .u8 ((((List.length body)) : Nat) : Int))))) : Nat) : Int))) then (if ((((Int.toNat (4 : Int)) + (List.length body)) ≤ (List.length (List.set (List.set (List.set (List.set (List.replicate (Int.toNat (IntKind.wrap .i64 ((4 : Int) + ((((List.length body)) : Nat) : Int)))) (zeroI (Go.Den.Ty.int .u8))) (Int.toNat (0 : Int)) (156 : Int)) (Int.toNat (1 : Int)) (IntKind.wrap .u8 gen)) (Int.toNat (2 : Int)) (IntKind.wrap .u8 (Int.fdiv ((((List.length body)) : Nat) : Int) ((2 : Int) ^ (Min.min (Int.toNat (8 : Int)) (IntKind.bits .i64)))))) (Int.toNat (3 : Int)) (IntKind.wrap .u8 ((((List.length body)) : Nat) : Int))))) ∧ ((List.length (List.set (List.set (List.set (List.set (List.replicate (Int.toNat (IntKind.wrap .i64 ((4 : Int) + ((((List.length body)) : Nat) : Int)))) (zeroI (Go.Den.Ty.int .u8))) (Int.toNat (0 : Int)) (156 : Int)) (Int.toNat (1 : Int)) (IntKind.wrap .u8 gen)) (Int.toNat (2 : Int)) (IntKind.wrap .u8 (Int.fdiv ((((List.length body)) : Nat) : Int) ((2 : Int) ^ (Min.min (Int.toNat (8 : Int)) (IntKind.bits .i64)))))) (Int.toNat (3 : Int)) (IntKind.wrap .u8 ((((List.length body)) : Nat) : Int)))) ≤ (List.length (List.set (List.set (List.set (List.set (List.replicate (Int.toNat (IntKind.wrap .i64 ((4 : Int) + ((((List.length body)) : Nat) : Int)))) (zeroI (Go.Den.Ty.int .u8))) (Int.toNat (0 : Int)) (156 : Int)) (Int.toNat (1 : Int)) (IntKind.wrap .u8 gen)) (Int.toNat (2 : Int)) (IntKind.wrap .u8 (Int.fdiv ((((List.length body)) : Nat) : Int) ((2 : Int) ^ (Min.min (Int.toNat (8 : Int)) (IntKind.bits .i64)))))) (Int.toNat (3 : Int)) (IntKind.wrap .u8 ((((List.length body)) : Nat) : Int)))))) then (match (veil (crc_Of.f BIG ((((List.take (Int.toNat (4 : Int)) (List.set (List.set (List.set (List.set (List.replicate (Int.toNat (IntKind.wrap .i64 ((4 : Int) + ((((List.length body)) : Nat) : Int)))) (zeroI (Go.Den.Ty.int .u8))) (Int.toNat (0 : Int)) (156 : Int)) (Int.toNat (1 : Int)) (IntKind.wrap .u8 gen)) (Int.toNat (2 : Int)) (IntKind.wrap .u8 (Int.fdiv ((((List.length body)) : Nat) : Int) ((2 : Int) ^ (Min.min (Int.toNat (8 : Int)) (IntKind.bits .i64)))))) (Int.toNat (3 : Int)) (IntKind.wrap .u8 ((((List.length body)) : Nat) : Int)))) ++ body) ++ (List.drop ((Int.toNat (4 : Int)) + (List.length body)) (List.set (List.set (List.set (List.set (List.replicate (Int.toNat (IntKind.wrap .i64 ((4 : Int) + ((((List.length body)) : Nat) : Int)))) (zeroI (Go.Den.Ty.int .u8))) (Int.toNat (0 : Int)) (156 : Int)) (Int.toNat (1 : Int)) (IntKind.wrap .u8 gen)) (Int.toNat (2 : Int)) (IntKind.wrap .u8 (Int.fdiv ((((List.length body)) : Nat) : Int) ((2 : Int) ^ (Min.min (Int.toNat (8 : Int)) (IntKind.bits .i64)))))) (Int.toNat (3 : Int)) (IntKind.wrap .u8 ((((List.length body)) : Nat) : Int))))) :: ([] : List (List Int))))) with | none => none | some y8 => (if ((((List.length (((List.take (Int.toNat (4 : Int)) (List.set (List.set (List.set (List.set (List.replicate (Int.toNat (IntKind.wrap .i64 ((4 : Int) + ((((List.length body)) : Nat) : Int)))) (zeroI (Go.Den.Ty.int .u8))) (Int.toNat (0 : Int)) (156 : Int)) (Int.toNat (1 : Int)) (IntKind.wrap .u8 gen)) (Int.toNat (2 : Int)) (IntKind.wrap .u8 (Int.fdiv ((((List.length body)) : Nat) : Int) ((2 : Int) ^ (Min.min (Int.toNat (8 : Int)) (IntKind.bits .i64)))))) (Int.toNat (3 : Int)) (IntKind.wrap .u8 ((((List.length body)) : Nat) : Int)))) ++ body) ++ (List.drop ((Int.toNat (4 : Int)) + (List.length body)) (List.set (List.set (List.set (List.set (List.replicate (Int.toNat (IntKind.wrap .i64 ((4 : Int) + ((((List.length body)) : Nat) : Int)))) (zeroI (Go.Den.Ty.int .u8))) (Int.toNat (0 : Int)) (156 : Int)) (Int.toNat (1 : Int)) (IntKind.wrap .u8 gen)) (Int.toNat (2 : Int)) (IntKind.wrap .u8 (Int.fdiv ((((List.length body)) : Nat) : Int) ((2 : Int) ^ (Min.min (Int.toNat (8 : Int)) (IntKind.bits .i64)))))) (Int.toNat (3 : Int)) (IntKind.wrap .u8 ((((List.length body)) : Nat) : Int)))))) + (List.length ((IntKind.wrap .u8 (Int.fdiv y8 ((2 : Int) ^ (Min.min (Int.toNat (24 : Int)) (IntKind.bits .u32))))) :: ((IntKind.wrap .u8 (Int.fdiv y8 ((2 : Int) ^ (Min.min (Int.toNat (16 : Int)) (IntKind.bits .u32))))) :: ((IntKind.wrap .u8 (Int.fdiv y8 ((2 : Int) ^ (Min.min (Int.toNat (8 : Int)) (IntKind.bits .u32))))) :: ((IntKind.wrap .u8 y8) :: ([] : List Int))))))) * (1 : Nat)) ≤ lim) then some (((((List.take (Int.toNat (4 : Int)) (List.set (List.set (List.set (List.set (List.replicate (Int.toNat (IntKind.wrap .i64 ((4 : Int) + ((((List.length body)) : Nat) : Int)))) (zeroI (Go.Den.Ty.int .u8))) (Int.toNat (0 : Int)) (156 : Int)) (Int.toNat (1 : Int)) (IntKind.wrap .u8 gen)) (Int.toNat (2 : Int)) (IntKind.wrap .u8 (Int.fdiv ((((List.length body)) : Nat) : Int) ((2 : Int) ^ (Min.min (Int.toNat (8 : Int)) (IntKind.bits .i64)))))) (Int.toNat (3 : Int)) (IntKind.wrap .u8 ((((List.length body)) : Nat) : Int)))) ++ body) ++ (List.drop ((Int.toNat (4 : Int)) + (List.length body)) (List.set (List.set (List.set (List.set (List.replicate (Int.toNat (IntKind.wrap .i64 ((4 : Int) + ((((List.length body)) : Nat) : Int)))) (zeroI (Go.Den.Ty.int .u8))) (Int.toNat (0 : Int)) (156 : Int)) (Int.toNat (1 : Int)) (IntKind.wrap .u8 gen)) (Int.toNat (2 : Int)) (IntKind.wrap .u8 (Int.fdiv ((((List.length body)) : Nat) : Int) ((2 : Int) ^ (Min.min (Int.toNat (8 : Int)) (IntKind.bits .i64)))))) (Int.toNat (3 : Int)) (IntKind.wrap .u8 ((((List.length body)) : Nat) : Int))))) ++ ((IntKind.wrap .u8 (Int.fdiv y8 ((2 : Int) ^ (Min.min (Int.toNat (24 : Int)) (IntKind.bits .u32))))) :: ((IntKind.wrap .u8 (Int.fdiv y8 ((2 : Int) ^ (Min.min (Int.toNat (16 : Int)) (IntKind.bits .u32))))) :: ((IntKind.wrap .u8 (Int.fdiv y8 ((2 : Int) ^ (Min.min (Int.toNat (8 : Int)) (IntKind.bits .u32))))) :: ((IntKind.wrap .u8 y8) :: ([] : List Int)))))), (0 : Int)) else none)) else none) else none))))))))) else none))))
def frame_Seal.f (fuel : Nat) (gen : Int) (body : List Int) : Option ((List Int) × Int) := frame_Seal.b gen body
theorem frame_Seal.eq (fuel : Nat) (gen : Int) (body : List Int) : (denF frame_Seal_E loopN fuel Tryz.f30 [.dat (.sl (.int .u8)) false, .raw] [.d (.int .i64) gen, .d (.sl (.int .u8)) body] [] frame_Seal.k) = frame_Seal.f fuel gen body := by
 kernel_rfl
def s_frame_Seal : Den.Sum := ⟨[.raw, .dat (.sl (.int .u8)) false], fun args objs κ => match args, objs with
 | [.d (.int .i64) gen, .d (.sl (.int .u8)) body], [] => (match veil (frame_Seal.f BIG gen body) with | none => none | some y => κ [.d (.sl (.int .u8)) y.1, .d (.int .i64) y.2] [])
 | _, _ => none⟩
theorem s_frame_Seal_det : SumDet s_frame_Seal := fun avs objs R κ => by
 show s_frame_Seal.run avs objs (two κ) = (s_frame_Seal.run avs objs (two some)).bind κ
 unfold s_frame_Seal
 simp only [veil_eq]
 split
 ·split <;> rfl
 ·rfl
theorem s_frame_Seal_ok : SumOk Tryz.prog 30 s_frame_Seal := by
 have hE : EnvOk Tryz.prog frame_Seal_E := env_ok (l := [(50, s_crc_Of)]) th_ok any_ok ⟨⟨s_crc_Of_ok, s_crc_Of_det⟩, trivial⟩ _
 refine sum_ok hE Tryz.func30 rfl (by kernel_rfl) s_frame_Seal [.dat (.sl (.int .u8)) false, .raw] frame_Seal.k ?_
 intro R avs objs κ r h
 unfold s_frame_Seal at h
 simp only [veil_eq] at h
 split at h
 ·rename_i gen body
  split at h
  ·cases h
  ·rename_i y hy
   refine ⟨BIG, _, _, _, (frame_Seal.eq BIG gen body).trans hy, ?_, h⟩
   intro rs ros hk
   unfold frame_Seal.k at hk
   split at hk
   ·first | (cases hk; exact ⟨rfl, rfl⟩) | (have e := Option.some.inj hk; rw [← e]; exact ⟨rfl, rfl⟩)
   ·cases hk
 ·cases h
def frame_Open_E : Env := ⟨th, gam [(50, s_crc_Of), (51, s_read), (52, s_rnumb), (53, s_takeb)], fun i => ⟨[], [], []⟩⟩
def frame_Open.k (rs : List AV) (os : List Den.Obj) : Option (Int × (List Int) × Int) :=
 match rs, os with
 | [.d (.int .i64) r0, .d (.sl (.int .u8)) r1, .d (.int .i64) r2], [] => some (r0, r1, r2)
 | _, _ => none
def frame_Open.b (b : List Int) : Option (Int × (List Int) × Int) :=
 (if (decide (((((List.length b)) : Nat) : Int) > (65507 : Int))) then some ((0 : Int), ([] : List Int), (3 : Int)) else (if (decide (((((List.length b)) : Nat) : Int) < (8 : Int))) then some ((0 : Int), ([] : List Int), (2 : Int)) else (if (inB b) then (if (atOk b 0) then (match (veil (Option.some (readF b (1 : Int) 0 false))) with | none => none | some y0 => (if (atOk b y0.2.1) then (match (veil (Option.some (readF b (1 : Int) y0.2.1 y0.2.2))) with | none => none | some y1 => (if (atOk b y1.2.1) then (match (veil (Option.some (readF b (2 : Int) y1.2.1 y1.2.2))) with | none => none | some y2 => (if (y0.1 != (156 : Int)) then some ((0 : Int), ([] : List Int), (4 : Int)) else (if (decide (y1.1 < (1 : Int))) then some ((0 : Int), ([] : List Int), (4 : Int)) else (if (decide (y1.1 > (3 : Int))) then some ((0 : Int), ([] : List Int), (4 : Int)) else (if (y2.1 != (IntKind.wrap .i64 (((((List.length b)) : Nat) : Int) - (8 : Int)))) then some ((0 : Int), ([] : List Int), (4 : Int)) else (if (atOk b y2.2.1) then (match (veil (Option.some (stepF b y2.1 y2.2.1 y2.2.2))) with | none => none | some y3 => (if (atOk b y3.2.2.1) then (match (veil (Option.some (readF b (4 : Int) y3.2.2.1 y3.2.2.2))) with | none => none | some y4 => (if (((0 : Int) ≤ (IntKind.wrap .i64 (((((List.length b)) : Nat) : Int) - (4 : Int)))) ∧ ((IntKind.wrap .i64 (((((List.length b)) : Nat) : Int) - (4 : Int))) ≤ ((((List.length b)) : Nat) : Int))) then (match (veil (crc_Of.f BIG ((List.drop (0 : Nat) (List.take (Int.toNat (IntKind.wrap .i64 (((((List.length b)) : Nat) : Int) - (4 : Int)))) b)) :: ([] : List (List Int))))) with | none => none | some y5 => (if ((IntKind.wrap .u32 y4.1) != y5) then some ((0 : Int), ([] : List Int), (8 : Int)) else some (y1.1, y3.1, (0 : Int)))) else none)) else none)) else none)))))) else none)) else none)) else none) else none)))
def frame_Open.f (fuel : Nat) (b : List Int) : Option (Int × (List Int) × Int) := frame_Open.b b
theorem frame_Open.eq (fuel : Nat) (b : List Int) : (denF frame_Open_E loopN fuel Tryz.f31 [.raw, .dat (.sl (.int .u8)) false, .raw] [.d (.sl (.int .u8)) b] [] frame_Open.k) = frame_Open.f fuel b := by
 kernel_rfl
def s_frame_Open : Den.Sum := ⟨[.dat (.sl (.int .u8)) false], fun args objs κ => match args, objs with
 | [.d (.sl (.int .u8)) b], [] => (match veil (frame_Open.f BIG b) with | none => none | some y => κ [.d (.int .i64) y.1, .d (.sl (.int .u8)) y.2.1, .d (.int .i64) y.2.2] [])
 | _, _ => none⟩
theorem s_frame_Open_det : SumDet s_frame_Open := fun avs objs R κ => by
 show s_frame_Open.run avs objs (two κ) = (s_frame_Open.run avs objs (two some)).bind κ
 unfold s_frame_Open
 simp only [veil_eq]
 split
 ·split <;> rfl
 ·rfl
theorem s_frame_Open_ok : SumOk Tryz.prog 31 s_frame_Open := by
 have hE : EnvOk Tryz.prog frame_Open_E := env_ok (l := [(50, s_crc_Of), (51, s_read), (52, s_rnumb), (53, s_takeb)]) th_ok any_ok ⟨⟨s_crc_Of_ok, s_crc_Of_det⟩, ⟨s_read_ok, s_read_det⟩, ⟨s_rnumb_ok, s_rnumb_det⟩, ⟨s_takeb_ok, s_takeb_det⟩, trivial⟩ _
 refine sum_ok hE Tryz.func31 rfl (by kernel_rfl) s_frame_Open [.raw, .dat (.sl (.int .u8)) false, .raw] frame_Open.k ?_
 intro R avs objs κ r h
 unfold s_frame_Open at h
 simp only [veil_eq] at h
 split at h
 ·rename_i b
  split at h
  ·cases h
  ·rename_i y hy
   refine ⟨BIG, _, _, _, (frame_Open.eq BIG b).trans hy, ?_, h⟩
   intro rs ros hk
   unfold frame_Open.k at hk
   split at hk
   ·first | (cases hk; exact ⟨rfl, rfl⟩) | (have e := Option.some.inj hk; rw [← e]; exact ⟨rfl, rfl⟩)
   ·cases hk
 ·cases h
def frontF (gen : Int) (body : List Int) : List Int := 156 :: gen :: ((body.length / 256 : Nat) : Int) :: ((body.length % 256 : Nat) : Int) :: body
def sumT (s : Nat) : List Int := [((s / 16777216 : Nat) : Int), ((s / 65536 % 256 : Nat) : Int), ((s / 256 % 256 : Nat) : Int), ((s % 256 : Nat) : Int)]
def sealF (gen : Int) (body : List Int) : List Int := frontF gen body ++ sumT (crcF (frontF gen body))
def sealX (gen : Int) (body : List Int) : List Int × Int := if gen < 1 ∨ gen > 3 then ([], 5) else if body.length > 65499 then ([], 3) else (sealF gen body, 0)
theorem front_bytes {gen : Int} {body : List Int} (h1 : 1 ≤ gen) (h3 : gen ≤ 3) (hb : isB body) (hl : body.length ≤ 65499) : isB (frontF gen body) := by
 unfold frontF
 exact isB_cons (by omega) (by omega) (isB_cons (by omega) (by omega) (isB_cons (by omega) (by omega) (isB_cons (by omega) (by omega) hb)))
theorem tail_bytes (s : Nat) (h : s < 4294967296) : isB (sumT s) := by
 unfold sumT
 exact isB_cons (by omega) (by omega) (isB_cons (by omega) (by omega) (isB_cons (by omega) (by omega) (isB_cons (by omega) (by omega) isB_nil)))
theorem seal_bytes {gen : Int} {body : List Int} (h1 : 1 ≤ gen) (h3 : gen ≤ 3) (hb : isB body) (hl : body.length ≤ 65499) : isB (sealF gen body) :=
 isB_app (front_bytes h1 h3 hb hl) (tail_bytes _ (crcF_lt _))
theorem fd (s k : Nat) (p : Int) (hp : p = (k : Int)) (hk : 0 < k) : IntKind.wrap .u8 (Int.fdiv (s : Int) p) = ((s / k % 256 : Nat) : Int) := by
 subst hp
 rw [Int.fdiv_eq_ediv_of_nonneg _ (by omega), wrap_u8]
 omega
theorem rep4 (n : Nat) (hn : n ≤ 65499) : List.replicate (Int.toNat (IntKind.wrap .i64 (4 + ((n : Nat) : Int)))) (zeroI (Go.Den.Ty.int .u8)) = (0 : Int) :: (0 : Int) :: (0 : Int) :: (0 : Int) :: List.replicate n (0 : Int) := by
 rw [wrap_small _ (by omega) (by omega)]
 have : Int.toNat (4 + ((n : Nat) : Int)) = n + 1 + 1 + 1 + 1 := by omega
 rw [this]
 rfl
theorem frame_Seal.pure (gen : Int) (body : List Int) (hb : isB body) : frame_Seal.f BIG gen body = some (sealX gen body) := by
 unfold frame_Seal.f frame_Seal.b sealX
 by_cases h1 : gen < 1
 ·rw [if_pos (by simp [h1]), if_pos (.inl h1)]
 rw [if_neg (by simp [h1])]
 by_cases h3 : gen > 3
 ·rw [if_pos (by simp [h3]), if_pos (.inr h3)]
 have hg : ¬ (gen < 1 ∨ gen > 3) := by omega
 rw [if_neg (by simp [h3]), if_neg hg]
 by_cases hl : body.length > 65499
 ·rw [if_pos hl, if_pos (by simp; omega)]
 rw [if_neg hl, if_neg (by simp; omega)]
 have hn : body.length ≤ 65499 := by omega
 rw [if_pos (by rw [wrap_small _ (by omega) (by omega), wrap_small _ (by omega) (by omega)]; omega), rep4 _ hn]
 generalize hR : List.replicate body.length (0 : Int) = R
 have hRl : R.length = body.length := by rw [← hR]; simp
 have i0 : ∀ a b c d : Int, idx (a :: b :: c :: d :: R) 0 = some a := fun _ _ _ _ => rfl
 have i1 : ∀ a b c d : Int, idx (a :: b :: c :: d :: R) 1 = some b := fun _ _ _ _ => rfl
 have i2 : ∀ a b c d : Int, idx (a :: b :: c :: d :: R) 2 = some c := fun _ _ _ _ => rfl
 have i3 : ∀ a b c d : Int, idx (a :: b :: c :: d :: R) 3 = some d := fun _ _ _ _ => rfl
 have s0 : ∀ a b c d x : Int, List.set (a :: b :: c :: d :: R) (Int.toNat 0) x = x :: b :: c :: d :: R := fun _ _ _ _ _ => rfl
 have s1 : ∀ a b c d x : Int, List.set (a :: b :: c :: d :: R) (Int.toNat 1) x = a :: x :: c :: d :: R := fun _ _ _ _ _ => rfl
 have s2 : ∀ a b c d x : Int, List.set (a :: b :: c :: d :: R) (Int.toNat 2) x = a :: b :: x :: d :: R := fun _ _ _ _ _ => rfl
 have s3 : ∀ a b c d x : Int, List.set (a :: b :: c :: d :: R) (Int.toNat 3) x = a :: b :: c :: x :: R := fun _ _ _ _ _ => rfl
 have t4 : ∀ a b c d : Int, List.take (Int.toNat 4) (a :: b :: c :: d :: R) = [a, b, c, d] := fun _ _ _ _ => rfl
 have d4 : ∀ a b c d : Int, List.drop (Int.toNat 4 + body.length) (a :: b :: c :: d :: R) = [] := by
  intro a b c d
  rw [List.drop_eq_nil_iff]
  have : Int.toNat 4 = 4 := rfl
  simp [hRl, this]; omega
 simp only [i0, i1, i2, i3, s0, s1, s2, s3, t4, d4]
 rw [if_pos (by simp <;> omega), if_pos (by have : Int.toNat 4 = 4 := rfl; simp [hRl, this] <;> omega)]
 have g1 : IntKind.wrap .u8 gen = gen := by rw [wrap_u8]; omega
 have g2 : IntKind.wrap .u8 (Int.fdiv ((body.length : Nat) : Int) (2 ^ (Min.min (Int.toNat 8) (IntKind.bits .i64)))) = ((body.length / 256 : Nat) : Int) := by
  have e8 : (2 : Int) ^ (Min.min (Int.toNat 8) (IntKind.bits .i64)) = ((256 : Nat) : Int) := rfl
  rw [e8, fd body.length 256 _ rfl (by omega)]; omega
 have g3 : IntKind.wrap .u8 ((body.length : Nat) : Int) = ((body.length % 256 : Nat) : Int) := by rw [wrap_u8]; omega
 rw [g1, g2, g3]
 have ef : [156, gen, ((body.length / 256 : Nat) : Int), ((body.length % 256 : Nat) : Int)] ++ body ++ [] = frontF gen body := by simp [frontF]
 rw [ef, crc_Of.pure _ (front_bytes (by omega) (by omega) hb hn) (by simp [frontF]; omega)]
 simp only [veil_eq]
 have e24 : (2 : Int) ^ (Min.min (Int.toNat 24) (IntKind.bits .u32)) = ((16777216 : Nat) : Int) := rfl
 have e16 : (2 : Int) ^ (Min.min (Int.toNat 16) (IntKind.bits .u32)) = ((65536 : Nat) : Int) := rfl
 have e8 : (2 : Int) ^ (Min.min (Int.toNat 8) (IntKind.bits .u32)) = ((256 : Nat) : Int) := rfl
 rw [e24, e16, e8, fd _ 16777216 _ rfl (by omega), fd _ 65536 _ rfl (by omega), fd _ 256 _ rfl (by omega)]
 have g4 : IntKind.wrap .u8 ((crcF (frontF gen body) : Nat) : Int) = ((crcF (frontF gen body) % 256 : Nat) : Int) := by rw [wrap_u8]; omega
 have g5 : crcF (frontF gen body) / 16777216 % 256 = crcF (frontF gen body) / 16777216 := by have := crcF_lt (frontF gen body); omega
 rw [g4, g5, if_pos (by unfold lim; simp [frontF]; omega)]
 rfl
theorem inB_of {l : List Int} (h : isB l) (hl : l.length ≤ 1000000) : inB l = true := by
 unfold inB
 rw [Bool.and_eq_true, List.all_eq_true]
 refine ⟨by unfold roomy; simp; omega, fun c hc => ?_⟩
 have := h c hc
 simp
 omega
theorem step_at (l : List Int) (n a : Nat) (h : a + n ≤ l.length) : stepF l (n : Int) (a : Int) false = ((l.take (a + n)).drop a, true, ((a + n : Nat) : Int), false) := by
 unfold stepF
 rw [if_neg (by simp), if_neg (by simp; omega)]
 unfold seg
 have e1 : ((a : Int) + (n : Int)).toNat = a + n := by omega
 rw [e1, Int.toNat_natCast]
 simp
theorem read_at (l : List Int) (n a : Nat) (h1 : 1 ≤ n) (h7 : n ≤ 7) (h : a + n ≤ l.length) : readF l (n : Int) (a : Int) false = (numB ((l.take (a + n)).drop a), ((a + n : Nat) : Int), false) := by
 unfold readF
 have e : (if (decide ((n : Int) < 1) || decide ((n : Int) > 7)) = true then (-1 : Int) else (n : Int)) = (n : Int) := if_neg (by simp; omega)
 dsimp only
 rw [e, step_at l n a h]
 rfl
theorem numB_sum (s : Nat) (h : s < 4294967296) : numB (sumT s) = (s : Int) := by
 show (((0 * 256 + ((s / 16777216 : Nat) : Int)) * 256 + ((s / 65536 % 256 : Nat) : Int)) * 256 + ((s / 256 % 256 : Nat) : Int)) * 256 + ((s % 256 : Nat) : Int) = (s : Int)
 omega
theorem open_seal (gen : Int) (body : List Int) (h1 : 1 ≤ gen) (h3 : gen ≤ 3) (hb : isB body) (hl : body.length ≤ 65499) : frame_Open.f BIG (sealF gen body) = some (gen, body, 0) := by
 generalize hs : crcF (frontF gen body) = s
 have hsl : s < 4294967296 := by rw [← hs]; exact crcF_lt _
 have hin := inB_of (seal_bytes h1 h3 hb hl) (by unfold sealF frontF sumT; simp; omega)
 have hS : sealF gen body = 156 :: gen :: ((body.length / 256 : Nat) : Int) :: ((body.length % 256 : Nat) : Int) :: (body ++ sumT s) := by unfold sealF; rw [hs]; rfl
 have hlen : (sealF gen body).length = body.length + 8 := by rw [hS]; simp [sumT]
 have hfr : (sealF gen body).take (body.length + 4) = frontF gen body := by rw [hS]; unfold frontF; simp
 generalize hL : sealF gen body = L at *
 have hat : ∀ a : Nat, a ≤ body.length + 8 → atOk L (a : Int) = true := by
  intro a h1
  unfold atOk
  rw [hin, hlen]
  simp
  omega
 have r0 := read_at L 1 0 (by omega) (by omega) (by omega)
 have r1 := read_at L 1 1 (by omega) (by omega) (by omega)
 have r2 := read_at L 2 2 (by omega) (by omega) (by omega)
 have r3 := step_at L body.length 4 (by omega)
 have r4 := read_at L 4 (4 + body.length) (by omega) (by omega) (by omega)
 have p0 : numB ((L.take (0 + 1)).drop 0) = 156 := by rw [hS]; rfl
 have p1 : numB ((L.take (1 + 1)).drop 1) = gen := by
  rw [hS]
  show 0 * 256 + gen = gen
  omega
 have p2 : numB ((L.take (2 + 2)).drop 2) = (body.length : Int) := by
  rw [hS]
  show (0 * 256 + ((body.length / 256 : Nat) : Int)) * 256 + ((body.length % 256 : Nat) : Int) = (body.length : Int)
  omega
 have p3 : (L.take (4 + body.length)).drop 4 = body := by
  rw [hS, Nat.add_comm 4]
  simp
 have p4 : numB ((L.take (4 + body.length + 4)).drop (4 + body.length)) = (s : Int) := by
  have e : (L.take (4 + body.length + 4)).drop (4 + body.length) = sumT s := by
   rw [List.take_of_length_le (by omega), hS, Nat.add_comm 4]
   simp
  rw [e, numB_sum s hsl]
 rw [p0] at r0
 rw [p1] at r1
 rw [p2] at r2
 rw [p3] at r3
 rw [p4] at r4
 simp only [show ((0 : Nat) : Int) = 0 from rfl, show ((1 : Nat) : Int) = 1 from rfl, show ((2 : Nat) : Int) = 2 from rfl, show ((4 : Nat) : Int) = 4 from rfl, show ((0 + 1 : Nat) : Int) = 1 from rfl, show ((1 + 1 : Nat) : Int) = 2 from rfl, show ((2 + 2 : Nat) : Int) = 4 from rfl] at r0 r1 r2 r3 r4
 have a0 := hat 0 (by omega)
 have a1 := hat 1 (by omega)
 have a2 := hat 2 (by omega)
 have a4 := hat 4 (by omega)
 have a5 := hat (4 + body.length) (by omega)
 simp only [show ((0 : Nat) : Int) = 0 from rfl, show ((1 : Nat) : Int) = 1 from rfl, show ((2 : Nat) : Int) = 2 from rfl, show ((4 : Nat) : Int) = 4 from rfl] at a0 a1 a2 a4 a5
 unfold frame_Open.f frame_Open.b
 rw [if_neg (by rw [hlen]; simp; omega), if_neg (by rw [hlen]; simp; omega), if_pos hin, if_pos a0]
 simp only [veil_eq, r0]
 rw [if_pos a1]
 simp only [veil_eq, r1]
 rw [if_pos a2]
 simp only [veil_eq, r2]
 have w8 : IntKind.wrap .i64 (((L.length : Nat) : Int) - 8) = (body.length : Int) := by rw [hlen, wrap_small _ (by omega) (by omega)]; omega
 have w4 : IntKind.wrap .i64 (((L.length : Nat) : Int) - 4) = ((body.length + 4 : Nat) : Int) := by rw [hlen, wrap_small _ (by omega) (by omega)]; omega
 rw [if_neg (by simp), if_neg (by simp; omega), if_neg (by simp; omega), w8, if_neg (by simp), if_pos a4]
 simp only [veil_eq, r3]
 rw [if_pos a5]
 simp only [veil_eq, r4]
 rw [w4, if_pos (by rw [hlen]; omega), Int.toNat_natCast, hfr, List.drop_zero, crc_Of.pure _ (front_bytes h1 h3 hb hl) (by unfold frontF; simp; omega)]
 simp only [veil_eq]
 rw [hs, w32_nat s hsl, if_neg (by simp)]
theorem fields_end (fuel : Nat) (bs : List Int) (a0 : Int) (bad0 wr0 : Bool) (k : Nat) (n i : Int) (wr : Bool) (a : Int) (bad : Bool) (out : LF) (h : wr = true ∨ n ≤ i) :
  gen3_reader_fields.l4 fuel bs a0 bad0 wr0 (k + 1) n i wr bs a bad out = some (wr, bs, a, bad, out) := by
 rw [gen3_reader_fields.l4]
 unfold gen3_reader_fields.b4
 by_cases hi : i < n
 ·rw [if_pos (by simpa using hi)]
  rcases h with rfl | h
  ·rfl
  ·omega
 ·rw [if_neg (by simpa using hi)]
theorem stepF_bad (l : List Int) (n a : Int) : stepF l n a true = ([], false, a, true) := rfl
theorem stepF_zero (l : List Int) (a : Nat) (h : a ≤ l.length) : stepF l 0 (a : Int) false = ([], true, (a : Int), false) := by
 unfold stepF
 rw [if_neg (by simp), if_neg (by simp; omega)]
 unfold seg
 simp
theorem stepF_in (l : List Int) (n : Int) (a : Nat) (h0 : 0 ≤ n) (h : a + n.toNat ≤ l.length) : stepF l n (a : Int) false = ((l.drop a).take n.toNat, true, ((a + n.toNat : Nat) : Int), false) := by
 unfold stepF
 rw [if_neg (by simp), if_neg (by simp; omega)]
 unfold seg
 rw [show ((a : Int) + n).toNat = a + n.toNat from by omega, Int.toNat_natCast, show ((a : Int) + n) = ((a + n.toNat : Nat) : Int) from by omega]
 congr 1
 rw [List.drop_take]
 congr 1
 omega
theorem stepF_out (l : List Int) (n : Int) (a : Nat) (h0 : 0 ≤ n) (h : l.length < a + n.toNat) : stepF l n (a : Int) false = ([], false, (a : Int), true) := by
 unfold stepF
 rw [if_neg (by simp), if_pos (by simp; omega)]
theorem fields_loop (fuel : Nat) (bs : List Int) (hb : inB bs = true) (a0 : Int) (bad0 wr0 : Bool) (n : Nat) (hn : n ≤ 32) : ∀ (m k : Nat) (i a : Nat) (out : LF), i + m = n → m < k → a ≤ bs.length → out.length ≤ i →
  match fldsS bs m a with
  | some (l, a2) => gen3_reader_fields.l4 fuel bs a0 bad0 wr0 k (n : Int) (i : Int) false bs (a : Int) false out = some (false, bs, (a2 : Int), false, out ++ l)
  | none => ∃ (a' : Nat) (bad' : Bool) (l : LF), gen3_reader_fields.l4 fuel bs a0 bad0 wr0 k (n : Int) (i : Int) false bs (a : Int) false out = some (true, bs, (a' : Int), bad', l) ∧ a' ≤ bs.length := by
 obtain ⟨hl, hc⟩ := (inB_iff bs).1 hb
 intro m
 induction m with
 | zero =>
  intro k i a out hi hk ha ho
  obtain ⟨k, rfl⟩ : ∃ k', k = k' + 1 := ⟨k - 1, by omega⟩
  rw [fldsS]
  dsimp only
  rw [fields_end fuel bs a0 bad0 wr0 k (n : Int) (i : Int) false (a : Int) false out (Or.inr (by omega)), List.append_nil]
 | succ m ih =>
  intro k i a out hi hk ha ho
  obtain ⟨k, rfl⟩ : ∃ k', k = k' + 2 := ⟨k - 2, by omega⟩
  have hend : ∀ (a' : Nat) (bad' : Bool) (l : LF), a' ≤ bs.length → ∃ (a'' : Nat) (bad'' : Bool) (l' : LF), gen3_reader_fields.l4 fuel bs a0 bad0 wr0 (k + 1) (n : Int) (IntKind.wrap .i64 ((i : Int) + 1)) true bs (a' : Int) bad' l = some (true, bs, (a'' : Int), bad'', l') ∧ a'' ≤ bs.length :=
   fun a' bad' l h => ⟨a', bad', l, fields_end fuel bs a0 bad0 wr0 k _ _ true _ _ _ (Or.inl rfl), h⟩
  have hw : IntKind.wrap .i64 ((i : Int) + 1) = ((i + 1 : Nat) : Int) := by rw [wrap_small _ (by omega) (by omega)]; omega
  rw [show k + 2 = (k + 1) + 1 from rfl, gen3_reader_fields.l4, fldsS]
  unfold gen3_reader_fields.b4
  simp only [veil_eq]
  rw [if_pos (c := decide ((i : Int) < (n : Int)) = true) (by simp; omega), if_pos (c := (!false) = true) rfl, if_pos (c := atOk bs (a : Int) = true) ((atOk_iff _ _).2 ⟨hb, by omega, by omega⟩)]
  have hlim : ∀ x : Int × List Int, (out.length + ([x] : LF).length) * 32 ≤ lim := fun x => by simp [lim]; omega
  by_cases hlt : a < bs.length
  ·rw [readF_one bs a hlt]
   have hf : fldS bs a = match tk bs (a + 1) 4096 with
     | none => none
     | some (n, a2) => if a2 + n.toNat ≤ bs.length then some ((bs[a], (bs.drop a2).take n.toNat), a2 + n.toNat) else none := by
    unfold fldS
    rw [List.getElem?_eq_getElem hlt]
    all_goals rfl
   rw [hf]
   dsimp only
   generalize bs[a] = t at hf ⊢
   have hg := form_good bs (a + 1) 4096 hb (by decide) (by decide) hlt
   cases ht : tk bs (a + 1) 4096 with
   | none =>
    rw [ht] at hg
    obtain ⟨a', bad, hg, h2⟩ := hg
    rw [hg]
    dsimp only
    rw [if_pos (c := atOk bs (a' : Int) = true) ((atOk_iff _ _).2 ⟨hb, by omega, by omega⟩)]
    cases bad with
    | true =>
     rw [stepF_bad]
     dsimp only
     rw [if_pos rfl, if_pos (hlim _)]
     exact hend a' true _ h2
    | false =>
     rw [stepF_zero bs a' h2]
     dsimp only
     rw [if_neg (c := false = true) (by simp), if_pos (hlim _)]
     exact hend a' false _ h2
   | some p =>
    obtain ⟨w, a2⟩ := p
    rw [ht] at hg
    dsimp only at hg ⊢
    obtain ⟨e1, w0, w1, _, _, l1⟩ := tk_facts hc ht
    rw [hg]
    dsimp only
    rw [if_pos (c := atOk bs (a2 : Int) = true) ((atOk_iff _ _).2 ⟨hb, by omega, by omega⟩)]
    by_cases hin : a2 + w.toNat ≤ bs.length
    ·rw [stepF_in bs w a2 w0 hin, if_pos hin]
     dsimp only
     rw [if_neg (c := false = true) (by simp), if_pos (hlim _), hw]
     have := ih (k + 1) (i + 1) (a2 + w.toNat) (out ++ [(t, (bs.drop a2).take w.toNat)]) (by omega) (by omega) hin (by simp; omega)
     cases hr : fldsS bs m (a2 + w.toNat) with
     | none =>
      rw [hr] at this
      exact this
     | some q =>
      obtain ⟨l, a3⟩ := q
      rw [hr] at this
      dsimp only at this ⊢
      rw [this]
      simp
    ·rw [stepF_out bs w a2 w0 (by omega), if_neg hin]
     dsimp only
     rw [if_pos rfl, if_pos (hlim _)]
     exact hend a2 true _ l1
  ·have hf : fldS bs a = none := by
    unfold fldS
    rw [List.getElem?_eq_none (by omega)]
   rw [hf, readF_end bs a (by omega)]
   dsimp only
   rw [form_bad bs a 4096 hb ha]
   dsimp only
   rw [if_pos (c := atOk bs (a : Int) = true) ((atOk_iff _ _).2 ⟨hb, by omega, by omega⟩), stepF_bad]
   dsimp only
   rw [if_pos rfl, if_pos (hlim _)]
   exact hend a true _ ha
theorem fields_wrong (bs : List Int) (a : Int) (bad : Bool) : gen3_reader_fields.f BIG bs a bad true = some (true, bs, a, bad, []) := by
 unfold gen3_reader_fields.f gen3_reader_fields.b
 simp only [veil_eq]
 rw [form_wrong]
 dsimp only
 rw [big_eq]
 exact fields_end _ bs a bad true _ _ _ true a bad [] (Or.inl rfl)
theorem fields_good (bs : List Int) (a : Nat) (hb : inB bs = true) (ha : a ≤ bs.length) :
  match bagS bs a with
  | some (l, a2) => gen3_reader_fields.f BIG bs (a : Int) false false = some (false, bs, (a2 : Int), false, l)
  | none => ∃ (a' : Nat) (bad' : Bool) (l : LF), gen3_reader_fields.f BIG bs (a : Int) false false = some (true, bs, (a' : Int), bad', l) ∧ a' ≤ bs.length := by
 obtain ⟨hl, hc⟩ := (inB_iff bs).1 hb
 have hg := form_good bs a 32 hb (by decide) (by decide) ha
 unfold gen3_reader_fields.f gen3_reader_fields.b bagS
 simp only [veil_eq]
 cases ht : tk bs a 32 with
 | none =>
  rw [ht] at hg
  obtain ⟨a', bad, hg, h2⟩ := hg
  rw [hg]
  dsimp only
  refine ⟨a', bad, [], ?_, h2⟩
  rw [big_eq]
  exact fields_end _ bs a false false _ _ _ true a' bad [] (Or.inl rfl)
 | some p =>
  obtain ⟨w, a2⟩ := p
  rw [ht] at hg
  dsimp only at hg ⊢
  obtain ⟨e1, w0, w1, _, _, l1⟩ := tk_facts hc ht
  rw [hg]
  dsimp only
  have := fields_loop BIG bs hb a false false w.toNat (by omega) w.toNat BIG 0 a2 [] (by omega) (by rw [BIG_eq]; omega) l1 (by simp)
  rw [show ((w.toNat : Nat) : Int) = w from by omega] at this
  simpa using this
theorem flags_tab : (List.range 256).all (fun n => (bits BinOp.and .i64 (n : Int) 3 == (n : Int) % 4) && (((bits BinOp.and .i64 (n : Int) 4 != 0) == ((n : Int) / 4 % 2 == 1)) && (((bits BinOp.and .i64 (n : Int) 8 != 0) == ((n : Int) / 8 % 2 == 1)) && ((bits BinOp.and .i64 (n : Int) 16 != 0) == ((n : Int) / 16 % 2 == 1))))) = true := by kernel_rfl
theorem flags_at (v : Int) (h0 : 0 ≤ v) (h1 : v ≤ 255) : bits BinOp.and .i64 v 3 = v % 4 ∧ (bits BinOp.and .i64 v 4 != 0) = (v / 4 % 2 == 1) ∧ (bits BinOp.and .i64 v 8 != 0) = (v / 8 % 2 == 1) ∧ (bits BinOp.and .i64 v 16 != 0) = (v / 16 % 2 == 1) := by
 have := List.all_eq_true.1 flags_tab v.toNat (by simp; omega)
 rw [show ((v.toNat : Nat) : Int) = v from by omega] at this
 simp only [Bool.and_eq_true] at this
 obtain ⟨a, b, c, d⟩ := this
 exact ⟨by simpa using a, eq_of_beq b, eq_of_beq c, eq_of_beq d⟩
theorem xor64_zero (a : Int) (h0 : 0 ≤ a) (h1 : a < 9223372036854775808) : bits BinOp.xor .i64 a 0 = a := by
 have e : bits BinOp.xor .i64 a 0 = IntKind.wrap .i64 ((BitVec.ofInt 64 a ^^^ 0#64).toNat : Int) := rfl
 rw [e, BitVec.xor_zero, BitVec.toNat_ofInt, wrap_small]
 ·omega
 ·omega
 ·omega
theorem xor64_ones (a : Int) (h0 : 0 ≤ a) (h1 : a < 9223372036854775808) : bits BinOp.xor .i64 a (-1) = -a - 1 := by
 have e : bits BinOp.xor .i64 a (-1) = IntKind.wrap .i64 ((BitVec.ofInt 64 a ^^^ BitVec.ofInt 64 (-1)).toNat : Int) := rfl
 rw [e, show BitVec.ofInt 64 (-1) = BitVec.allOnes 64 from by decide +kernel, BitVec.xor_allOnes, BitVec.toNat_not, BitVec.toNat_ofInt, IntKind.wrap_i64]
 omega
theorem and64_one (z : Int) (h0 : 0 ≤ z) (h1 : z < 18446744073709551616) : bits BinOp.and .u64 z 1 = z % 2 := by
 obtain ⟨a, rfl⟩ := Int.eq_ofNat_of_zero_le h0
 have e : bits BinOp.and .u64 (a : Int) 1 = IntKind.wrap .u64 ((BitVec.ofInt 64 (a : Int) &&& 1#64).toNat : Int) := rfl
 rw [e, BitVec.toNat_and, BitVec.ofInt_natCast, BitVec.toNat_ofNat, Nat.mod_eq_of_lt (by omega), show (1#64 : BitVec 64).toNat = 1 from rfl, Nat.and_one_is_mod, wrapU64 _ (by omega) (by omega)]
 omega
theorem Zag.pure (z : Int) (h0 : 0 ≤ z) (h1 : z < 4611686018427387904) : varint_Zag.f BIG z = some (zagF z) := by
 unfold varint_Zag.f varint_Zag.b zagF
 rw [show ((2 : Int) ^ (Min.min (Int.toNat (1 : Int)) (IntKind.bits .u64))) = 2 from rfl, Int.fdiv_eq_ediv_of_nonneg _ (by omega), and64_one z h0 (by omega), wrap_small (z / 2) (by omega) (by omega), wrap_small (z % 2) (by omega) (by omega)]
 by_cases h : z % 2 = 0
 ·rw [if_pos h, h, show IntKind.wrap .i64 (0 - 0) = 0 from by decide, xor64_zero _ (by omega) (by omega)]
 ·rw [if_neg h, show z % 2 = 1 from by omega, show IntKind.wrap .i64 (0 - 1) = -1 from by decide, xor64_ones _ (by omega) (by omega)]
  congr 1
  omega
theorem one12_wrong (bs : List Int) (a0 : Int) (bad0 wr0 : Bool) (last : Int) (base : LR) (v : Int) (ok : Bool) (a : Int) (bad : Bool) (id st lo hi : Int) (cut : Bool) (oid oinc ost olo ohi : Int) (ocut : Bool) (obag : LF) :
  ∃ inc bag, gen3_reader_one.l12 BIG bs a0 bad0 wr0 last base BIG v ok true bs a bad id st lo hi cut oid oinc ost olo ohi ocut obag = some (id, inc, st, lo, hi, cut, bag, true, bs, a, bad) := by
 rw [gen3_reader_one.l12_at BIG BIG (BIG - 1) big_eq]
 unfold gen3_reader_one.b12
 simp only [veil_eq]
 rw [form_wrong]
 dsimp only
 obtain ⟨y, hy⟩ : ∃ y, varint_Zag.f BIG (IntKind.wrap .u64 0) = some y := ⟨_, rfl⟩
 rw [hy]
 dsimp only
 cases cut with
 | true => exact ⟨_, _, rfl⟩
 | false =>
  rw [if_neg (c := false = true) (by simp)]
  split
  ·exact ⟨_, _, rfl⟩
  ·rw [fields_wrong]
   exact ⟨_, _, rfl⟩
def OneBad (bs : List Int) (o : Option (Int × Int × Int × Int × Int × Bool × LF × Bool × List Int × Int × Bool)) : Prop :=
 ∃ id inc st lo hi cut bag, ∃ (a' : Nat) (bad' : Bool), o = some (id, inc, st, lo, hi, cut, bag, true, bs, (a' : Int), bad') ∧ a' ≤ bs.length
theorem one12_bad (bs : List Int) (a0 : Int) (bad0 wr0 : Bool) (last : Int) (base : LR) (v : Int) (ok : Bool) (a : Nat) (bad : Bool) (id st lo hi : Int) (cut : Bool) (oid oinc ost olo ohi : Int) (ocut : Bool) (obag : LF) (ha : a ≤ bs.length) :
  OneBad bs (gen3_reader_one.l12 BIG bs a0 bad0 wr0 last base BIG v ok true bs (a : Int) bad id st lo hi cut oid oinc ost olo ohi ocut obag) := by
 obtain ⟨inc, bag, h⟩ := one12_wrong bs a0 bad0 wr0 last base v ok a bad id st lo hi cut oid oinc ost olo ohi ocut obag
 exact ⟨id, inc, st, lo, hi, cut, bag, a, bad, h, ha⟩
theorem bag_small {b : LF} (h1 : b.length ≤ 32) (h2 : ∀ x ∈ b, x.2.length ≤ 4096) : smallBag b = true := (smallBag_iff _).2 ⟨by omega, fun x hx => by have := h2 x hx; omega⟩
theorem old_small {base : LR} (hbase : ∀ x ∈ base, recOkT x = true) (id : Int) : smallBag (oldR base id).1.2.2.2.2.2 = true := by
 rcases oldR_mem (base := base) (id := id) with ⟨_, h⟩ | ⟨_, h, _⟩
 ·rw [h]; all_goals rfl
 ·have := recOk_facts (hbase _ h)
  have hb2 := bagOk_len this.2.2.2.2.2.2.2.1
  exact bag_small hb2.1 (fun x hx => (bag_tags this.2.2.2.2.2.2.2.1 x hx).2.2)
theorem one12_good (bs : List Int) (hb : inB bs = true) (a0 : Int) (bad0 wr0 : Bool) (last : Int) (base : LR) (hbase : ∀ x ∈ base, recOkT x = true) (id0 : Int) (v : Int) (v0 : 0 ≤ v) (hv : flagBad (oldR base id0) v = false) (a : Nat) (ha : a ≤ bs.length) (id st lo hi oid ost olo ohi : Int) (ocut : Bool) :
  match (match tk bs a 562949953421310 with
   | none => none
   | some (z, a3) => match bagsS bs (oldR base id0) v a3 with
    | none => none
    | some (b, a4) => some ((oldR base id0).1.2.1 + zagF z, b, a4)) with
  | some (inc, b, a4) => gen3_reader_one.l12 BIG bs a0 bad0 wr0 last base BIG v (oldR base id0).2 false bs (a : Int) false id st lo hi (v / 4 % 2 == 1) oid (oldR base id0).1.2.1 ost olo ohi ocut (oldR base id0).1.2.2.2.2.2 = some (id, inc, st, lo, hi, (v / 4 % 2 == 1), b, false, bs, (a4 : Int), false)
  | none => OneBad bs (gen3_reader_one.l12 BIG bs a0 bad0 wr0 last base BIG v (oldR base id0).2 false bs (a : Int) false id st lo hi (v / 4 % 2 == 1) oid (oldR base id0).1.2.1 ost olo ohi ocut (oldR base id0).1.2.2.2.2.2) := by
 obtain ⟨hl, hc⟩ := (inB_iff bs).1 hb
 obtain ⟨f1, f2, f3⟩ := flagBad_no hv
 obtain ⟨o0, o1⟩ := old_inc hbase id0
 have hos := old_small hbase id0
 obtain ⟨_, _, _, b16⟩ := flags_at v v0 (by omega)
 have hg := form_good bs a 562949953421310 hb (by decide) (by decide) ha
 rw [gen3_reader_one.l12_at BIG BIG (BIG - 1) big_eq]
 unfold gen3_reader_one.b12
 simp only [veil_eq]
 generalize oldR base id0 = o at *
 cases ht : tk bs a 562949953421310 with
 | none =>
  rw [ht] at hg
  obtain ⟨a', bad, hg, h2⟩ := hg
  rw [hg]
  dsimp only
  obtain ⟨y, hy⟩ : ∃ y, varint_Zag.f BIG (IntKind.wrap .u64 0) = some y := ⟨_, rfl⟩
  rw [hy]
  dsimp only
  cases (v / 4 % 2 == 1) with
  | true => exact ⟨_, _, _, _, _, _, _, a', bad, rfl, h2⟩
  | false =>
   rw [if_neg (c := false = true) (by simp)]
   split
   ·exact ⟨_, _, _, _, _, _, _, a', bad, rfl, h2⟩
   ·rw [fields_wrong]
    exact ⟨_, _, _, _, _, _, _, a', bad, rfl, h2⟩
 | some p =>
  obtain ⟨z, a3⟩ := p
  rw [ht] at hg
  dsimp only at hg ⊢
  obtain ⟨e1, z0, z1, _, _, l3⟩ := tk_facts hc ht
  have hz : -300000000000000 ≤ zagF z ∧ zagF z ≤ 300000000000000 := by unfold zagF; split <;> omega
  rw [hg]
  dsimp only
  rw [wrapU64 z z0 (by omega), Zag.pure z z0 (by omega)]
  dsimp only
  rw [wrap_small _ (by omega) (by omega), b16]
  unfold bagsS
  by_cases h4 : v / 4 % 2 = 1
  ·rw [if_pos h4]
   have e4 : (v / 4 % 2 == 1) = true := by simpa using h4
   rw [e4]
   all_goals rfl
  ·rw [if_neg h4]
   have e4 : (v / 4 % 2 == 1) = false := by simpa using h4
   rw [e4, if_neg (c := false = true) (by simp)]
   by_cases h16 : 16 ≤ v
   ·rw [if_pos h16, if_pos (c := (v / 16 % 2 == 1) = true) (by simp; omega)]
   ·rw [if_neg h16, if_neg (c := (v / 16 % 2 == 1) = true) (by simp; omega)]
    have hf := fields_good bs a3 hb l3
    cases hbg : bagS bs a3 with
    | none =>
     rw [hbg] at hf
     obtain ⟨a', bad', l, hf, h2⟩ := hf
     rw [hf]
     exact ⟨_, _, _, _, _, _, _, a', bad', rfl, h2⟩
    | some q =>
     obtain ⟨b, a4⟩ := q
     rw [hbg] at hf
     dsimp only at hf ⊢
     rw [hf]
     dsimp only
     obtain ⟨_, l4, n4, s4⟩ := bagS_sound hc hbg
     rw [if_neg (c := false = true) (by simp)]
     cases ho : o.2 with
     | false =>
      rw [if_neg (c := false = true) (by simp)]
      simp
     | true =>
      cases hcm : cmpGo b o.1.2.2.2.2.2 == 0 with
      | true =>
       simp only [bag_small n4 s4, hos, Bool.and_self, if_true]
       exact ⟨_, _, _, _, _, _, _, a4, false, rfl, l4⟩
      | false =>
       simp only [bag_small n4 s4, hos, Bool.and_self, Bool.and_false, if_true, Bool.false_eq_true, if_false]
theorem one8_bad (bs : List Int) (a0 : Int) (bad0 wr0 : Bool) (last : Int) (base : LR) (v : Int) (ok : Bool) (a : Nat) (bad : Bool) (id st : Int) (cut : Bool) (oid oinc ost olo ohi : Int) (ocut : Bool) (obag : LF) (hb : inB bs = true) (ha : a ≤ bs.length) (wr : Bool) (hw : wr = true ∨ (bad = true ∧ v = 0)) :
  OneBad bs (gen3_reader_one.l8 BIG bs a0 bad0 wr0 last base BIG v ok wr bs (a : Int) bad id st cut oid oinc ost olo ohi ocut obag) := by
 rw [gen3_reader_one.l8_at BIG BIG (BIG - 1) big_eq]
 unfold gen3_reader_one.b8
 simp only [veil_eq]
 by_cases h8 : (bits BinOp.and .i64 v 8 != 0) = true
 ·rw [if_pos h8]
  rcases hw with rfl | ⟨_, rfl⟩
  ·exact one12_bad bs a0 bad0 wr0 last base v ok a bad id st _ _ cut oid oinc ost olo ohi ocut obag ha
  ·exact absurd h8 (by decide)
 ·rw [if_neg h8]
  have hr : Rel bs none wr (a : Int) bad := ⟨⟨a, rfl, ha⟩, by
   rcases hw with h | h
   ·exact Or.inl h
   ·exact Or.inr h.1⟩
  obtain ⟨lo, hi, wr', a', bad', e1, r1, _⟩ := span_rel hb hr
  rw [e1]
  dsimp only
  obtain ⟨⟨n, rfl, hn⟩, hor⟩ := r1
  have hwr : wr' = true := by
   -- a span that is not read is wrong
   have := e1
   unfold gen3_reader_span.f gen3_reader_span.b at this
   simp only [veil_eq] at this
   rw [if_pos ((atOk_iff _ _).2 ⟨hb, by omega, by omega⟩)] at this
   rcases hw with rfl | ⟨rfl, _⟩
   ·have := (Option.some.inj this)
    simp only [Prod.mk.injEq] at this
    rw [← this.2.2.1]
   ·rw [readF_bad] at this
    cases wr with
    | true =>
     have := (Option.some.inj this)
     simp only [Prod.mk.injEq] at this
     rw [← this.2.2.1]
    | false =>
     rw [if_neg (by simp)] at this
     have := (Option.some.inj this)
     simp only [Prod.mk.injEq] at this
     rw [← this.2.2.1, ofGo_ok3 0 (by omega) (by omega)]
     all_goals rfl
  subst hwr
  rw [if_pos rfl]
  exact one12_bad bs a0 bad0 wr0 last base v ok n bad' id st _ _ cut oid oinc ost olo ohi ocut obag hn
theorem span_good (bs : List Int) (a : Nat) (hb : inB bs = true) (ha : a ≤ bs.length) :
  match bs[a]? with
  | none => ∃ lo hi bad, gen3_reader_span.f BIG bs (a : Int) false false = some (lo, hi, true, bs, (a : Int), bad)
  | some c => if okS (c / 16) (c % 16) = true then gen3_reader_span.f BIG bs (a : Int) false false = some (c / 16, c % 16, false, bs, ((a + 1 : Nat) : Int), false)
   else ∃ lo hi, gen3_reader_span.f BIG bs (a : Int) false false = some (lo, hi, true, bs, ((a + 1 : Nat) : Int), false) := by
 obtain ⟨hl, hc⟩ := (inB_iff bs).1 hb
 unfold gen3_reader_span.f gen3_reader_span.b
 simp only [veil_eq]
 rw [if_pos ((atOk_iff _ _).2 ⟨hb, by omega, by omega⟩)]
 by_cases hlt : a < bs.length
 ·rw [readF_one bs a hlt, List.getElem?_eq_getElem hlt]
  dsimp only
  obtain ⟨c0, c1⟩ := hc _ (List.getElem_mem hlt)
  have ht := ofGo_ok3 _ c0 c1
  have hd := ofGo_div _ c0 c1
  generalize bs[a] = c at c0 c1 ht hd ⊢
  rw [if_neg (c := false = true) (by simp), ht]
  cases ho : okS (c / 16) (c % 16) with
  | true => rw [if_pos rfl, hd.1 ho]; all_goals rfl
  | false => rw [if_neg (c := false = true) (by simp)]; exact ⟨_, _, rfl⟩
 ·rw [readF_end bs a (by omega), List.getElem?_eq_none (by omega)]
  dsimp only
  rw [if_neg (c := false = true) (by simp), ofGo_ok3 0 (by omega) (by omega)]
  exact ⟨_, _, _, rfl⟩
theorem one8_good (bs : List Int) (hb : inB bs = true) (a0 : Int) (bad0 wr0 : Bool) (last : Int) (base : LR) (o : REC × Bool) (v : Int) (v0 : 0 ≤ v) (v1 : v ≤ 255) (a : Nat) (ha : a ≤ bs.length) (id st : Int) (cut : Bool) :
  match spanS bs o v a with
  | some (sp, a2) => gen3_reader_one.l8 BIG bs a0 bad0 wr0 last base BIG v o.2 false bs (a : Int) false id st cut o.1.1 o.1.2.1 o.1.2.2.1 o.1.2.2.2.1.1 o.1.2.2.2.1.2 o.1.2.2.2.2.1 o.1.2.2.2.2.2 =
    gen3_reader_one.l12 BIG bs a0 bad0 wr0 last base BIG v o.2 false bs (a2 : Int) false id st sp.1 sp.2 cut o.1.1 o.1.2.1 o.1.2.2.1 o.1.2.2.2.1.1 o.1.2.2.2.1.2 o.1.2.2.2.2.1 o.1.2.2.2.2.2 ∧ a2 ≤ bs.length
  | none => OneBad bs (gen3_reader_one.l8 BIG bs a0 bad0 wr0 last base BIG v o.2 false bs (a : Int) false id st cut o.1.1 o.1.2.1 o.1.2.2.1 o.1.2.2.2.1.1 o.1.2.2.2.1.2 o.1.2.2.2.2.1 o.1.2.2.2.2.2) := by
 obtain ⟨_, _, b8, _⟩ := flags_at v v0 v1
 have hs := span_good bs a hb ha
 rw [gen3_reader_one.l8_at BIG BIG (BIG - 1) big_eq]
 unfold gen3_reader_one.b8 spanS
 simp only [veil_eq]
 rw [b8]
 by_cases h8 : v / 8 % 2 = 1
 ·rw [if_pos h8, if_pos (c := (v / 8 % 2 == 1) = true) (by simpa using h8)]
  exact ⟨rfl, ha⟩
 ·rw [if_neg h8, if_neg (c := (v / 8 % 2 == 1) = true) (by simpa using h8)]
  cases hc : bs[a]? with
  | none =>
   rw [hc] at hs
   obtain ⟨lo, hi, bad, hs⟩ := hs
   rw [hs]
   dsimp only
   rw [if_pos rfl]
   exact one12_bad bs a0 bad0 wr0 last base v _ a bad id st _ _ cut _ _ _ _ _ _ _ ha
  | some c =>
   rw [hc] at hs
   dsimp only at hs ⊢
   have hlt := (get_drop hc).2
   cases ho : okS (c / 16) (c % 16) with
   | false =>
    rw [ho, if_neg (by simp)] at hs
    obtain ⟨lo, hi, hs⟩ := hs
    rw [hs]
    dsimp only
    rw [if_pos (c := true = true) rfl, if_neg (by simp)]
    exact one12_bad bs a0 bad0 wr0 last base v _ (a + 1) false id st _ _ cut _ _ _ _ _ _ _ hlt
   | true =>
    rw [ho, if_pos rfl] at hs
    rw [hs]
    dsimp only
    rw [if_neg (c := false = true) (by simp)]
    cases h2 : o.2 with
    | false =>
     simp only [Bool.false_and, and_self, if_true, Bool.false_eq_true, if_false]
     first | exact hlt | exact ⟨rfl, hlt⟩ | exact ⟨trivial, hlt⟩
    | true =>
     rw [if_pos (c := true = true) rfl]
     cases h3 : (c / 16 == o.1.2.2.2.1.1) <;> cases h4 : (c % 16 == o.1.2.2.2.1.2) <;> simp only [Bool.true_and, Bool.and_self, Bool.and_true, Bool.and_false, Bool.false_eq_true, and_self, and_false, true_and, Bool.true_eq_false, if_true, if_false]
     ·first | exact hlt | exact ⟨rfl, hlt⟩ | exact ⟨trivial, hlt⟩
     ·first | exact hlt | exact ⟨rfl, hlt⟩ | exact ⟨trivial, hlt⟩
     ·first | exact hlt | exact ⟨rfl, hlt⟩ | exact ⟨trivial, hlt⟩
     ·exact one12_bad bs a0 bad0 wr0 last base v _ (a + 1) false id st _ _ cut _ _ _ _ _ _ _ hlt
theorem flag_ite {α : Type} (o : REC × Bool) (v : Int) (B E : α) : (if decide (v ≥ 32) = true then B else if (!o.2) = true then (if decide (v ≥ 8) = true then B else if (v / 4 % 2 == 1) = true then (if decide (v ≥ 16) = true then B else E) else E) else (if (v / 4 % 2 == 1) = true then (if decide (v ≥ 16) = true then B else E) else E)) = if flagBad o v = true then B else E := by
 unfold flagBad
 have e1 : (v / 4 % 2 == 1) = decide (v / 4 % 2 = 1) := rfl
 rw [e1]
 have g32 : decide (v ≥ 32) = decide (32 ≤ v) := rfl
 have g8 : decide (v ≥ 8) = decide (8 ≤ v) := rfl
 have g16 : decide (v ≥ 16) = decide (16 ≤ v) := rfl
 rw [g32, g8, g16]
 generalize decide (32 ≤ v) = p
 generalize decide (8 ≤ v) = q
 generalize decide (16 ≤ v) = s
 generalize decide (v / 4 % 2 = 1) = t
 generalize o.2 = u
 cases p <;> cases q <;> cases s <;> cases t <;> cases u <;> rfl
theorem one_good (bs : List Int) (hb : inB bs = true) (last : Int) (h1 : -1 ≤ last) (h2 : last ≤ 100000000) (base : LR) (hbase : ∀ x ∈ base, recOkT x = true) (hbn : base.length < 1000000000) (a : Nat) (ha : a ≤ bs.length) :
  match recS bs base last a with
  | some (r, a2) => gen3_reader_one.f BIG bs (a : Int) false false last base = some (r.1, r.2.1, r.2.2.1, r.2.2.2.1.1, r.2.2.2.1.2, r.2.2.2.2.1, r.2.2.2.2.2, false, bs, (a2 : Int), false)
  | none => OneBad bs (gen3_reader_one.f BIG bs (a : Int) false false last base) := by
 obtain ⟨hl, hc⟩ := (inB_iff bs).1 hb
 have hg := form_good bs a 4095 hb (by decide) (by decide) ha
 have hfine := fine_of hbase hbn
 unfold gen3_reader_one.f gen3_reader_one.b recS
 simp only [veil_eq]
 cases ht : tk bs a 4095 with
 | none =>
  rw [ht] at hg
  obtain ⟨a', bad, hg, l1⟩ := hg
  rw [hg]
  dsimp only
  have hat : atOk bs (a' : Int) = true := (atOk_iff _ _).2 ⟨hb, by omega, by omega⟩
  have hr := (atOk_iff _ _).1 (readF_at bs 1 (a' : Int) bad hat)
  obtain ⟨m, hm1, hm2⟩ : ∃ m : Nat, (readF bs 1 (a' : Int) bad).2.1 = (m : Int) ∧ m ≤ bs.length := ⟨(readF bs 1 (a' : Int) bad).2.1.toNat, by omega, by omega⟩
  rw [if_pos (c := atOk bs (a' : Int) = true) hat, Find.pure base _ hfine, hm1]
  dsimp only
  repeat' split
  all_goals first
   | exact ⟨_, _, _, _, _, _, _, m, _, rfl, hm2⟩
   | exact one8_bad bs a false false last base _ _ m _ _ _ _ _ _ _ _ _ _ _ hb hm2 true (Or.inl rfl)
 | some p =>
  obtain ⟨d, a1⟩ := p
  rw [ht] at hg
  dsimp only at hg ⊢
  obtain ⟨_, d0, d1, _, _, l1⟩ := tk_facts hc ht
  rw [hg]
  dsimp only
  have hid : IntKind.wrap .i64 (IntKind.wrap .i64 (last + 1) + d) = last + 1 + d := by rw [wrap_small (last + 1) (by omega) (by omega), wrap_small _ (by omega) (by omega)]
  rw [if_pos (c := atOk bs (a1 : Int) = true) ((atOk_iff _ _).2 ⟨hb, by omega, by omega⟩), hid, Find.pure base _ hfine]
  dsimp only
  by_cases hlt : a1 < bs.length
  ·rw [readF_one bs a1 hlt, List.getElem?_eq_getElem hlt]
   dsimp only
   obtain ⟨c0, c1⟩ := hc _ (List.getElem_mem hlt)
   generalize bs[a1] = v at c0 c1 ⊢
   obtain ⟨b3, b4, _, _⟩ := flags_at v c0 c1
   rw [b3, b4, flag_ite]
   cases hf : flagBad (oldR base (last + 1 + d)) v with
   | true =>
    rw [if_pos rfl, if_pos rfl]
    exact ⟨_, _, _, _, _, _, _, a1 + 1, _, rfl, hlt⟩
   | false =>
    rw [if_neg (c := false = true) (by simp), if_neg (c := false = true) (by simp)]
    have h8 := one8_good bs hb a false false last base (oldR base (last + 1 + d)) v c0 c1 (a1 + 1) hlt (last + 1 + d) (v % 4) (v / 4 % 2 == 1)
    cases hs : spanS bs (oldR base (last + 1 + d)) v (a1 + 1) with
    | none =>
     rw [hs] at h8
     exact h8
    | some q =>
     obtain ⟨sp, a2⟩ := q
     rw [hs] at h8
     dsimp only at h8 ⊢
     rw [h8.1]
     have h12 := one12_good bs hb a false false last base hbase (last + 1 + d) v c0 hf a2 h8.2 (last + 1 + d) (v % 4) sp.1 sp.2 (oldR base (last + 1 + d)).1.1 (oldR base (last + 1 + d)).1.2.2.1 (oldR base (last + 1 + d)).1.2.2.2.1.1 (oldR base (last + 1 + d)).1.2.2.2.1.2 (oldR base (last + 1 + d)).1.2.2.2.2.1
     revert h12
     cases tk bs a2 562949953421310 with
     | none => intro h12; exact h12
     | some w =>
      obtain ⟨z, a3⟩ := w
      dsimp only
      cases bagsS bs (oldR base (last + 1 + d)) v a3 with
      | none => intro h12; exact h12
      | some u =>
       obtain ⟨b, a4⟩ := u
       intro h12
       exact h12
  ·rw [readF_end bs a1 (by omega), List.getElem?_eq_none (by omega)]
   dsimp only
   rw [show (bits BinOp.and .i64 0 4 != 0) = ((0 : Int) / 4 % 2 == 1) from by decide, flag_ite]
   split
   ·exact ⟨_, _, _, _, _, _, _, a1, _, rfl, l1⟩
   ·exact one8_bad bs a false false last base 0 _ a1 true _ _ _ _ _ _ _ _ _ _ hb l1 false (Or.inr ⟨rfl, rfl⟩)
theorem recS_small {bs : List Int} (hb : ∀ c ∈ bs, 0 ≤ c ∧ c ≤ 255) {base : LR} (hbase : ∀ x ∈ base, recOkT x = true) {last : Int} {a : Nat} {r : REC} {a2 : Nat} (h : recS bs base last a = some (r, a2)) : smallBag r.2.2.2.2.2 = true := by
 unfold recS at h
 cases ht : tk bs a 4095 with
 | none => rw [ht] at h; cases h
 | some p =>
  obtain ⟨d, a1⟩ := p
  rw [ht] at h
  dsimp only at h
  cases hc : bs[a1]? with
  | none => rw [hc] at h; cases h
  | some v =>
   rw [hc] at h
   dsimp only at h
   cases hf : flagBad (oldR base (last + 1 + d)) v with
   | true => rw [hf] at h; cases h
   | false =>
    rw [hf, if_neg (by simp)] at h
    cases hs : spanS bs (oldR base (last + 1 + d)) v (a1 + 1) with
    | none => rw [hs] at h; cases h
    | some q =>
     rw [hs] at h
     dsimp only at h
     cases hz : tk bs q.2 562949953421310 with
     | none => rw [hz] at h; cases h
     | some w =>
      rw [hz] at h
      dsimp only at h
      cases hg : bagsS bs (oldR base (last + 1 + d)) v w.2 with
      | none => rw [hg] at h; cases h
      | some u =>
       rw [hg] at h
       cases h
       unfold bagsS at hg
       dsimp only
       split at hg
       ·cases hg; rfl
       ·split at hg
        ·cases hg; exact old_small hbase _
        ·cases hk : bagS bs w.2 with
         | none => rw [hk] at hg; cases hg
         | some y =>
          rw [hk] at hg
          dsimp only at hg
          split at hg
          ·cases hg
          ·cases hg
           obtain ⟨_, _, n4, s4⟩ := bagS_sound hb (l := y.1) (a2 := y.2) hk
           exact bag_small n4 s4
abbrev HDR := Int × Int × Int × Int × Int × Int × Int × Int × Int × Int × Bool × List Int × Int × Bool
def finCR (k f i lo hi s t l e b : Int) (wr : Bool) (bs : List Int) (a : Int) (bad : Bool) : Option HDR :=
 if bad then some (k, f, i, lo, hi, s, t, l, e, b, true, bs, a, bad)
 else if (!(validF k f i lo hi s t l e b [])) then some (k, f, i, lo, hi, s, t, l, e, b, true, bs, a, bad)
 else some (k, f, i, lo, hi, s, t, l, e, b, wr, bs, a, bad)
def headCR (bs : List Int) (at0 : Int) (bad wrong : Bool) : Option HDR :=
 if atOk bs at0 then
  optC true 4095 wrong bs (readF bs 1 at0 bad).2.1 (readF bs 1 at0 bad).2.2 fun f w b1 a1 d1 =>
  optC true 281474976710655 w b1 a1 d1 fun i w b2 a2 d2 =>
  match gen3_reader_span.f BIG b2 a2 d2 w with
  | none => none
  | some y =>
   optC (hasF (readF bs 1 at0 bad).1 0) 65535 y.2.2.1 y.2.2.2.1 y.2.2.2.2.1 y.2.2.2.2.2 fun s w b3 a3 d3 =>
   optC (hasF (readF bs 1 at0 bad).1 1) 4095 w b3 a3 d3 fun t w b4 a4 d4 =>
   optC (hasF (readF bs 1 at0 bad).1 2) 281474976710655 w b4 a4 d4 fun l w b5 a5 d5 =>
   optC (hasF (readF bs 1 at0 bad).1 2) 65535 w b5 a5 d5 fun e w b6 a6 d6 =>
   optC (hasF (readF bs 1 at0 bad).1 3) 65535 w b6 a6 d6 fun b w b7 a7 d7 =>
   finCR (readF bs 1 at0 bad).1 f i y.1 y.2.1 s t l e b w b7 a7 d7
 else none
theorem headR_eq (bs : List Int) (at0 : Int) (bad wrong : Bool) : gen3_reader_headR.f BIG bs at0 bad wrong = headCR bs at0 bad wrong := by
 unfold gen3_reader_headR.f gen3_reader_headR.b headCR optC finCR
 simp only [veil_eq]
 generalize hasF (readF bs 1 at0 bad).1 0 = h0
 generalize hasF (readF bs 1 at0 bad).1 1 = h1
 generalize hasF (readF bs 1 at0 bad).1 2 = h2
 generalize hasF (readF bs 1 at0 bad).1 3 = h3
 cases h0 <;> cases h1 <;> cases h2 <;> cases h3 <;> rfl
theorem headR.pure (bs : List Int) (hb : inB bs = true) :
  match hdS bs with
  | some (k, f, i, lo, hi, s, t, l, e, b, a) => gen3_reader_headR.f BIG bs 0 false false = some (k, f, i, lo, hi, s, t, l, e, b, false, bs, (a : Int), false) ∧ a ≤ bs.length ∧ validF k f i lo hi s t l e b [] = true
  | none => ∃ k f i lo hi s t l e b a bad, gen3_reader_headR.f BIG bs 0 false false = some (k, f, i, lo, hi, s, t, l, e, b, true, bs, a, bad) := by
 rw [headR_eq]
 unfold headCR
 rw [if_pos ((atOk_iff _ _).2 ⟨hb, by omega, by omega⟩)]
 have h0 : (readF bs 1 0 false).1 = hdK bs ∧ Rel bs (hdSt bs) false (readF bs 1 0 false).2.1 (readF bs 1 0 false).2.2 := by
  unfold hdK hdSt
  by_cases h : 0 < bs.length
  ·rw [if_pos h, show (0 : Int) = ((0 : Nat) : Int) from rfl, readF_one bs 0 h]
   refine ⟨?_, ⟨1, rfl, h⟩, rfl, rfl, rfl⟩
   simp [List.getD, List.getElem?_eq_getElem h]
  ·rw [if_neg h, show (0 : Int) = ((0 : Nat) : Int) from rfl, readF_end bs 0 (by omega)]
   refine ⟨?_, ⟨0, rfl, by omega⟩, Or.inr rfl⟩
   simp [List.getD, List.getElem?_eq_none (show bs.length ≤ 0 by omega)]
 obtain ⟨e0, r0⟩ := h0
 rw [e0]
 obtain ⟨w1, a1, d1, e1, r1⟩ := optC_rel hb r0 true 4095 (by decide) (by decide) _
 rw [e1]
 obtain ⟨w2, a2, d2, e2, r2⟩ := optC_rel hb r1 true 281474976710655 (by decide) (by decide) _
 rw [e2]
 obtain ⟨lo, hi, w3, a3, d3, e3, r3, q3⟩ := span_rel hb r2
 rw [e3]
 dsimp only
 obtain ⟨w4, a4, d4, e4, r4⟩ := optC_rel hb r3 (hasF (hdK bs) 0) 65535 (by decide) (by decide) _
 rw [e4]
 obtain ⟨w5, a5, d5, e5, r5⟩ := optC_rel hb r4 (hasF (hdK bs) 1) 4095 (by decide) (by decide) _
 rw [e5]
 obtain ⟨w6, a6, d6, e6, r6⟩ := optC_rel hb r5 (hasF (hdK bs) 2) 281474976710655 (by decide) (by decide) _
 rw [e6]
 obtain ⟨w7, a7, d7, e7, r7⟩ := optC_rel hb r6 (hasF (hdK bs) 2) 65535 (by decide) (by decide) _
 rw [e7]
 obtain ⟨w8, a8, d8, e8, r8⟩ := optC_rel hb r7 (hasF (hdK bs) 3) 65535 (by decide) (by decide) _
 rw [e8]
 have hs : (optS bs (hasF (hdK bs) 3) (optS bs (hasF (hdK bs) 2) (optS bs (hasF (hdK bs) 2) (optS bs (hasF (hdK bs) 1) (optS bs (hasF (hdK bs) 0) (spS bs (optS bs true (optS bs true (hdSt bs) 4095).2 281474976710655).2).2.2 65535).2 4095).2 281474976710655).2 65535).2 65535).2 ≠ none → lo = (spS bs (optS bs true (optS bs true (hdSt bs) 4095).2 281474976710655).2).1 ∧ hi = (spS bs (optS bs true (optS bs true (hdSt bs) 4095).2 281474976710655).2).2.1 :=
  fun h => q3 (optS_none (optS_none (optS_none (optS_none (optS_none h)))))
 unfold hdS finCR
 dsimp only
 generalize optS bs (hasF (hdK bs) 3) _ 65535 = B at r8 hs ⊢
 obtain ⟨b, st⟩ := B
 dsimp only at r8 hs ⊢
 obtain ⟨⟨n, rfl, hn⟩, r8⟩ := r8
 cases st with
 | none =>
  dsimp only at r8 ⊢
  cases d8 with
  | true => exact ⟨_, _, _, _, _, _, _, _, _, _, _, _, rfl⟩
  | false =>
   obtain rfl : w8 = true := by rcases r8 with h | h; exact h; cases h
   rw [if_neg (by simp)]
   split <;> exact ⟨_, _, _, _, _, _, _, _, _, _, _, _, rfl⟩
 | some m =>
  obtain ⟨rfl, rfl, e⟩ := r8
  obtain ⟨rfl, rfl⟩ := hs (by simp)
  obtain rfl : n = m := by omega
  dsimp only
  rw [if_neg (c := false = true) (by simp)]
  by_cases hv : validF (hdK bs) (optS bs true (hdSt bs) 4095).1 (optS bs true (optS bs true (hdSt bs) 4095).2 281474976710655).1 (spS bs (optS bs true (optS bs true (hdSt bs) 4095).2 281474976710655).2).1 (spS bs (optS bs true (optS bs true (hdSt bs) 4095).2 281474976710655).2).2.1 (optS bs (hasF (hdK bs) 0) (spS bs (optS bs true (optS bs true (hdSt bs) 4095).2 281474976710655).2).2.2 65535).1 (optS bs (hasF (hdK bs) 1) (optS bs (hasF (hdK bs) 0) (spS bs (optS bs true (optS bs true (hdSt bs) 4095).2 281474976710655).2).2.2 65535).2 4095).1 (optS bs (hasF (hdK bs) 2) (optS bs (hasF (hdK bs) 1) (optS bs (hasF (hdK bs) 0) (spS bs (optS bs true (optS bs true (hdSt bs) 4095).2 281474976710655).2).2.2 65535).2 4095).2 281474976710655).1 (optS bs (hasF (hdK bs) 2) (optS bs (hasF (hdK bs) 2) (optS bs (hasF (hdK bs) 1) (optS bs (hasF (hdK bs) 0) (spS bs (optS bs true (optS bs true (hdSt bs) 4095).2 281474976710655).2).2.2 65535).2 4095).2 281474976710655).2 65535).1 b [] = true
  ·rw [if_pos hv, if_neg (by rw [Bool.not_eq_true, Bool.not_eq_false']; exact hv)]
   exact ⟨rfl, hn, hv⟩
  ·rw [if_neg hv, if_pos (by simpa using hv)]
   exact ⟨_, _, _, _, _, _, _, _, _, _, _, _, rfl⟩
def endM (b : List Int) (k f i lo hi s t l e bb : Int) (recs : LR) (a : Nat) : M12 :=
 if a = b.length ∧ b.length ≤ 65499 ∧ validF k f i lo hi s t l e bb recs = true then (k, f, i, lo, hi, s, t, l, e, bb, recs, 0) else z12 4
theorem dec_end (fuel : Nat) (b : List Int) (base : LR) (hb : inB b = true) (k : Nat) (bs2 : LR) (n last i : Int) (a : Nat) (ha : a ≤ b.length) (hi : ¬ i < n) (kk f ii lo hi' s t l e bb : Int) (recs : LR) (hr : smallRecs recs = true) :
  gen3_Decode.l11 fuel b base (k + 1) bs2 n last i false b (a : Int) false kk f ii lo hi' s t l e bb recs = some (endM b kk f ii lo hi' s t l e bb recs a) := by
 rw [gen3_Decode.l11]
 unfold gen3_Decode.b11 endM
 rw [if_neg (c := decide (i < n) = true) (by simpa using hi), if_neg (c := false = true) (by simp), if_pos (c := atOk b (a : Int) = true) ((atOk_iff _ _).2 ⟨hb, by omega, by omega⟩)]
 unfold leftF
 rw [if_neg (c := false = true) (by simp), hr, if_pos (c := true = true) rfl]
 by_cases h1 : a = b.length
 ·rw [if_neg (c := (!(!false && ((b.length : Int) - (a : Int) == 0))) = true) (by simp; omega)]
  by_cases h2 : b.length ≤ 65499
  ·rw [if_neg (c := decide ((b.length : Int) > 65499) = true) (by simp; omega)]
   cases hv : validF kk f ii lo hi' s t l e bb recs with
   | true => rw [if_neg (c := (!true) = true) (by simp), if_pos ⟨h1, h2, rfl⟩]
   | false => rw [if_pos (c := (!false) = true) rfl, if_neg (by simp)]; all_goals rfl
  ·rw [if_pos (c := decide ((b.length : Int) > 65499) = true) (by simp; omega), if_neg (by omega)]; all_goals rfl
 ·rw [if_pos (c := (!(!false && ((b.length : Int) - (a : Int) == 0))) = true) (by simp; omega), if_neg (fun h => h1 h.1)]; all_goals rfl
theorem dec_wrong (fuel : Nat) (b : List Int) (base : LR) (k : Nat) (bs2 : LR) (n last i : Int) (bs : List Int) (a : Int) (bad : Bool) (kk f ii lo hi' s t l e bb : Int) (recs : LR) :
  gen3_Decode.l11 fuel b base (k + 1) bs2 n last i true bs a bad kk f ii lo hi' s t l e bb recs = some (z12 4) := by
 rw [gen3_Decode.l11]
 unfold gen3_Decode.b11
 by_cases h : i < n
 ·rw [if_pos (c := decide (i < n) = true) (by simpa using h)]; all_goals rfl
 ·rw [if_neg (c := decide (i < n) = true) (by simpa using h)]; all_goals rfl
theorem dec_loop (fuel : Nat) (b : List Int) (base : LR) (hb : inB b = true) (bs2 : LR) (hbase : ∀ x ∈ bs2, recOkT x = true) (hbn : bs2.length < 1000000000) (n : Nat) (hn : n ≤ 255) (kk f ii lo hi s t l e bb : Int) : ∀ (m k i : Nat) (last : Int) (a : Nat) (out : LR), i + m = n → m < k → -1 ≤ last → last ≤ 4096 * (i : Int) → a ≤ b.length → out.length ≤ i → (∀ r ∈ out, smallBag r.2.2.2.2.2 = true) →
  gen3_Decode.l11 fuel b base k bs2 (n : Int) last (i : Int) false b (a : Int) false kk f ii lo hi s t l e bb out = some (match recsS b bs2 m last a with
   | none => z12 4
   | some (rs, a2) => endM b kk f ii lo hi s t l e bb (out ++ rs) a2) := by
 obtain ⟨hl, hc⟩ := (inB_iff b).1 hb
 intro m
 induction m with
 | zero =>
  intro k i last a out hi' hk h1 h2 ha ho hs
  obtain ⟨k, rfl⟩ : ∃ k', k = k' + 1 := ⟨k - 1, by omega⟩
  rw [dec_end fuel b base hb k bs2 _ _ _ a ha (by omega) _ _ _ _ _ _ _ _ _ _ out ((smallRecs_iff _).2 ⟨by omega, hs⟩), recsS]
  dsimp only
  rw [List.append_nil]
 | succ m ih =>
  intro k i last a out hi' hk h1 h2 ha ho hs
  obtain ⟨k, rfl⟩ : ∃ k', k = k' + 2 := ⟨k - 2, by omega⟩
  have h3 := one_good b hb last h1 (by omega) bs2 hbase hbn a ha
  rw [show k + 2 = (k + 1) + 1 from rfl, gen3_Decode.l11, recsS]
  unfold gen3_Decode.b11
  simp only [veil_eq]
  rw [if_pos (c := decide ((i : Int) < (n : Int)) = true) (by simp; omega), if_pos (c := (!false) = true) rfl]
  have hw : IntKind.wrap .i64 ((i : Int) + 1) = ((i + 1 : Nat) : Int) := by rw [wrap_small _ (by omega) (by omega)]; omega
  have hlim : ∀ x : REC, (out.length + ([x] : LR).length) * 72 ≤ lim := fun x => by simp [lim]; omega
  cases hr : recS b bs2 last a with
  | none =>
   rw [hr] at h3
   obtain ⟨id, inc, st, l1, l2, cut, bag, a', bad', h3, h4⟩ := h3
   rw [h3]
   dsimp only
   rw [if_pos (hlim _)]
   exact dec_wrong fuel b base k bs2 _ _ _ _ _ _ _ _ _ _ _ _ _ _ _ _ _
  | some p =>
   obtain ⟨r, a2⟩ := p
   rw [hr] at h3
   dsimp only at h3 ⊢
   obtain ⟨_, l2, g1, g2⟩ := recS_sound hc hr
   have hsm := recS_small hc hbase hr
   rw [h3]
   dsimp only
   rw [if_pos (hlim _), hw, ih (k + 1) (i + 1) r.1 a2 (out ++ [r]) (by omega) (by omega) (by omega) (by omega) l2 (by simp; omega) (fun x hx => by
    rcases List.mem_append.1 hx with h | h
    ·exact hs x h
    ·rw [List.mem_singleton.1 h]; exact hsm)]
   cases recsS b bs2 m r.1 a2 with
   | none => rfl
   | some q =>
    obtain ⟨rs, a3⟩ := q
    dsimp only
    rw [List.append_assoc]
    all_goals rfl
theorem risen_len : ∀ (l : LR) (last : Int), (∀ r ∈ l, r.1 ≤ 4095) → risen last l → -1 ≤ last → last ≤ 4095 → (l.length : Int) ≤ 4095 - last
 | [], last, _, _, _, h => by simp; omega
 | r :: l, last, h, h1, h2, h3 => by
  have := risen_len l r.1 (fun x hx => h x (List.mem_cons_of_mem _ hx)) h1.2 (by have := h1.1; omega) (h r (List.mem_cons_self ..))
  have := h1.1
  simp
  omega
theorem sorted_len {l : LR} (h : sortedF l = true) : l.length < 1000000000 := by
 obtain ⟨h1, h2⟩ := sorted_facts h
 have := risen_len l (-1) (fun r hr => (recOk_facts (h1 r hr)).2.1) h2 (by omega) (by omega)
 omega
theorem Dec3.pure (b : List Int) (base : LR) (hb : inB b = true) (hs : smallRecs base = true) : gen3_Decode.f BIG b base = some (dec3 b base) := by
 obtain ⟨hl, hc⟩ := (inB_iff b).1 hb
 unfold gen3_Decode.f gen3_Decode.b dec3
 simp only [veil_eq]
 rw [hs, hb]
 cases hso : sortedF base with
 | false => rfl
 | true =>
  obtain ⟨hbase, hris⟩ := sorted_facts hso
  have hbn := sorted_len hso
  have hh := headR.pure b hb
  rw [if_pos (c := true = true) rfl, if_neg (c := (!true) = true) (by simp), if_pos (c := true = true) rfl]
  unfold decS
  cases hd : hdS b with
  | none =>
   rw [hd] at hh
   obtain ⟨k, f, i, lo, hi, s, t, l, e, bb, a, bad, hh⟩ := hh
   rw [hh]
   dsimp only
   have hfw : ∀ m, gen3_reader_form.f BIG b a bad true m = some (0, true, b, a, bad) := fun m => form_wrong b a bad m
   have hdw : ∀ (bs2 : LR) (n last i1 : Int) (bs : List Int) (a1 : Int) (bad1 : Bool) (kk f1 i2 lo1 hi1 s1 t1 l1 e1 b1 : Int) (recs : LR), gen3_Decode.l11 BIG b base BIG bs2 n last i1 true bs a1 bad1 kk f1 i2 lo1 hi1 s1 t1 l1 e1 b1 recs = some (z12 4) := by
    intro bs2 n last i1 bs a1 bad1 kk f1 i2 lo1 hi1 s1 t1 l1 e1 b1 recs
    have := dec_wrong BIG b base (BIG - 1) bs2 n last i1 bs a1 bad1 kk f1 i2 lo1 hi1 s1 t1 l1 e1 b1 recs
    rw [← big_eq] at this
    exact this
   simp only [hfw, hdw]
   cases (bb == 0) <;> cases hasF k 4 <;> rfl
  | some p =>
   obtain ⟨k, f, i, lo, hi, s, t, l, e, bb, a⟩ := p
   rw [hd] at hh
   dsimp only at hh ⊢
   obtain ⟨hh, l1, hv⟩ := hh
   rw [hh]
   dsimp only
   have key : (if hasF k 4 = true then (match gen3_reader_form.f BIG b (a : Int) false false 255 with
      | none => none
      | some y1 => gen3_Decode.l11 BIG b base BIG (baseF bb base) y1.1 (-1) 0 y1.2.1 y1.2.2.1 y1.2.2.2.1 y1.2.2.2.2 k f i lo hi s t l e bb []) else some (endM b k f i lo hi s t l e bb [] a)) =
     some (match (match restS b (baseF bb base) k a with
      | none => none
      | some (rs, a2) => if a2 = b.length ∧ b.length ≤ 65499 ∧ validF k f i lo hi s t l e bb rs = true then some (k, f, i, lo, hi, s, t, l, e, bb, rs) else none) with
      | none => z12 4
      | some m => okM m) := by
    unfold restS
    cases h4 : hasF k 4 with
    | false =>
     rw [if_neg (by simp), if_neg (by simp)]
     dsimp only
     unfold endM
     split <;> rfl
    | true =>
     rw [if_pos rfl, if_pos rfl]
     have hg := form_good b a 255 hb (by decide) (by decide) l1
     cases ht : tk b a 255 with
     | none =>
      rw [ht] at hg
      obtain ⟨a', bad, hg, h2⟩ := hg
      rw [hg]
      dsimp only
      rw [big_eq]
      exact dec_wrong _ b base _ _ _ _ _ _ _ _ _ _ _ _ _ _ _ _ _ _ _
     | some w =>
      obtain ⟨n, a1⟩ := w
      rw [ht] at hg
      dsimp only at hg ⊢
      obtain ⟨_, n0, n1, _, _, l2⟩ := tk_facts hc ht
      rw [hg]
      dsimp only
      have hbl : (baseF bb base).length < 1000000000 := by
       unfold baseF
       split
       ·simp
       ·exact hbn
      have := dec_loop BIG b base hb (baseF bb base) (baseF_all hbase bb) hbl n.toNat (by omega) k f i lo hi s t l e bb n.toNat BIG 0 (-1) a1 [] (by omega) (by rw [BIG_eq]; omega) (by omega) (by omega) l2 (by simp) (by simp)
      rw [show ((n.toNat : Nat) : Int) = n from by omega] at this
      rw [show ((0 : Nat) : Int) = 0 from rfl] at this
      rw [this]
      cases recsS b (baseF bb base) n.toNat (-1) a1 with
      | none => rfl
      | some q =>
       obtain ⟨rs, a3⟩ := q
       dsimp only
       rw [List.nil_append]
       unfold endM
       split <;> rfl
   have hend : (if atOk b (a : Int) = true then (if (!(!false && (leftF b (a : Int) false == 0))) = true then some (z12 4) else if decide (((b.length : Nat) : Int) > 65499) = true then some (z12 4) else if (!validF k f i lo hi s t l e bb []) = true then some (z12 4) else some (k, f, i, lo, hi, s, t, l, e, bb, [], 0)) else none) = some (endM b k f i lo hi s t l e bb [] a) := by
    have := dec_end 0 b base hb 0 [] 0 0 0 a l1 (by omega) k f i lo hi s t l e bb [] rfl
    rw [← this, gen3_Decode.l11]
    unfold gen3_Decode.b11
    rfl
   refine Eq.trans ?_ key
   unfold baseF
   cases (bb == 0) <;> cases hasF k 4 <;> first | exact hend | rfl
theorem HeadX.pure {bs : List Int} (hb : inB bs = true) : gen3_Head.f BIG bs = some (head3X bs) := Head3.pure hb
theorem small_nil : smallRecs [] = true := rfl
theorem all_nil : allGo [] [] = true := rfl
def xlate_Peek_E : Env := ⟨th, gam [(54, s_gen3_Head), (16, s_msg_Head), (19, s_xlate_Decode)], fun i => ⟨[], [], []⟩⟩
def xlate_Peek.k (rs : List AV) (os : List Den.Obj) : Option (Int × Int × Int × Int × Int × Int × Int × Int × Int × Int × LR × Int) :=
 match rs, os with
 | [.agg [.d (.int .i64) r0, .d (.int .i64) r1, .d (.int .i64) r2, .d (.int .i64) r3, .d (.int .i64) r4, .d (.int .i64) r5, .d (.int .i64) r6, .d (.int .i64) r7, .d (.int .i64) r8, .d (.int .i64) r9, .d (.sl (.pair (.int .i64) (.pair (.int .i64) (.pair (.int .i64) (.pair (.pair (.int .i64) (.int .i64)) (.pair .bool (.sl (.pair (.int .i64) (.sl (.int .u8)))))))))) r10], .d (.int .i64) r11], [] => some (r0, r1, r2, r3, r4, r5, r6, r7, r8, r9, r10, r11)
 | _, _ => none
def xlate_Peek.b (gen : Int) (b : List Int) : Option (Int × Int × Int × Int × Int × Int × Int × Int × Int × Int × LR × Int) :=
 (if (gen == (3 : Int)) then (match (veil (gen3_Head.f BIG b)) with | none => none | some y0 => some (y0.1, y0.2.1, y0.2.2.1, y0.2.2.2.1, y0.2.2.2.2.1, y0.2.2.2.2.2.1, y0.2.2.2.2.2.2.1, y0.2.2.2.2.2.2.2.1, y0.2.2.2.2.2.2.2.2.1, y0.2.2.2.2.2.2.2.2.2.1, y0.2.2.2.2.2.2.2.2.2.2.1, y0.2.2.2.2.2.2.2.2.2.2.2)) else (match (veil (xlate_Decode.f BIG gen b ([] : LR))) with | none => none | some y1 => (match (veil (msg_Head.f BIG y1.1 y1.2.1 y1.2.2.1 y1.2.2.2.1 y1.2.2.2.2.1 y1.2.2.2.2.2.1 y1.2.2.2.2.2.2.1 y1.2.2.2.2.2.2.2.1 y1.2.2.2.2.2.2.2.2.1 y1.2.2.2.2.2.2.2.2.2.1 y1.2.2.2.2.2.2.2.2.2.2.1)) with | none => none | some y2 => some (y2.1, y2.2.1, y2.2.2.1, y2.2.2.2.1, y2.2.2.2.2.1, y2.2.2.2.2.2.1, y2.2.2.2.2.2.2.1, y2.2.2.2.2.2.2.2.1, y2.2.2.2.2.2.2.2.2.1, y2.2.2.2.2.2.2.2.2.2.1, y2.2.2.2.2.2.2.2.2.2.2, y1.2.2.2.2.2.2.2.2.2.2.2))))
def xlate_Peek.f (fuel : Nat) (gen : Int) (b : List Int) : Option (Int × Int × Int × Int × Int × Int × Int × Int × Int × Int × LR × Int) := xlate_Peek.b gen b
theorem xlate_Peek.eq (fuel : Nat) (gen : Int) (b : List Int) : (denF xlate_Peek_E loopN fuel Tryz.f32 [.dat (.pair (.int .i64) (.pair (.int .i64) (.pair (.int .i64) (.pair (.pair (.int .i64) (.int .i64)) (.pair (.int .i64) (.pair (.int .i64) (.pair (.int .i64) (.pair (.int .i64) (.pair (.int .i64) (.sl (.pair (.int .i64) (.pair (.int .i64) (.pair (.int .i64) (.pair (.pair (.int .i64) (.int .i64)) (.pair .bool (.sl (.pair (.int .i64) (.sl (.int .u8))))))))))))))))))) true, .raw] [.d (.int .i64) gen, .d (.sl (.int .u8)) b] [] xlate_Peek.k) = xlate_Peek.f fuel gen b := by
 kernel_rfl
def s_xlate_Peek : Den.Sum := ⟨[.raw, .dat (.sl (.int .u8)) false], fun args objs κ => match args, objs with
 | [.d (.int .i64) gen, .d (.sl (.int .u8)) b], [] => (match veil (xlate_Peek.f BIG gen b) with | none => none | some y => κ [.agg [.d (.int .i64) y.1, .d (.int .i64) y.2.1, .d (.int .i64) y.2.2.1, .d (.int .i64) y.2.2.2.1, .d (.int .i64) y.2.2.2.2.1, .d (.int .i64) y.2.2.2.2.2.1, .d (.int .i64) y.2.2.2.2.2.2.1, .d (.int .i64) y.2.2.2.2.2.2.2.1, .d (.int .i64) y.2.2.2.2.2.2.2.2.1, .d (.int .i64) y.2.2.2.2.2.2.2.2.2.1, .d (.sl (.pair (.int .i64) (.pair (.int .i64) (.pair (.int .i64) (.pair (.pair (.int .i64) (.int .i64)) (.pair .bool (.sl (.pair (.int .i64) (.sl (.int .u8)))))))))) y.2.2.2.2.2.2.2.2.2.2.1], .d (.int .i64) y.2.2.2.2.2.2.2.2.2.2.2] [])
 | _, _ => none⟩
theorem s_xlate_Peek_det : SumDet s_xlate_Peek := fun avs objs R κ => by
 show s_xlate_Peek.run avs objs (two κ) = (s_xlate_Peek.run avs objs (two some)).bind κ
 unfold s_xlate_Peek
 simp only [veil_eq]
 split
 ·split <;> rfl
 ·rfl
theorem s_xlate_Peek_ok : SumOk Tryz.prog 32 s_xlate_Peek := by
 have hE : EnvOk Tryz.prog xlate_Peek_E := env_ok (l := [(54, s_gen3_Head), (16, s_msg_Head), (19, s_xlate_Decode)]) th_ok any_ok ⟨⟨s_gen3_Head_ok, s_gen3_Head_det⟩, ⟨s_msg_Head_ok, s_msg_Head_det⟩, ⟨s_xlate_Decode_ok, s_xlate_Decode_det⟩, trivial⟩ _
 refine sum_ok hE Tryz.func32 rfl (by kernel_rfl) s_xlate_Peek [.dat (.pair (.int .i64) (.pair (.int .i64) (.pair (.int .i64) (.pair (.pair (.int .i64) (.int .i64)) (.pair (.int .i64) (.pair (.int .i64) (.pair (.int .i64) (.pair (.int .i64) (.pair (.int .i64) (.sl (.pair (.int .i64) (.pair (.int .i64) (.pair (.int .i64) (.pair (.pair (.int .i64) (.int .i64)) (.pair .bool (.sl (.pair (.int .i64) (.sl (.int .u8))))))))))))))))))) true, .raw] xlate_Peek.k ?_
 intro R avs objs κ r h
 unfold s_xlate_Peek at h
 simp only [veil_eq] at h
 split at h
 ·rename_i gen b
  split at h
  ·cases h
  ·rename_i y hy
   refine ⟨BIG, _, _, _, (xlate_Peek.eq BIG gen b).trans hy, ?_, h⟩
   intro rs ros hk
   unfold xlate_Peek.k at hk
   split at hk
   ·first | (cases hk; exact ⟨rfl, rfl⟩) | (have e := Option.some.inj hk; rw [← e]; exact ⟨rfl, rfl⟩)
   ·cases hk
 ·cases h
theorem XEnc.pure (gen k f i lo hi s t l e b : Int) (recs base : LR) (hr : smallRecs recs = true) (hl : smallRecs base = true) (hln : base.length < 1000000000) :
  xlate_Encode.f BIG gen k f i lo hi s t l e b recs base = some (writeX gen k f i lo hi s t l e b recs base) := by
 refine gen_cases (gen := gen) (fun gen => xlate_Encode.f BIG gen k f i lo hi s t l e b recs base = some (writeX gen k f i lo hi s t l e b recs base)) ?_ ?_ ?_ ?_
 ·rw [writeX1]
  unfold xlate_Encode.f xlate_Encode.b
  simp only [veil_eq]
  rw [if_pos (c := ((1 : Int) == 1) = true) rfl]
  unfold xlate_of_c1.f xlate_of_c1.b
  rw [hr]
  all_goals rfl
 ·rw [writeX2]
  unfold xlate_Encode.f xlate_Encode.b
  simp only [veil_eq]
  rw [if_neg (c := ((2 : Int) == 1) = true) (by decide), if_pos (c := ((2 : Int) == 2) = true) rfl]
  unfold xlate_of_c3.f xlate_of_c3.b
  rw [hr]
  all_goals rfl
 ·rw [writeX3]
  unfold xlate_Encode.f xlate_Encode.b
  simp only [veil_eq]
  rw [if_neg (c := ((3 : Int) == 1) = true) (by decide), if_neg (c := ((3 : Int) == 2) = true) (by decide), if_pos (c := ((3 : Int) == 3) = true) rfl, Enc3.pure k f i lo hi s t l e b recs base hr hl hln]
 ·intro h1 h2 h3
  rw [writeX0 h1 h2 h3]
  unfold xlate_Encode.f xlate_Encode.b
  simp only [veil_eq]
  rw [if_neg (c := (gen == 1) = true) (by simpa using h1), if_neg (c := (gen == 2) = true) (by simpa using h2), if_neg (c := (gen == 3) = true) (by simpa using h3)]
theorem XDec.pure (gen : Int) (b : List Int) (base : LR) (hb : isB b) (hl : b.length < 1000000000) (hs : smallRecs base = true) :
  xlate_Decode.f BIG gen b base = some (readX gen b base) := by
 have hin : inB b = true := (inB_iff b).2 ⟨by omega, hb⟩
 have his : inS b = true := inS_of hb hl
 refine gen_cases (gen := gen) (fun gen => xlate_Decode.f BIG gen b base = some (readX gen b base)) ?_ ?_ ?_ ?_
 ·rw [readX1]
  unfold xlate_Decode.f xlate_Decode.b
  simp only [veil_eq]
  rw [if_pos (c := ((1 : Int) == 1) = true) rfl]
  unfold xlate_of_c2.f xlate_of_c2.b
  simp only [veil_eq]
  rw [hin]
  all_goals rfl
 ·rw [readX2]
  unfold xlate_Decode.f xlate_Decode.b
  simp only [veil_eq]
  rw [if_neg (c := ((2 : Int) == 1) = true) (by decide), if_pos (c := ((2 : Int) == 2) = true) rfl]
  unfold xlate_of_c4.f xlate_of_c4.b
  simp only [veil_eq]
  rw [his]
  all_goals rfl
 ·rw [readX3]
  unfold xlate_Decode.f xlate_Decode.b
  simp only [veil_eq]
  rw [if_neg (c := ((3 : Int) == 1) = true) (by decide), if_neg (c := ((3 : Int) == 2) = true) (by decide), if_pos (c := ((3 : Int) == 3) = true) rfl, Dec3.pure b base hin hs]
 ·intro h1 h2 h3
  unfold xlate_Decode.f xlate_Decode.b
  simp only [veil_eq]
  unfold readX
  simp only [show (gen == 1) = false from by simpa using h1, show (gen == 2) = false from by simpa using h2, show (gen == 3) = false from by simpa using h3, Bool.false_eq_true, if_false]
  all_goals rfl
theorem XPeek.pure (gen : Int) (b : List Int) (hb : isB b) (hl : b.length < 1000000000) : xlate_Peek.f BIG gen b = some (peekX gen b) := by
 have hin : inB b = true := (inB_iff b).2 ⟨by omega, hb⟩
 unfold xlate_Peek.f xlate_Peek.b peekX
 simp only [veil_eq]
 cases h3 : gen == 3
 ·simp only [Bool.false_eq_true, if_false]
  rw [XDec.pure gen b [] hb hl rfl]
  all_goals rfl
 ·simp only [if_true]
  rw [HeadX.pure hin]
def parcel_Seal_E : Env := ⟨th, gam [(13, s_msg_Greets), (29, s_xlate_Encode), (30, s_frame_Seal)], fun i => ⟨[], [], []⟩⟩
def parcel_Seal.k (rs : List AV) (os : List Den.Obj) : Option ((List Int) × Int) :=
 match rs, os with
 | [.d (.sl (.int .u8)) r0, .d (.int .i64) r1], [] => some (r0, r1)
 | _, _ => none
def parcel_Seal.b (gen mKind mFrom mInc mSpanLo mSpanHi mSeq mTarget mLife mEpoch mBase : Int) (mRecs base : LR) : Option ((List Int) × Int) :=
 (match (veil (msg_Greets.f BIG mKind)) with | none => none | some y0 => (if y0 then (if (gen != (1 : Int)) then some (([] : List Int), (10 : Int)) else (match (veil (xlate_Encode.f BIG gen mKind mFrom mInc mSpanLo mSpanHi mSeq mTarget mLife mEpoch mBase mRecs base)) with | none => none | some y1 => (if (y1.2 != (0 : Int)) then some (([] : List Int), y1.2) else (match (veil (frame_Seal.f BIG gen y1.1)) with | none => none | some y2 => some (y2.1, y2.2))))) else (match (veil (xlate_Encode.f BIG gen mKind mFrom mInc mSpanLo mSpanHi mSeq mTarget mLife mEpoch mBase mRecs base)) with | none => none | some y3 => (if (y3.2 != (0 : Int)) then some (([] : List Int), y3.2) else (match (veil (frame_Seal.f BIG gen y3.1)) with | none => none | some y4 => some (y4.1, y4.2))))))
def parcel_Seal.f (fuel : Nat) (gen mKind mFrom mInc mSpanLo mSpanHi mSeq mTarget mLife mEpoch mBase : Int) (mRecs base : LR) : Option ((List Int) × Int) := parcel_Seal.b gen mKind mFrom mInc mSpanLo mSpanHi mSeq mTarget mLife mEpoch mBase mRecs base
theorem parcel_Seal.eq (fuel : Nat) (gen mKind mFrom mInc mSpanLo mSpanHi mSeq mTarget mLife mEpoch mBase : Int) (mRecs base : LR) : (denF parcel_Seal_E loopN fuel Tryz.f10 [.dat (.sl (.int .u8)) false, .raw] [.d (.int .i64) gen, .agg [.d (.int .i64) mKind, .d (.int .i64) mFrom, .d (.int .i64) mInc, .d (.int .i64) mSpanLo, .d (.int .i64) mSpanHi, .d (.int .i64) mSeq, .d (.int .i64) mTarget, .d (.int .i64) mLife, .d (.int .i64) mEpoch, .d (.int .i64) mBase, .d (.sl (.pair (.int .i64) (.pair (.int .i64) (.pair (.int .i64) (.pair (.pair (.int .i64) (.int .i64)) (.pair .bool (.sl (.pair (.int .i64) (.sl (.int .u8)))))))))) mRecs], .d (.sl (.pair (.int .i64) (.pair (.int .i64) (.pair (.int .i64) (.pair (.pair (.int .i64) (.int .i64)) (.pair .bool (.sl (.pair (.int .i64) (.sl (.int .u8)))))))))) base] [] parcel_Seal.k) = parcel_Seal.f fuel gen mKind mFrom mInc mSpanLo mSpanHi mSeq mTarget mLife mEpoch mBase mRecs base := by
 kernel_rfl
def s_parcel_Seal : Den.Sum := ⟨[.raw, .dat (.pair (.int .i64) (.pair (.int .i64) (.pair (.int .i64) (.pair (.pair (.int .i64) (.int .i64)) (.pair (.int .i64) (.pair (.int .i64) (.pair (.int .i64) (.pair (.int .i64) (.pair (.int .i64) (.sl (.pair (.int .i64) (.pair (.int .i64) (.pair (.int .i64) (.pair (.pair (.int .i64) (.int .i64)) (.pair .bool (.sl (.pair (.int .i64) (.sl (.int .u8))))))))))))))))))) true, .dat (.sl (.pair (.int .i64) (.pair (.int .i64) (.pair (.int .i64) (.pair (.pair (.int .i64) (.int .i64)) (.pair .bool (.sl (.pair (.int .i64) (.sl (.int .u8)))))))))) false], fun args objs κ => match args, objs with
 | [.d (.int .i64) gen, .agg [.d (.int .i64) mKind, .d (.int .i64) mFrom, .d (.int .i64) mInc, .d (.int .i64) mSpanLo, .d (.int .i64) mSpanHi, .d (.int .i64) mSeq, .d (.int .i64) mTarget, .d (.int .i64) mLife, .d (.int .i64) mEpoch, .d (.int .i64) mBase, .d (.sl (.pair (.int .i64) (.pair (.int .i64) (.pair (.int .i64) (.pair (.pair (.int .i64) (.int .i64)) (.pair .bool (.sl (.pair (.int .i64) (.sl (.int .u8)))))))))) mRecs], .d (.sl (.pair (.int .i64) (.pair (.int .i64) (.pair (.int .i64) (.pair (.pair (.int .i64) (.int .i64)) (.pair .bool (.sl (.pair (.int .i64) (.sl (.int .u8)))))))))) base], [] => (match veil (parcel_Seal.f BIG gen mKind mFrom mInc mSpanLo mSpanHi mSeq mTarget mLife mEpoch mBase mRecs base) with | none => none | some y => κ [.d (.sl (.int .u8)) y.1, .d (.int .i64) y.2] [])
 | _, _ => none⟩
theorem s_parcel_Seal_det : SumDet s_parcel_Seal := fun avs objs R κ => by
 show s_parcel_Seal.run avs objs (two κ) = (s_parcel_Seal.run avs objs (two some)).bind κ
 unfold s_parcel_Seal
 simp only [veil_eq]
 split
 ·split <;> rfl
 ·rfl
theorem s_parcel_Seal_ok : SumOk Tryz.prog 10 s_parcel_Seal := by
 have hE : EnvOk Tryz.prog parcel_Seal_E := env_ok (l := [(13, s_msg_Greets), (29, s_xlate_Encode), (30, s_frame_Seal)]) th_ok any_ok ⟨⟨s_msg_Greets_ok, s_msg_Greets_det⟩, ⟨s_xlate_Encode_ok, s_xlate_Encode_det⟩, ⟨s_frame_Seal_ok, s_frame_Seal_det⟩, trivial⟩ _
 refine sum_ok hE Tryz.func10 rfl (by kernel_rfl) s_parcel_Seal [.dat (.sl (.int .u8)) false, .raw] parcel_Seal.k ?_
 intro R avs objs κ r h
 unfold s_parcel_Seal at h
 simp only [veil_eq] at h
 split at h
 ·rename_i gen mKind mFrom mInc mSpanLo mSpanHi mSeq mTarget mLife mEpoch mBase mRecs base
  split at h
  ·cases h
  ·rename_i y hy
   refine ⟨BIG, _, _, _, (parcel_Seal.eq BIG gen mKind mFrom mInc mSpanLo mSpanHi mSeq mTarget mLife mEpoch mBase mRecs base).trans hy, ?_, h⟩
   intro rs ros hk
   unfold parcel_Seal.k at hk
   split at hk
   ·first | (cases hk; exact ⟨rfl, rfl⟩) | (have e := Option.some.inj hk; rw [← e]; exact ⟨rfl, rfl⟩)
   ·cases hk
 ·cases h
def parcel_Open_E : Env := ⟨th, gam [(12, s_span_Has), (13, s_msg_Greets), (31, s_frame_Open), (32, s_xlate_Peek)], fun i => ⟨[], [], []⟩⟩
def parcel_Open.k (rs : List AV) (os : List Den.Obj) : Option (Int × Int × Int × Int × Int × Int × Int × Int × Int × Int × LR × Int × (List Int) × Int) :=
 match rs, os with
 | [.agg [.d (.int .i64) r0, .d (.int .i64) r1, .d (.int .i64) r2, .d (.int .i64) r3, .d (.int .i64) r4, .d (.int .i64) r5, .d (.int .i64) r6, .d (.int .i64) r7, .d (.int .i64) r8, .d (.int .i64) r9, .d (.sl (.pair (.int .i64) (.pair (.int .i64) (.pair (.int .i64) (.pair (.pair (.int .i64) (.int .i64)) (.pair .bool (.sl (.pair (.int .i64) (.sl (.int .u8)))))))))) r10, .d (.int .i64) r11, .d (.sl (.int .u8)) r12], .d (.int .i64) r13], [] => some (r0, r1, r2, r3, r4, r5, r6, r7, r8, r9, r10, r11, r12, r13)
 | _, _ => none
def parcel_Open.b (b : List Int) (ownLo ownHi : Int) : Option (Int × Int × Int × Int × Int × Int × Int × Int × Int × Int × LR × Int × (List Int) × Int) :=
 (match (veil (frame_Open.f BIG b)) with | none => none | some y0 => (if (y0.2.2 != (0 : Int)) then some (0, 0, 0, 0, 0, 0, 0, 0, 0, 0, ([] : LR), 0, ([] : List Int), y0.2.2) else (match (veil (xlate_Peek.f BIG y0.1 y0.2.1)) with | none => none | some y1 => (if (y1.2.2.2.2.2.2.2.2.2.2.2 == (0 : Int)) then (match (veil (msg_Greets.f BIG y1.1)) with | none => none | some y2 => (match (veil (span_Has.f BIG ownLo ownHi y0.1)) with | none => none | some y3 => (if (!y3) then (if (y0.1 != (1 : Int)) then some (0, 0, 0, 0, 0, 0, 0, 0, 0, 0, ([] : LR), y0.1, ([] : List Int), (9 : Int)) else (if (!y2) then some (0, 0, 0, 0, 0, 0, 0, 0, 0, 0, ([] : LR), y0.1, ([] : List Int), (9 : Int)) else (if (y1.2.2.2.2.2.2.2.2.2.2.2 != (0 : Int)) then some (0, 0, 0, 0, 0, 0, 0, 0, 0, 0, ([] : LR), 0, ([] : List Int), y1.2.2.2.2.2.2.2.2.2.2.2) else (if y2 then (if (y0.1 != (1 : Int)) then some (0, 0, 0, 0, 0, 0, 0, 0, 0, 0, ([] : LR), 0, ([] : List Int), (10 : Int)) else some (y1.1, y1.2.1, y1.2.2.1, y1.2.2.2.1, y1.2.2.2.2.1, y1.2.2.2.2.2.1, y1.2.2.2.2.2.2.1, y1.2.2.2.2.2.2.2.1, y1.2.2.2.2.2.2.2.2.1, y1.2.2.2.2.2.2.2.2.2.1, y1.2.2.2.2.2.2.2.2.2.2.1, y0.1, y0.2.1, (0 : Int))) else some (y1.1, y1.2.1, y1.2.2.1, y1.2.2.2.1, y1.2.2.2.2.1, y1.2.2.2.2.2.1, y1.2.2.2.2.2.2.1, y1.2.2.2.2.2.2.2.1, y1.2.2.2.2.2.2.2.2.1, y1.2.2.2.2.2.2.2.2.2.1, y1.2.2.2.2.2.2.2.2.2.2.1, y0.1, y0.2.1, (0 : Int)))))) else (if (y1.2.2.2.2.2.2.2.2.2.2.2 != (0 : Int)) then some (0, 0, 0, 0, 0, 0, 0, 0, 0, 0, ([] : LR), 0, ([] : List Int), y1.2.2.2.2.2.2.2.2.2.2.2) else (if y2 then (if (y0.1 != (1 : Int)) then some (0, 0, 0, 0, 0, 0, 0, 0, 0, 0, ([] : LR), 0, ([] : List Int), (10 : Int)) else some (y1.1, y1.2.1, y1.2.2.1, y1.2.2.2.1, y1.2.2.2.2.1, y1.2.2.2.2.2.1, y1.2.2.2.2.2.2.1, y1.2.2.2.2.2.2.2.1, y1.2.2.2.2.2.2.2.2.1, y1.2.2.2.2.2.2.2.2.2.1, y1.2.2.2.2.2.2.2.2.2.2.1, y0.1, y0.2.1, (0 : Int))) else some (y1.1, y1.2.1, y1.2.2.1, y1.2.2.2.1, y1.2.2.2.2.1, y1.2.2.2.2.2.1, y1.2.2.2.2.2.2.1, y1.2.2.2.2.2.2.2.1, y1.2.2.2.2.2.2.2.2.1, y1.2.2.2.2.2.2.2.2.2.1, y1.2.2.2.2.2.2.2.2.2.2.1, y0.1, y0.2.1, (0 : Int))))))) else (match (veil (span_Has.f BIG ownLo ownHi y0.1)) with | none => none | some y4 => (if (!y4) then (if (y0.1 != (1 : Int)) then some (0, 0, 0, 0, 0, 0, 0, 0, 0, 0, ([] : LR), y0.1, ([] : List Int), (9 : Int)) else some (0, 0, 0, 0, 0, 0, 0, 0, 0, 0, ([] : LR), y0.1, ([] : List Int), (9 : Int))) else (if (y1.2.2.2.2.2.2.2.2.2.2.2 != (0 : Int)) then some (0, 0, 0, 0, 0, 0, 0, 0, 0, 0, ([] : LR), 0, ([] : List Int), y1.2.2.2.2.2.2.2.2.2.2.2) else some (y1.1, y1.2.1, y1.2.2.1, y1.2.2.2.1, y1.2.2.2.2.1, y1.2.2.2.2.2.1, y1.2.2.2.2.2.2.1, y1.2.2.2.2.2.2.2.1, y1.2.2.2.2.2.2.2.2.1, y1.2.2.2.2.2.2.2.2.2.1, y1.2.2.2.2.2.2.2.2.2.2.1, y0.1, y0.2.1, (0 : Int)))))))))
def parcel_Open.f (fuel : Nat) (b : List Int) (ownLo ownHi : Int) : Option (Int × Int × Int × Int × Int × Int × Int × Int × Int × Int × LR × Int × (List Int) × Int) := parcel_Open.b b ownLo ownHi
theorem parcel_Open.eq (fuel : Nat) (b : List Int) (ownLo ownHi : Int) : (denF parcel_Open_E loopN fuel Tryz.f11 [.dat (.pair (.pair (.int .i64) (.pair (.int .i64) (.pair (.int .i64) (.pair (.pair (.int .i64) (.int .i64)) (.pair (.int .i64) (.pair (.int .i64) (.pair (.int .i64) (.pair (.int .i64) (.pair (.int .i64) (.sl (.pair (.int .i64) (.pair (.int .i64) (.pair (.int .i64) (.pair (.pair (.int .i64) (.int .i64)) (.pair .bool (.sl (.pair (.int .i64) (.sl (.int .u8))))))))))))))))))) (.pair (.int .i64) (.sl (.int .u8)))) true, .raw] [.d (.sl (.int .u8)) b, .agg [.d (.int .i64) ownLo, .d (.int .i64) ownHi]] [] parcel_Open.k) = parcel_Open.f fuel b ownLo ownHi := by
 kernel_rfl
def s_parcel_Open : Den.Sum := ⟨[.dat (.sl (.int .u8)) false, .dat (.pair (.int .i64) (.int .i64)) true], fun args objs κ => match args, objs with
 | [.d (.sl (.int .u8)) b, .agg [.d (.int .i64) ownLo, .d (.int .i64) ownHi]], [] => (match veil (parcel_Open.f BIG b ownLo ownHi) with | none => none | some y => κ [.agg [.d (.int .i64) y.1, .d (.int .i64) y.2.1, .d (.int .i64) y.2.2.1, .d (.int .i64) y.2.2.2.1, .d (.int .i64) y.2.2.2.2.1, .d (.int .i64) y.2.2.2.2.2.1, .d (.int .i64) y.2.2.2.2.2.2.1, .d (.int .i64) y.2.2.2.2.2.2.2.1, .d (.int .i64) y.2.2.2.2.2.2.2.2.1, .d (.int .i64) y.2.2.2.2.2.2.2.2.2.1, .d (.sl (.pair (.int .i64) (.pair (.int .i64) (.pair (.int .i64) (.pair (.pair (.int .i64) (.int .i64)) (.pair .bool (.sl (.pair (.int .i64) (.sl (.int .u8)))))))))) y.2.2.2.2.2.2.2.2.2.2.1, .d (.int .i64) y.2.2.2.2.2.2.2.2.2.2.2.1, .d (.sl (.int .u8)) y.2.2.2.2.2.2.2.2.2.2.2.2.1], .d (.int .i64) y.2.2.2.2.2.2.2.2.2.2.2.2.2] [])
 | _, _ => none⟩
theorem s_parcel_Open_det : SumDet s_parcel_Open := fun avs objs R κ => by
 show s_parcel_Open.run avs objs (two κ) = (s_parcel_Open.run avs objs (two some)).bind κ
 unfold s_parcel_Open
 simp only [veil_eq]
 split
 ·split <;> rfl
 ·rfl
theorem s_parcel_Open_ok : SumOk Tryz.prog 11 s_parcel_Open := by
 have hE : EnvOk Tryz.prog parcel_Open_E := env_ok (l := [(12, s_span_Has), (13, s_msg_Greets), (31, s_frame_Open), (32, s_xlate_Peek)]) th_ok any_ok ⟨⟨s_span_Has_ok, s_span_Has_det⟩, ⟨s_msg_Greets_ok, s_msg_Greets_det⟩, ⟨s_frame_Open_ok, s_frame_Open_det⟩, ⟨s_xlate_Peek_ok, s_xlate_Peek_det⟩, trivial⟩ _
 refine sum_ok hE Tryz.func11 rfl (by kernel_rfl) s_parcel_Open [.dat (.pair (.pair (.int .i64) (.pair (.int .i64) (.pair (.int .i64) (.pair (.pair (.int .i64) (.int .i64)) (.pair (.int .i64) (.pair (.int .i64) (.pair (.int .i64) (.pair (.int .i64) (.pair (.int .i64) (.sl (.pair (.int .i64) (.pair (.int .i64) (.pair (.int .i64) (.pair (.pair (.int .i64) (.int .i64)) (.pair .bool (.sl (.pair (.int .i64) (.sl (.int .u8))))))))))))))))))) (.pair (.int .i64) (.sl (.int .u8)))) true, .raw] parcel_Open.k ?_
 intro R avs objs κ r h
 unfold s_parcel_Open at h
 simp only [veil_eq] at h
 split at h
 ·rename_i b ownLo ownHi
  split at h
  ·cases h
  ·rename_i y hy
   refine ⟨BIG, _, _, _, (parcel_Open.eq BIG b ownLo ownHi).trans hy, ?_, h⟩
   intro rs ros hk
   unfold parcel_Open.k at hk
   split at hk
   ·first | (cases hk; exact ⟨rfl, rfl⟩) | (have e := Option.some.inj hk; rw [← e]; exact ⟨rfl, rfl⟩)
   ·cases hk
 ·cases h
def law30_open_E : Env := ⟨th, gam [(12, s_span_Has), (31, s_frame_Open), (32, s_xlate_Peek)], fun i => ⟨[], [], []⟩⟩
def law30_open.k (rs : List AV) (os : List Den.Obj) : Option (Int × Int × Int × Int × Int × Int × Int × Int × Int × Int × LR × Int × (List Int) × Int) :=
 match rs, os with
 | [.agg [.d (.int .i64) r0, .d (.int .i64) r1, .d (.int .i64) r2, .d (.int .i64) r3, .d (.int .i64) r4, .d (.int .i64) r5, .d (.int .i64) r6, .d (.int .i64) r7, .d (.int .i64) r8, .d (.int .i64) r9, .d (.sl (.pair (.int .i64) (.pair (.int .i64) (.pair (.int .i64) (.pair (.pair (.int .i64) (.int .i64)) (.pair .bool (.sl (.pair (.int .i64) (.sl (.int .u8)))))))))) r10, .d (.int .i64) r11, .d (.sl (.int .u8)) r12], .d (.int .i64) r13], [] => some (r0, r1, r2, r3, r4, r5, r6, r7, r8, r9, r10, r11, r12, r13)
 | _, _ => none
def law30_open.b (b : List Int) (ownLo ownHi : Int) : Option (Int × Int × Int × Int × Int × Int × Int × Int × Int × Int × LR × Int × (List Int) × Int) :=
 (match (veil (frame_Open.f BIG b)) with | none => none | some y0 => (if (y0.2.2 != (0 : Int)) then some (0, 0, 0, 0, 0, 0, 0, 0, 0, 0, ([] : LR), 0, ([] : List Int), y0.2.2) else (match (veil (xlate_Peek.f BIG y0.1 y0.2.1)) with | none => none | some y1 => (if (y1.2.2.2.2.2.2.2.2.2.2.2 == (0 : Int)) then (if (decide (y1.1 ≥ (1 : Int))) then (match (veil (span_Has.f BIG ownLo ownHi y0.1)) with | none => none | some y2 => (if (!y2) then (if (y0.1 == (1 : Int)) then (if (decide (y1.1 ≤ (3 : Int))) then some (y1.1, y1.2.1, y1.2.2.1, y1.2.2.2.1, y1.2.2.2.2.1, y1.2.2.2.2.2.1, y1.2.2.2.2.2.2.1, y1.2.2.2.2.2.2.2.1, y1.2.2.2.2.2.2.2.2.1, y1.2.2.2.2.2.2.2.2.2.1, y1.2.2.2.2.2.2.2.2.2.2.1, y0.1, y0.2.1, (0 : Int)) else some (0, 0, 0, 0, 0, 0, 0, 0, 0, 0, ([] : LR), y0.1, ([] : List Int), (9 : Int))) else some (0, 0, 0, 0, 0, 0, 0, 0, 0, 0, ([] : LR), y0.1, ([] : List Int), (9 : Int))) else (if (y1.2.2.2.2.2.2.2.2.2.2.2 != (0 : Int)) then some (0, 0, 0, 0, 0, 0, 0, 0, 0, 0, ([] : LR), 0, ([] : List Int), y1.2.2.2.2.2.2.2.2.2.2.2) else (if (decide (y1.1 ≤ (3 : Int))) then (if (y0.1 != (1 : Int)) then some (0, 0, 0, 0, 0, 0, 0, 0, 0, 0, ([] : LR), 0, ([] : List Int), (10 : Int)) else some (y1.1, y1.2.1, y1.2.2.1, y1.2.2.2.1, y1.2.2.2.2.1, y1.2.2.2.2.2.1, y1.2.2.2.2.2.2.1, y1.2.2.2.2.2.2.2.1, y1.2.2.2.2.2.2.2.2.1, y1.2.2.2.2.2.2.2.2.2.1, y1.2.2.2.2.2.2.2.2.2.2.1, y0.1, y0.2.1, (0 : Int))) else some (y1.1, y1.2.1, y1.2.2.1, y1.2.2.2.1, y1.2.2.2.2.1, y1.2.2.2.2.2.1, y1.2.2.2.2.2.2.1, y1.2.2.2.2.2.2.2.1, y1.2.2.2.2.2.2.2.2.1, y1.2.2.2.2.2.2.2.2.2.1, y1.2.2.2.2.2.2.2.2.2.2.1, y0.1, y0.2.1, (0 : Int)))))) else (match (veil (span_Has.f BIG ownLo ownHi y0.1)) with | none => none | some y3 => (if (!y3) then (if (y0.1 == (1 : Int)) then some (0, 0, 0, 0, 0, 0, 0, 0, 0, 0, ([] : LR), y0.1, ([] : List Int), (9 : Int)) else some (0, 0, 0, 0, 0, 0, 0, 0, 0, 0, ([] : LR), y0.1, ([] : List Int), (9 : Int))) else (if (y1.2.2.2.2.2.2.2.2.2.2.2 != (0 : Int)) then some (0, 0, 0, 0, 0, 0, 0, 0, 0, 0, ([] : LR), 0, ([] : List Int), y1.2.2.2.2.2.2.2.2.2.2.2) else some (y1.1, y1.2.1, y1.2.2.1, y1.2.2.2.1, y1.2.2.2.2.1, y1.2.2.2.2.2.1, y1.2.2.2.2.2.2.1, y1.2.2.2.2.2.2.2.1, y1.2.2.2.2.2.2.2.2.1, y1.2.2.2.2.2.2.2.2.2.1, y1.2.2.2.2.2.2.2.2.2.2.1, y0.1, y0.2.1, (0 : Int)))))) else (match (veil (span_Has.f BIG ownLo ownHi y0.1)) with | none => none | some y4 => (if (!y4) then (if (y0.1 == (1 : Int)) then some (0, 0, 0, 0, 0, 0, 0, 0, 0, 0, ([] : LR), y0.1, ([] : List Int), (9 : Int)) else some (0, 0, 0, 0, 0, 0, 0, 0, 0, 0, ([] : LR), y0.1, ([] : List Int), (9 : Int))) else (if (y1.2.2.2.2.2.2.2.2.2.2.2 != (0 : Int)) then some (0, 0, 0, 0, 0, 0, 0, 0, 0, 0, ([] : LR), 0, ([] : List Int), y1.2.2.2.2.2.2.2.2.2.2.2) else some (y1.1, y1.2.1, y1.2.2.1, y1.2.2.2.1, y1.2.2.2.2.1, y1.2.2.2.2.2.1, y1.2.2.2.2.2.2.1, y1.2.2.2.2.2.2.2.1, y1.2.2.2.2.2.2.2.2.1, y1.2.2.2.2.2.2.2.2.2.1, y1.2.2.2.2.2.2.2.2.2.2.1, y0.1, y0.2.1, (0 : Int)))))))))
def law30_open.f (fuel : Nat) (b : List Int) (ownLo ownHi : Int) : Option (Int × Int × Int × Int × Int × Int × Int × Int × Int × Int × LR × Int × (List Int) × Int) := law30_open.b b ownLo ownHi
theorem law30_open.eq (fuel : Nat) (b : List Int) (ownLo ownHi : Int) : (denF law30_open_E loopN fuel Tryz.f17 [.dat (.pair (.pair (.int .i64) (.pair (.int .i64) (.pair (.int .i64) (.pair (.pair (.int .i64) (.int .i64)) (.pair (.int .i64) (.pair (.int .i64) (.pair (.int .i64) (.pair (.int .i64) (.pair (.int .i64) (.sl (.pair (.int .i64) (.pair (.int .i64) (.pair (.int .i64) (.pair (.pair (.int .i64) (.int .i64)) (.pair .bool (.sl (.pair (.int .i64) (.sl (.int .u8))))))))))))))))))) (.pair (.int .i64) (.sl (.int .u8)))) true, .raw] [.d (.sl (.int .u8)) b, .agg [.d (.int .i64) ownLo, .d (.int .i64) ownHi]] [] law30_open.k) = law30_open.f fuel b ownLo ownHi := by
 kernel_rfl
def s_law30_open : Den.Sum := ⟨[.dat (.sl (.int .u8)) false, .dat (.pair (.int .i64) (.int .i64)) true], fun args objs κ => match args, objs with
 | [.d (.sl (.int .u8)) b, .agg [.d (.int .i64) ownLo, .d (.int .i64) ownHi]], [] => (match veil (law30_open.f BIG b ownLo ownHi) with | none => none | some y => κ [.agg [.d (.int .i64) y.1, .d (.int .i64) y.2.1, .d (.int .i64) y.2.2.1, .d (.int .i64) y.2.2.2.1, .d (.int .i64) y.2.2.2.2.1, .d (.int .i64) y.2.2.2.2.2.1, .d (.int .i64) y.2.2.2.2.2.2.1, .d (.int .i64) y.2.2.2.2.2.2.2.1, .d (.int .i64) y.2.2.2.2.2.2.2.2.1, .d (.int .i64) y.2.2.2.2.2.2.2.2.2.1, .d (.sl (.pair (.int .i64) (.pair (.int .i64) (.pair (.int .i64) (.pair (.pair (.int .i64) (.int .i64)) (.pair .bool (.sl (.pair (.int .i64) (.sl (.int .u8)))))))))) y.2.2.2.2.2.2.2.2.2.2.1, .d (.int .i64) y.2.2.2.2.2.2.2.2.2.2.2.1, .d (.sl (.int .u8)) y.2.2.2.2.2.2.2.2.2.2.2.2.1], .d (.int .i64) y.2.2.2.2.2.2.2.2.2.2.2.2.2] [])
 | _, _ => none⟩
theorem s_law30_open_det : SumDet s_law30_open := fun avs objs R κ => by
 show s_law30_open.run avs objs (two κ) = (s_law30_open.run avs objs (two some)).bind κ
 unfold s_law30_open
 simp only [veil_eq]
 split
 ·split <;> rfl
 ·rfl
theorem s_law30_open_ok : SumOk Tryz.prog 17 s_law30_open := by
 have hE : EnvOk Tryz.prog law30_open_E := env_ok (l := [(12, s_span_Has), (31, s_frame_Open), (32, s_xlate_Peek)]) th_ok any_ok ⟨⟨s_span_Has_ok, s_span_Has_det⟩, ⟨s_frame_Open_ok, s_frame_Open_det⟩, ⟨s_xlate_Peek_ok, s_xlate_Peek_det⟩, trivial⟩ _
 refine sum_ok hE Tryz.func17 rfl (by kernel_rfl) s_law30_open [.dat (.pair (.pair (.int .i64) (.pair (.int .i64) (.pair (.int .i64) (.pair (.pair (.int .i64) (.int .i64)) (.pair (.int .i64) (.pair (.int .i64) (.pair (.int .i64) (.pair (.int .i64) (.pair (.int .i64) (.sl (.pair (.int .i64) (.pair (.int .i64) (.pair (.int .i64) (.pair (.pair (.int .i64) (.int .i64)) (.pair .bool (.sl (.pair (.int .i64) (.sl (.int .u8))))))))))))))))))) (.pair (.int .i64) (.sl (.int .u8)))) true, .raw] law30_open.k ?_
 intro R avs objs κ r h
 unfold s_law30_open at h
 simp only [veil_eq] at h
 split at h
 ·rename_i b ownLo ownHi
  split at h
  ·cases h
  ·rename_i y hy
   refine ⟨BIG, _, _, _, (law30_open.eq BIG b ownLo ownHi).trans hy, ?_, h⟩
   intro rs ros hk
   unfold law30_open.k at hk
   split at hk
   ·first | (cases hk; exact ⟨rfl, rfl⟩) | (have e := Option.some.inj hk; rw [← e]; exact ⟨rfl, rfl⟩)
   ·cases hk
 ·cases h
def law30_awake_E : Env := ⟨th, gam [(10, s_parcel_Seal), (11, s_parcel_Open)], fun i => ⟨[], [], []⟩⟩
def law30_awake.k (rs : List AV) (os : List Den.Obj) : Option Bool :=
 match rs, os with
 | [.d .bool r0], [] => some r0
 | _, _ => none
def law30_awake.b (u : Unit) : Option Bool :=
 (match (veil (parcel_Seal.f BIG (2 : Int) (1 : Int) 0 0 (2 : Int) (3 : Int) 0 0 0 0 0 ([] : LR) ([] : LR))) with | none => none | some y0 => (match (veil (parcel_Seal.f BIG (1 : Int) (4 : Int) 0 0 (2 : Int) (3 : Int) 0 0 0 0 0 ([] : LR) ([] : LR))) with | none => none | some y1 => (match (veil (parcel_Open.f BIG y1.1 (2 : Int) (3 : Int))) with | none => none | some y2 => (match (veil (parcel_Seal.f BIG (1 : Int) (1 : Int) 0 0 (2 : Int) (3 : Int) (7 : Int) 0 0 0 0 ([] : LR) ([] : LR))) with | none => none | some y3 => (match (veil (parcel_Open.f BIG y3.1 (2 : Int) (3 : Int))) with | none => none | some y4 => (if (y0.2 == (10 : Int)) then (if (y1.2 == (0 : Int)) then (if (y2.2.2.2.2.2.2.2.2.2.2.2.2.2 == (9 : Int)) then (if (y2.2.2.2.2.2.2.2.2.2.2.2.1 == (1 : Int)) then (if (y3.2 == (0 : Int)) then (if (y4.2.2.2.2.2.2.2.2.2.2.2.2.2 == (0 : Int)) then some ((y4.2.2.2.2.2.1 == (7 : Int))) else some (false)) else some (false)) else some (false)) else some (false)) else some (false)) else some (false)))))))
def law30_awake.f (fuel : Nat) (u : Unit) : Option Bool := law30_awake.b u
theorem law30_awake.eq (fuel : Nat) (u : Unit) : (denF law30_awake_E loopN fuel Tryz.f9 [.raw] [] [] law30_awake.k) = law30_awake.f fuel u := by
 kernel_rfl
end
end Go.Proofs.YtneiiplppcjjlaaGreatDoor
