/- ParcelOpens: whatever bytes, span and base are given, the law returns true, and the input reads as it did; the table crc.halves is tied to the text of the program. -/
import Derived.Test.YtneiiplppcjjlaaGreatDoorZParcelOpens4
set_option linter.unusedVariables false
set_option linter.unusedSimpArgs false
set_option maxRecDepth 100000
namespace Go.Proofs.YtneiiplppcjjlaaGreatDoor
open Go.Den
noncomputable section
def s_law30_awake : Den.Sum := ⟨[], fun args objs κ => match args, objs with
 | [], [] => (match veil (law30_awake.f BIG ()) with | none => none | some y => κ [.d .bool y] [])
 | _, _ => none⟩
theorem s_law30_awake_det : SumDet s_law30_awake := fun avs objs R κ => by
 show s_law30_awake.run avs objs (two κ) = (s_law30_awake.run avs objs (two some)).bind κ
 unfold s_law30_awake
 simp only [veil_eq]
 split
 ·split <;> rfl
 ·rfl
theorem s_law30_awake_ok : SumOk Tryz.prog 9 s_law30_awake := by
 have hE : EnvOk Tryz.prog law30_awake_E := env_ok (l := [(10, s_parcel_Seal), (11, s_parcel_Open)]) th_ok any_ok ⟨⟨s_parcel_Seal_ok, s_parcel_Seal_det⟩, ⟨s_parcel_Open_ok, s_parcel_Open_det⟩, trivial⟩ _
 refine sum_ok hE Tryz.func9 rfl (by kernel_rfl) s_law30_awake [.raw] law30_awake.k ?_
 intro R avs objs κ r h
 unfold s_law30_awake at h
 simp only [veil_eq] at h
 split at h
 ·skip
  split at h
  ·cases h
  ·rename_i y hy
   refine ⟨BIG, _, _, _, (law30_awake.eq BIG ()).trans hy, ?_, h⟩
   intro rs ros hk
   unfold law30_awake.k at hk
   split at hk
   ·first | (cases hk; exact ⟨rfl, rfl⟩) | (have e := Option.some.inj hk; rw [← e]; exact ⟨rfl, rfl⟩)
   ·cases hk
 ·cases h
def law30_ParcelOpens_E : Env := ⟨th, gam [(8, s_few8), (9, s_law30_awake), (11, s_parcel_Open), (14, s_parcel_Parcel_Read), (15, s_alike10), (17, s_law30_open), (18, s_parcel_Parcel_Needs), (19, s_xlate_Decode)], fun i => ⟨[], [], []⟩⟩
def law30_ParcelOpens.k (rs : List AV) (os : List Den.Obj) : Option Bool :=
 match rs, os with
 | [.d .bool r0], [] => some r0
 | _, _ => none
def law30_ParcelOpens.b (b : List Int) (ownLo ownHi : Int) (base : LR) : Option Bool :=
 (if (decide (((((List.length b)) : Nat) : Int) > (2000 : Int))) then (match (veil (law30_awake.f BIG ())) with | none => none | some y0 => some (y0)) else (if (smallRecs base) then (if (!(few8 base)) then (match (veil (law30_awake.f BIG ())) with | none => none | some y1 => some (y1)) else (match (veil (parcel_Open.f BIG b ownLo ownHi)) with | none => none | some y2 => (match (veil (law30_open.f BIG b ownLo ownHi)) with | none => none | some y3 => (if (y2.2.2.2.2.2.2.2.2.2.2.2.2.2 != y3.2.2.2.2.2.2.2.2.2.2.2.2.2) then some (false) else (if (y2.2.2.2.2.2.2.2.2.2.2.2.1 != y3.2.2.2.2.2.2.2.2.2.2.2.1) then some (false) else (if (!((ByteArray.toList (strOf y2.2.2.2.2.2.2.2.2.2.2.2.2.1)) == (ByteArray.toList (strOf y3.2.2.2.2.2.2.2.2.2.2.2.2.1)))) then some (false) else (if ((smallRecs y2.2.2.2.2.2.2.2.2.2.2.1) && (smallRecs y3.2.2.2.2.2.2.2.2.2.2.1)) then (if (!((y2.1 == y3.1) && ((y2.2.1 == y3.2.1) && ((y2.2.2.1 == y3.2.2.1) && ((y2.2.2.2.1 == y3.2.2.2.1) && ((y2.2.2.2.2.1 == y3.2.2.2.2.1) && ((y2.2.2.2.2.2.1 == y3.2.2.2.2.2.1) && ((y2.2.2.2.2.2.2.1 == y3.2.2.2.2.2.2.1) && ((y2.2.2.2.2.2.2.2.1 == y3.2.2.2.2.2.2.2.1) && ((y2.2.2.2.2.2.2.2.2.1 == y3.2.2.2.2.2.2.2.2.1) && ((y2.2.2.2.2.2.2.2.2.2.1 == y3.2.2.2.2.2.2.2.2.2.1) && (allGo y2.2.2.2.2.2.2.2.2.2.2.1 y3.2.2.2.2.2.2.2.2.2.2.1)))))))))))) then some (false) else (match (veil (parcel_Parcel_Needs.f BIG y2.1 y2.2.1 y2.2.2.1 y2.2.2.2.1 y2.2.2.2.2.1 y2.2.2.2.2.2.1 y2.2.2.2.2.2.2.1 y2.2.2.2.2.2.2.2.1 y2.2.2.2.2.2.2.2.2.1 y2.2.2.2.2.2.2.2.2.2.1 y2.2.2.2.2.2.2.2.2.2.2.1 y2.2.2.2.2.2.2.2.2.2.2.2.1 y2.2.2.2.2.2.2.2.2.2.2.2.2.1)) with | none => none | some y4 => (if (!(y4 == (decide (y3.2.2.2.2.2.2.2.2.2.1 > (0 : Int))))) then some (false) else (if (y2.2.2.2.2.2.2.2.2.2.2.2.2.2 != (0 : Int)) then (match (veil (law30_awake.f BIG ())) with | none => none | some y5 => some (y5)) else (match (veil (parcel_Parcel_Read.f BIG y2.1 y2.2.1 y2.2.2.1 y2.2.2.2.1 y2.2.2.2.2.1 y2.2.2.2.2.2.1 y2.2.2.2.2.2.2.1 y2.2.2.2.2.2.2.2.1 y2.2.2.2.2.2.2.2.2.1 y2.2.2.2.2.2.2.2.2.2.1 y2.2.2.2.2.2.2.2.2.2.2.1 y2.2.2.2.2.2.2.2.2.2.2.2.1 y2.2.2.2.2.2.2.2.2.2.2.2.2.1 base)) with | none => none | some y6 => (match (veil (xlate_Decode.f BIG y3.2.2.2.2.2.2.2.2.2.2.2.1 y3.2.2.2.2.2.2.2.2.2.2.2.2.1 base)) with | none => none | some y7 => (if (y6.2.2.2.2.2.2.2.2.2.2.2 == y7.2.2.2.2.2.2.2.2.2.2.2) then (if ((smallRecs y6.2.2.2.2.2.2.2.2.2.2.1) && (smallRecs y7.2.2.2.2.2.2.2.2.2.2.1)) then (if ((y6.1 == y7.1) && ((y6.2.1 == y7.2.1) && ((y6.2.2.1 == y7.2.2.1) && ((y6.2.2.2.1 == y7.2.2.2.1) && ((y6.2.2.2.2.1 == y7.2.2.2.2.1) && ((y6.2.2.2.2.2.1 == y7.2.2.2.2.2.1) && ((y6.2.2.2.2.2.2.1 == y7.2.2.2.2.2.2.1) && ((y6.2.2.2.2.2.2.2.1 == y7.2.2.2.2.2.2.2.1) && ((y6.2.2.2.2.2.2.2.2.1 == y7.2.2.2.2.2.2.2.2.1) && ((y6.2.2.2.2.2.2.2.2.2.1 == y7.2.2.2.2.2.2.2.2.2.1) && (allGo y6.2.2.2.2.2.2.2.2.2.2.1 y7.2.2.2.2.2.2.2.2.2.2.1))))))))))) then (match (veil (law30_awake.f BIG ())) with | none => none | some y8 => some (y8)) else some (false)) else none) else some (false)))))))) else none))))))) else none))
def law30_ParcelOpens.f (fuel : Nat) (b : List Int) (ownLo ownHi : Int) (base : LR) : Option Bool := law30_ParcelOpens.b b ownLo ownHi base
theorem law30_ParcelOpens.eq (fuel : Nat) (b : List Int) (ownLo ownHi : Int) (base : LR) : (denF law30_ParcelOpens_E loopN fuel Tryz.f4 [.raw] [.d (.sl (.int .u8)) b, .agg [.d (.int .i64) ownLo, .d (.int .i64) ownHi], .d (.sl (.pair (.int .i64) (.pair (.int .i64) (.pair (.int .i64) (.pair (.pair (.int .i64) (.int .i64)) (.pair .bool (.sl (.pair (.int .i64) (.sl (.int .u8)))))))))) base] [] law30_ParcelOpens.k) = law30_ParcelOpens.f fuel b ownLo ownHi base := by
 kernel_rfl
def sealP (gen k f i lo hi s t l e b : Int) (recs base : LR) : List Int × Int :=
 if (1 ≤ k ∧ k ≤ 3) ∧ gen ≠ 1 then ([], 10) else if (writeX gen k f i lo hi s t l e b recs base).2 ≠ 0 then ([], (writeX gen k f i lo hi s t l e b recs base).2) else sealX gen (writeX gen k f i lo hi s t l e b recs base).1
theorem write_isB {gen k f i lo hi s t l e b : Int} {recs base : LR} (hb : byteBags recs) (h0 : (writeX gen k f i lo hi s t l e b recs base).2 = 0) : isB (writeX gen k f i lo hi s t l e b recs base).1 := by
 by_cases h3 : gen = 3 ∧ sortedF base = false
 ·obtain ⟨rfl, hs⟩ := h3
  rw [writeX3] at h0
  unfold enc3 at h0
  rw [hs] at h0
  simp at h0
 ·refine (write_bytes (fun h => ?_) hb).1
  cases hs : sortedF base with
  | true => rfl
  | false => exact absurd ⟨h, hs⟩ h3
theorem msg_Greets.pure (k : Int) : msg_Greets.f BIG k = some (decide (1 ≤ k ∧ k ≤ 3)) := by
 unfold msg_Greets.f msg_Greets.b
 by_cases h : k ≥ 1
 ·rw [if_pos (by simpa using h)]
  by_cases h2 : k ≤ 3
  ·simp [h2]; omega
  ·simp [h2]
 ·rw [if_neg (by simpa using h)]
  simp; omega
theorem parcel_Seal.pure (gen k f i lo hi s t l e b : Int) (recs base : LR) (hr : smallRecs recs = true) (hl : smallRecs base = true) (hln : base.length < 1000000000) (hb : byteBags recs) :
  parcel_Seal.f BIG gen k f i lo hi s t l e b recs base = some (sealP gen k f i lo hi s t l e b recs base) := by
 unfold parcel_Seal.f parcel_Seal.b sealP
 rw [msg_Greets.pure, XEnc.pure gen k f i lo hi s t l e b recs base hr hl hln]
 simp only [veil_eq]
 by_cases h0 : (writeX gen k f i lo hi s t l e b recs base).2 = 0
 ·rw [frame_Seal.pure gen _ (write_isB hb h0)]
  simp only [veil_eq]
  by_cases hg : 1 ≤ k ∧ k ≤ 3
  ·rw [if_pos (by simpa using hg)]
   by_cases g1 : gen = 1
   ·rw [if_neg (by simp [g1]), if_neg (by simp [h0]), if_neg (by simp [g1]), if_neg (by simp [h0])]
   ·rw [if_pos (by simp [g1]), if_pos ⟨hg, g1⟩]
  ·rw [if_neg (by simpa using hg), if_neg (by simp [h0]), if_neg (by intro h; exact hg h.1), if_neg (by simp [h0])]
 ·by_cases hg : 1 ≤ k ∧ k ≤ 3
  ·rw [if_pos (by simpa using hg)]
   by_cases g1 : gen = 1
   ·rw [if_neg (by simp [g1]), if_pos (by simpa using h0), if_neg (by simp [g1]), if_pos h0]
   ·rw [if_pos (by simp [g1]), if_pos ⟨hg, g1⟩]
  ·rw [if_neg (by simpa using hg), if_pos (by simpa using h0), if_neg (by intro h; exact hg h.1), if_pos h0]
theorem has_no (gen : Int) (h : gen < 2) : span_Has.f BIG 2 3 gen = some false := by
 unfold span_Has.f span_Has.b
 have e : okS 2 3 = true := by kernel_rfl
 rw [e, if_pos rfl, if_neg (by simp; omega)]
def w4 : List Int := (writeX 1 4 0 0 2 3 0 0 0 0 0 [] []).1
def w1 : List Int := (writeX 1 1 0 0 2 3 7 0 0 0 0 [] []).1
theorem bagsE : byteBags [] := by
 intro r hr
 simp at hr
theorem sealP_1 (k s : Int) (w : List Int) (h : writeX 1 k 0 0 2 3 s 0 0 0 0 [] [] = (w, 0)) (hl : w.length ≤ 65499) : sealP 1 k 0 0 2 3 s 0 0 0 0 [] [] = (sealF 1 w, 0) := by
 unfold sealP
 rw [h, if_neg (by simp), if_neg (by simp)]
 unfold sealX
 rw [if_neg (by decide), if_neg (by show ¬ w.length > 65499; omega)]
theorem Awake30.pure : law30_awake.f BIG () = some true := by
 have n0 : smallRecs ([] : LR) = true := rfl
 have p := fun gen k s => parcel_Seal.pure gen k 0 0 2 3 s 0 0 0 0 [] [] n0 n0 (by simp) bagsE
 have h4 : writeX 1 4 0 0 2 3 0 0 0 0 0 [] [] = (w4, 0) := Prod.ext rfl (by kernel_rfl)
 have h1 : writeX 1 1 0 0 2 3 7 0 0 0 0 [] [] = (w1, 0) := Prod.ext rfl (by kernel_rfl)
 have b4 : isB w4 ∧ w4.length ≤ 65499 := write_bytes (gen := 1) (base := []) (fun h => by cases h) bagsE
 have b1 : isB w1 ∧ w1.length ≤ 65499 := write_bytes (gen := 1) (base := []) (fun h => by cases h) bagsE
 have k4 : (peekX 1 w4).1 = 4 := by kernel_rfl
 have z4 : (peekX 1 w4).2.2.2.2.2.2.2.2.2.2.2 = 0 := by kernel_rfl
 have k1 : (peekX 1 w1).1 = 1 := by kernel_rfl
 have s1 : (peekX 1 w1).2.2.2.2.2.1 = 7 := by kernel_rfl
 have z1 : (peekX 1 w1).2.2.2.2.2.2.2.2.2.2.2 = 0 := by kernel_rfl
 have e2 : sealP 2 1 0 0 2 3 0 0 0 0 0 [] [] = ([], 10) := by unfold sealP; rw [if_pos ⟨⟨by decide, by decide⟩, by decide⟩]
 have o4 : ∃ m : List Int, parcel_Open.f BIG (sealF 1 w4) 2 3 = some (0, 0, 0, 0, 0, 0, 0, 0, 0, 0, [], 1, m, 9) := by
  refine ⟨[], ?_⟩
  unfold parcel_Open.f parcel_Open.b
  rw [open_seal 1 w4 (by decide) (by decide) b4.1 b4.2]
  simp only [veil_eq]
  rw [if_neg (by simp), XPeek.pure 1 w4 b4.1 (by have := b4.2; omega)]
  simp only [veil_eq]
  rw [z4, k4, msg_Greets.pure, has_no 1 (by decide)]
  simp only [veil_eq]
  rw [if_pos (by rfl), if_pos (by rfl), if_neg (by simp), if_pos (by simp)]
 have o1 : ∃ a c d ee g t l e b r m gg, parcel_Open.f BIG (sealF 1 w1) 2 3 = some (a, c, d, ee, g, 7, t, l, e, b, r, gg, m, 0) := by
  unfold parcel_Open.f parcel_Open.b
  rw [open_seal 1 w1 (by decide) (by decide) b1.1 b1.2]
  simp only [veil_eq]
  rw [if_neg (by simp), XPeek.pure 1 w1 b1.1 (by have := b1.2; omega)]
  simp only [veil_eq]
  rw [z1, k1, s1, msg_Greets.pure, has_no 1 (by decide)]
  simp only [veil_eq]
  rw [if_pos (by rfl), if_pos (by rfl), if_neg (by simp), if_neg (by simp), if_neg (by simp), if_pos (by simp), if_neg (by simp)]
  exact ⟨_, _, _, _, _, _, _, _, _, _, _, _, rfl⟩
 obtain ⟨m4, o4⟩ := o4
 obtain ⟨a, c, d, ee, g, t, l, e, b, r, m, gg, o1⟩ := o1
 unfold law30_awake.f law30_awake.b
 rw [p 2 1 0, p 1 4 0, p 1 1 7, e2, sealP_1 4 0 w4 h4 b4.2, sealP_1 1 7 w1 h1 b1.2]
 simp only [veil_eq]
 rw [o4, o1]
 simp only [veil_eq]
 rfl
def openX (b : List Int) : Int × List Int × Int :=
 if b.length > 65507 then (0, [], 3)
 else if b.length < 8 then (0, [], 2)
 else if numB ((b.take 1).drop 0) ≠ 156 ∨ numB ((b.take 2).drop 1) < 1 ∨ numB ((b.take 2).drop 1) > 3 ∨ numB ((b.take 4).drop 2) ≠ ((b.length - 8 : Nat) : Int) then (0, [], 4)
 else if IntKind.wrap .u32 (numB (b.drop (b.length - 4))) ≠ (crcF (b.take (b.length - 4)) : Int) then (0, [], 8)
 else (numB ((b.take 2).drop 1), (b.take (b.length - 4)).drop 4, 0)
theorem isB_take {l : List Int} (h : isB l) (n : Nat) : isB (l.take n) := fun c hc => h c (List.mem_of_mem_take hc)
theorem isB_drop {l : List Int} (h : isB l) (n : Nat) : isB (l.drop n) := fun c hc => h c (List.mem_of_mem_drop hc)
theorem frame_Open.pure (L : List Int) (hb : isB L) (hl : L.length ≤ 1000000) : frame_Open.f BIG L = some (openX L) := by
 have hin := inB_of hb hl
 unfold frame_Open.f frame_Open.b openX
 by_cases h1 : L.length > 65507
 ·rw [if_pos (by simp; omega), if_pos h1]
 rw [if_neg (by simp; omega), if_neg h1]
 by_cases h2 : L.length < 8
 ·rw [if_pos (by simp; omega), if_pos h2]
 rw [if_neg (by simp; omega), if_neg h2]
 have hat : ∀ a : Nat, a ≤ L.length → atOk L (a : Int) = true := by
  intro a h1
  unfold atOk
  rw [hin]
  simp
  omega
 have r0 := read_at L 1 0 (by omega) (by omega) (by omega)
 have r1 := read_at L 1 1 (by omega) (by omega) (by omega)
 have r2 := read_at L 2 2 (by omega) (by omega) (by omega)
 simp only [show ((0 : Nat) : Int) = 0 from rfl, show ((1 : Nat) : Int) = 1 from rfl, show ((2 : Nat) : Int) = 2 from rfl, show ((0 + 1 : Nat) : Int) = 1 from rfl, show ((1 + 1 : Nat) : Int) = 2 from rfl, show ((2 + 2 : Nat) : Int) = 4 from rfl, show 0 + 1 = 1 from rfl, show 1 + 1 = 2 from rfl, show 2 + 2 = 4 from rfl] at r0 r1 r2
 have a0 := hat 0 (by omega)
 have a1 := hat 1 (by omega)
 have a2 := hat 2 (by omega)
 have a4 := hat 4 (by omega)
 simp only [show ((0 : Nat) : Int) = 0 from rfl, show ((1 : Nat) : Int) = 1 from rfl, show ((2 : Nat) : Int) = 2 from rfl, show ((4 : Nat) : Int) = 4 from rfl] at a0 a1 a2 a4
 rw [if_pos hin, if_pos a0]
 simp only [veil_eq, r0]
 rw [if_pos a1]
 simp only [veil_eq, r1]
 rw [if_pos a2]
 simp only [veil_eq, r2]
 have w8 : IntKind.wrap .i64 (((L.length : Nat) : Int) - 8) = ((L.length - 8 : Nat) : Int) := by rw [wrap_small _ (by omega) (by omega)]; omega
 have w4 : IntKind.wrap .i64 (((L.length : Nat) : Int) - 4) = ((L.length - 4 : Nat) : Int) := by rw [wrap_small _ (by omega) (by omega)]; omega
 rw [w8]
 by_cases c0' : numB ((L.take 1).drop 0) ≠ 156
 ·rw [if_pos (bne_iff_ne.2 c0'), if_pos (.inl c0')]
 have c0 : numB ((L.take 1).drop 0) = 156 := Decidable.not_not.1 c0'
 rw [if_neg (by rw [bne_iff_ne]; exact c0')]
 by_cases c1 : numB ((L.take 2).drop 1) < 1
 ·rw [if_pos (decide_eq_true c1), if_pos (.inr (.inl c1))]
 rw [if_neg (by rw [decide_eq_true_eq]; exact c1)]
 by_cases c3 : numB ((L.take 2).drop 1) > 3
 ·rw [if_pos (decide_eq_true c3), if_pos (.inr (.inr (.inl c3)))]
 rw [if_neg (by rw [decide_eq_true_eq]; exact c3)]
 by_cases cn' : numB ((L.take 4).drop 2) ≠ ((L.length - 8 : Nat) : Int)
 ·rw [if_pos (bne_iff_ne.2 cn'), if_pos (.inr (.inr (.inr cn')))]
 have cn : numB ((L.take 4).drop 2) = ((L.length - 8 : Nat) : Int) := Decidable.not_not.1 cn'
 have hno : ¬ (numB ((L.take 1).drop 0) ≠ 156 ∨ numB ((L.take 2).drop 1) < 1 ∨ numB ((L.take 2).drop 1) > 3 ∨ numB ((L.take 4).drop 2) ≠ ((L.length - 8 : Nat) : Int)) := by
  rintro (h | h | h | h)
  ·exact h c0
  ·exact c1 h
  ·exact c3 h
  ·exact h cn
 rw [if_neg (by rw [bne_iff_ne]; exact cn'), if_neg hno, if_pos a4, cn]
 have r3 := step_at L (L.length - 8) 4 (by omega)
 have r4 := read_at L 4 (4 + (L.length - 8)) (by omega) (by omega) (by omega)
 have a5 := hat (4 + (L.length - 8)) (by omega)
 have e4 : 4 + (L.length - 8) = L.length - 4 := by omega
 rw [e4] at r3 r4 a5
 rw [List.take_of_length_le (show L.length ≤ L.length - 4 + 4 by omega)] at r4
 simp only [show ((4 : Nat) : Int) = 4 from rfl] at r3 r4
 simp only [veil_eq, r3]
 rw [if_pos a5]
 simp only [veil_eq, r4]
 rw [w4, if_pos (by omega), Int.toNat_natCast, List.drop_zero, crc_Of.pure _ (isB_take hb _) (by simp; omega)]
 simp only [veil_eq]
 by_cases cs : IntKind.wrap .u32 (numB (L.drop (L.length - 4))) = (crcF (L.take (L.length - 4)) : Int)
 ·rw [if_neg (by rw [bne_iff_ne]; exact fun h => h cs), if_neg (fun h => h cs)]
 ·rw [if_pos (bne_iff_ne.2 cs), if_pos cs]
theorem open_bytes {b : List Int} (hb : isB b) : isB (openX b).2.1 ∧ (openX b).2.1.length ≤ b.length := by
 unfold openX
 split
 ·exact ⟨isB_nil, by simp⟩
 ·split
  ·exact ⟨isB_nil, by simp⟩
  ·split
   ·exact ⟨isB_nil, by simp⟩
   ·split
    ·exact ⟨isB_nil, by simp⟩
    ·exact ⟨isB_drop (isB_take hb _) _, by simp; omega⟩
def hasB (lo hi gen : Int) : Bool := okS lo hi && (decide (lo ≤ gen) && decide (gen ≤ hi))
theorem span_Has.pure (lo hi gen : Int) : span_Has.f BIG lo hi gen = some (hasB lo hi gen) := by
 unfold span_Has.f span_Has.b hasB
 cases okS lo hi with
 | false => rw [if_neg (by simp)]; rfl
 | true =>
  rw [if_pos rfl]
  by_cases h : lo ≤ gen
  ·rw [if_pos (decide_eq_true h), decide_eq_true h]; rfl
  ·rw [if_neg (by rw [decide_eq_true_eq]; exact h), decide_eq_false h]; rfl
abbrev P14 := Int × Int × Int × Int × Int × Int × Int × Int × Int × Int × LR × Int × List Int × Int
def zP (g e : Int) : P14 := (0, 0, 0, 0, 0, 0, 0, 0, 0, 0, [], g, [], e)
def fullP (g : Int) (body : List Int) (h : M12) : P14 := (h.1, h.2.1, h.2.2.1, h.2.2.2.1, h.2.2.2.2.1, h.2.2.2.2.2.1, h.2.2.2.2.2.2.1, h.2.2.2.2.2.2.2.1, h.2.2.2.2.2.2.2.2.1, h.2.2.2.2.2.2.2.2.2.1, h.2.2.2.2.2.2.2.2.2.2.1, g, body, 0)
def greetB (k : Int) : Bool := decide (1 ≤ k ∧ k ≤ 3)
def openP (b : List Int) (lo hi : Int) : P14 :=
 if (openX b).2.2 ≠ 0 then zP 0 (openX b).2.2
 else if hasB lo hi (openX b).1 = false ∧ ((openX b).1 ≠ 1 ∨ ¬ (errX (peekX (openX b).1 (openX b).2.1) = 0 ∧ greetB (peekX (openX b).1 (openX b).2.1).1 = true)) then zP (openX b).1 9
 else if errX (peekX (openX b).1 (openX b).2.1) ≠ 0 then zP 0 (errX (peekX (openX b).1 (openX b).2.1))
 else if greetB (peekX (openX b).1 (openX b).2.1).1 = true ∧ (openX b).1 ≠ 1 then zP 0 10
 else fullP (openX b).1 (openX b).2.1 (peekX (openX b).1 (openX b).2.1)
theorem parcel_Open.pure (b : List Int) (lo hi : Int) (hb : isB b) (hl : b.length ≤ 1000000) : parcel_Open.f BIG b lo hi = some (openP b lo hi) := by
 obtain ⟨h1, h2⟩ := open_bytes hb
 unfold parcel_Open.f parcel_Open.b openP
 rw [frame_Open.pure b hb hl]
 simp only [veil_eq]
 rw [XPeek.pure _ _ h1 (by omega), span_Has.pure]
 simp only [veil_eq]
 rw [msg_Greets.pure]
 simp only [veil_eq]
 rw [show (decide (1 ≤ (peekX (openX b).1 (openX b).2.1).1 ∧ (peekX (openX b).1 (openX b).2.1).1 ≤ 3)) = greetB (peekX (openX b).1 (openX b).2.1).1 from rfl]
 rw [show (peekX (openX b).1 (openX b).2.1).2.2.2.2.2.2.2.2.2.2.2 = errX (peekX (openX b).1 (openX b).2.1) from rfl]
 generalize openX b = O
 generalize hH : peekX O.1 O.2.1 = H
 generalize hasB lo hi O.1 = has
 generalize greetB H.1 = gr
 by_cases e0 : O.2.2 = 0
 ·by_cases eh : errX H = 0
  ·by_cases g1 : O.1 = 1
   ·cases has <;> cases gr <;> simp [e0, eh, g1, zP, fullP]
   ·cases has <;> cases gr <;> simp [e0, eh, g1, zP, fullP]
  ·by_cases g1 : O.1 = 1
   ·cases has <;> cases gr <;> simp [e0, eh, g1, zP, fullP]
   ·cases has <;> cases gr <;> simp [e0, eh, g1, zP, fullP]
 ·simp [e0, zP]
theorem peek_base (gen : Int) (b : List Int) : 0 ≤ baseX (peekX gen b) := by
 unfold peekX
 by_cases h3 : gen = 3
 ·rw [if_pos (by simp [h3])]
  unfold head3X
  cases hh : hdS b with
  | none => exact Int.le_refl _
  | some m =>
   obtain ⟨k, f, i, lo, hi, s, t, l, e, bb, a⟩ := m
   show 0 ≤ bb
   unfold hdS at hh
   dsimp only at hh
   split at hh
   ·cases hh
   ·split at hh
    ·rename_i hv
     cases hh
     exact (lives_facts (valid_facts hv).2.2.2.2.2.2.2.2.2.2.2.1).2.2.2.2.1
    ·cases hh
 ·rw [if_neg (by simp [h3])]
  unfold readX
  split
  ·exact Int.le_refl _
  ·split
   ·exact Int.le_refl _
   ·split
    ·rename_i h; exact absurd (by simpa using h) h3
    ·exact Int.le_refl _
theorem open_base (b : List Int) (lo hi : Int) : 0 ≤ (openP b lo hi).2.2.2.2.2.2.2.2.2.1 := by
 unfold openP
 split
 ·exact Int.le_refl _
 ·split
  ·exact Int.le_refl _
  ·split
   ·exact Int.le_refl _
   ·split
    ·exact Int.le_refl _
    ·exact peek_base _ _
theorem law30_open.pure (b : List Int) (lo hi : Int) (hb : isB b) (hl : b.length ≤ 1000000) : law30_open.f BIG b lo hi = some (openP b lo hi) := by
 obtain ⟨h1, h2⟩ := open_bytes hb
 unfold law30_open.f law30_open.b openP
 rw [frame_Open.pure b hb hl]
 simp only [veil_eq]
 rw [XPeek.pure _ _ h1 (by omega), span_Has.pure]
 simp only [veil_eq]
 rw [show (peekX (openX b).1 (openX b).2.1).2.2.2.2.2.2.2.2.2.2.2 = errX (peekX (openX b).1 (openX b).2.1) from rfl]
 unfold greetB
 generalize openX b = O
 generalize hH : peekX O.1 O.2.1 = H
 generalize hasB lo hi O.1 = has
 by_cases e0 : O.2.2 = 0
 ·by_cases eh : errX H = 0
  ·by_cases g1 : O.1 = 1
   ·by_cases k1 : 1 ≤ H.1
    ·by_cases k3 : H.1 ≤ 3
     ·cases has <;> simp [e0, eh, g1, k1, k3, zP, fullP]
     ·cases has <;> simp [e0, eh, g1, k1, k3, zP, fullP]
    ·cases has <;> simp [e0, eh, g1, k1, zP, fullP]
   ·by_cases k1 : 1 ≤ H.1
    ·by_cases k3 : H.1 ≤ 3
     ·cases has <;> simp [e0, eh, g1, k1, k3, zP, fullP]
     ·cases has <;> simp [e0, eh, g1, k1, k3, zP, fullP]
    ·cases has <;> simp [e0, eh, g1, k1, zP, fullP]
  ·by_cases g1 : O.1 = 1
   ·cases has <;> simp [e0, eh, g1, zP, fullP]
   ·cases has <;> simp [e0, eh, g1, zP, fullP]
 ·simp [e0, zP]
theorem peek_recs (gen : Int) (b : List Int) : (peekX gen b).2.2.2.2.2.2.2.2.2.2.1 = [] := by
 unfold peekX
 split
 ·unfold head3X
  split <;> rfl
 ·rfl
theorem open_recs (b : List Int) (lo hi : Int) : (openP b lo hi).2.2.2.2.2.2.2.2.2.2.1 = [] := by
 unfold openP
 split
 ·rfl
 ·split
  ·rfl
  ·split
   ·rfl
   ·split
    ·rfl
    ·exact peek_recs _ _
theorem open_body {b : List Int} (lo hi : Int) (hb : isB b) : isB (openP b lo hi).2.2.2.2.2.2.2.2.2.2.2.2.1 ∧ (openP b lo hi).2.2.2.2.2.2.2.2.2.2.2.2.1.length ≤ b.length := by
 have hz : ∀ g e : Int, isB (zP g e).2.2.2.2.2.2.2.2.2.2.2.2.1 ∧ (zP g e).2.2.2.2.2.2.2.2.2.2.2.2.1.length ≤ b.length := fun g e => ⟨isB_nil, Nat.zero_le _⟩
 unfold openP
 split
 ·exact hz _ _
 ·split
  ·exact hz _ _
  ·split
   ·exact hz _ _
   ·split
    ·exact hz _ _
    ·exact open_bytes hb
theorem ParcelOpens.pure (b : List Int) (lo hi : Int) (base : LR) (hh : isB b ∧ smallRecs base = true) : law30_ParcelOpens.f 0 b lo hi base = some true := by
 obtain ⟨hb, hs⟩ := hh
 unfold law30_ParcelOpens.f law30_ParcelOpens.b
 simp only [veil_eq]
 rw [hs, Awake30.pure]
 by_cases h2 : b.length > 2000
 ·rw [if_pos (by simp; omega)]
 rw [if_neg (by simp; omega), if_pos rfl]
 cases h9 : few8 base
 ·rfl
 have hl : b.length ≤ 1000000 := by omega
 rw [parcel_Open.pure b lo hi hb hl, law30_open.pure b lo hi hb hl]
 dsimp only
 obtain ⟨ob, ol⟩ := open_body lo hi hb
 have orr := open_recs b lo hi
 have oba := open_base b lo hi
 generalize openP b lo hi = W at *
 have hdec := XDec.pure W.2.2.2.2.2.2.2.2.2.2.2.1 W.2.2.2.2.2.2.2.2.2.2.2.2.1 base ob (by omega) hs
 have hsm := readX_small (gen := W.2.2.2.2.2.2.2.2.2.2.2.1) (base := base) ob (by omega)
 unfold recsX at hsm
 unfold parcel_Parcel_Needs.f parcel_Parcel_Needs.b parcel_Parcel_Read.f parcel_Parcel_Read.b
 rw [hdec]
 simp only [veil_eq]
 have hn : (W.2.2.2.2.2.2.2.2.2.1 != 0) = decide (W.2.2.2.2.2.2.2.2.2.1 > 0) := by
  by_cases h : W.2.2.2.2.2.2.2.2.2.1 = 0
  ·rw [h]; rfl
  ·rw [bne_iff_ne.2 h]; simp; omega
 rw [orr, hn]
 simp [hsm, allGo_self, small_nil, all_nil]
theorem parcelOpens_envOk : EnvOk Tryz.prog law30_ParcelOpens_E := env_ok (l := [(8, s_few8), (9, s_law30_awake), (11, s_parcel_Open), (14, s_parcel_Parcel_Read), (15, s_alike10), (17, s_law30_open), (18, s_parcel_Parcel_Needs), (19, s_xlate_Decode)]) th_ok any_ok ⟨⟨s_few8_ok, s_few8_det⟩, ⟨s_law30_awake_ok, s_law30_awake_det⟩, ⟨s_parcel_Open_ok, s_parcel_Open_det⟩, ⟨s_parcel_Parcel_Read_ok, s_parcel_Parcel_Read_det⟩, ⟨s_alike10_ok, s_alike10_det⟩, ⟨s_law30_open_ok, s_law30_open_det⟩, ⟨s_parcel_Parcel_Needs_ok, s_parcel_Parcel_Needs_det⟩, ⟨s_xlate_Decode_ok, s_xlate_Decode_det⟩, trivial⟩ _
theorem parcelOpens_tells (b : List Int) (ownLo ownHi : Int) (base : LR) (hl : isB b ∧ smallRecs base = true) : denF law30_ParcelOpens_E loopN 0 Tryz.f4 [.raw] [.d (.sl (.int .u8)) b, .agg [.d (.int .i64) ownLo, .d (.int .i64) ownHi], .d (.sl (.pair (.int .i64) (.pair (.int .i64) (.pair (.int .i64) (.pair (.pair (.int .i64) (.int .i64)) (.pair .bool (.sl (.pair (.int .i64) (.sl (.int .u8)))))))))) base] [] isTrue = some () := by
 rw [denF_any parcelOpens_envOk.D ((law30_ParcelOpens.eq 0 b ownLo ownHi base).trans (ParcelOpens.pure b ownLo ownHi base hl)) (out := [.d .bool true]) (os := []) (fun rs ros hk => by
  unfold law30_ParcelOpens.k at hk
  split at hk
  ·first | (cases hk; exact ⟨rfl, rfl⟩) | (have e := Option.some.inj hk; rw [← e]; exact ⟨rfl, rfl⟩)
  ·cases hk)]
 rfl
set_option maxRecDepth 100000 in
theorem parcelOpens_lifted (os : Os) (started : os.Started) (H : Type) (enc : TypeId × Value → H) :
  ReturnsInHanded {} Tryz.checked os 4 .any (fun w args => (Rows.parcelOpensSpec.pre enc Tryz.prog Tryz.f4 [] false w args ∧ laidMetH Tryz.prog laidL w) ∧ sizedMet enc Tryz.prog Tryz.f4 (OpenSpec.ofChange Rows.parcelOpensSpec) false w args)
   (Rows.parcelOpensSpec.post enc Tryz.prog Tryz.f4 false true false false) := by
 refine returnsInHanded_of_change_and (C := Tryz.checked) (X := fun w _ => laidMetH Tryz.prog laidL w) (fun _ _ _ hh h => h.of_heap hh) Tryz.own started (by kernel_rfl) Tryz.func4
  (ChangeSpec.witness_shaped (enc := enc) (C := Tryz.checked) (os := os) (X := fun w _ => laidMetH Tryz.prog laidL w) false (World.doorLaid Tryz.prog 400 os) #[.slice none 0 0, .agg #[.int .i64 0, .int .i64 0], .slice none 0 0] 8 rfl (World.shaped_of_RefB (by kernel_rfl) (by kernel_rfl)) (by kernel_rfl) (by kernel_rfl) (by kernel_rfl) (door_met os _)) ?_
 intro W base args ds gs before hval hW _ hwt hL _
 exact law_contract parcelOpens_envOk Tryz.func4 rfl [(.sl (.int .u8), false), ((.pair (.int .i64) (.int .i64)), true), ((.sl (.pair (.int .i64) (.pair (.int .i64) (.pair (.int .i64) (.pair (.pair (.int .i64) (.int .i64)) (.pair .bool (.sl (.pair (.int .i64) (.sl (.int .u8)))))))))), false)] (tb := 4) (by kernel_rfl) (by kernel_rfl) (by kernel_rfl) rfl
  (fun ds h => by match ds, h with | [_, _, _], _ => rfl) Tryz.laidOut Tryz.mapsRow Tryz.slicesSize (fun y hg => ⟨0, parcelOpens_tells y.1 y.2.1.1 y.2.1.2 y.2.2.1 ⟨good_bytes hg.1, good_recs hg.2.2.1⟩⟩) W base args ds gs before hval hW hwt (laid_glob hL)
theorem parcelOpens_row : Rows.ParcelOpensSaid :=
 OpenClaim.holds_of_wide 4 Tryz.f4 rfl rfl rfl rfl rfl rfl rfl ⟨rfl, rfl, rfl, rfl, rfl⟩ rfl rfl rfl rfl rfl (by kernel_rfl) Tryz.func4 (by kernel_rfl)
  (of_decide_eq_true (by kernel_rfl)) (by unfold Func.isWrapper; first | (rw [if_pos (by decide +kernel)]; kernel_rfl) | (rw [if_neg (by decide +kernel)]; exact ⟨rfl, rfl⟩))
  (fun os started H enc _ => parcelOpens_lifted os started H enc)
theorem parcelOpens_holds : Rows.ParcelOpensCardSaid :=
 Claim7.holds_tied_plain_at .later [] [.data] true (true, "7f56fd0b3a73f309c59e77fbd84be1dadc43cc16a837bd7876cbbb970f836cba") false
  parcelOpens_row (fun _ h => by cases h) (by kernel_rfl) (fun _ h => by cases h) parcelOpens_row_tie rfl ⟨rfl, rfl⟩ (by kernel_rfl) rfl
  (fun f fn hf hfn => by
   obtain rfl : f = 4 := Option.some.inj ((show Tryz.prog.funcNamed "polyglot/polyglotlaw30.ParcelOpens" = some 4 by kernel_rfl).symm.trans hf) |>.symm
   obtain rfl : fn = Tryz.f4 := (Option.some.inj (Tryz.func4.symm.trans hfn)).symm
   exact ⟨by kernel_rfl, fun j t ht => by
    have hm : t ∈ Tryz.f4.params.toList := by simpa using Array.mem_of_getElem? ht
    have hall : (Tryz.f4.params.toList.all fun u => !Tryz.prog.wantsStandIn u) = true := by kernel_rfl
    exact (show Tryz.prog.wantsStandIn t = false by simpa using List.all_eq_true.1 hall t hm)⟩)
  (by kernel_rfl)
end
end Go.Proofs.YtneiiplppcjjlaaGreatDoor
